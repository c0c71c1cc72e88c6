/- What the arguments of the law PolicyTells read as, and the statement about them that is left: no memory and no program in it. -/
import Derived.Test.YtdieefjolkhmpaaPPox7
import Derived.Test.YtdieefjolkhmpaaOpen
namespace Go.Proofs.Ytdieefjolkhmpaa.PPoPolicyTells
open Go.RowKit Go.Proofs.Ytdieefjolkhmpaa.PPo Go.Proofs.YtdieefjolkhmpaaW.PrintWords Go.Proofs.YtdieefjolkhmpaaW.PrintLast Go.Proofs.YtdieefjolkhmpaaW.PrintMore
open Go.Proofs.Ytdieefjolkhmpaa.Open
set_option linter.unusedVariables false
noncomputable section
def ok3 : Int → Prop := fun n => (Lit.int .i64 n).wf = true
theorem op3 : Opens Try.prog 3 (Kd.int .i64) ok3 := opens_int Try.underlying3
def ok28 : S28 → Prop := fun x => ok3 x.f0 ∧ ok3 x.f1 ∧ ok3 x.f2 ∧ ok3 x.f3 ∧ ok3 x.f4
theorem op28 : Opens Try.prog 28 k28 ok28 := (opens_struct (kd := (Kd.pair (Kd.int .i64) (Kd.pair (Kd.int .i64) (Kd.pair (Kd.int .i64) (Kd.pair (Kd.int .i64) (Kd.int .i64)))))) Try.underlying28 (from_cons 0 rfl rfl (by kernel_rfl) op3 (from_cons 1 rfl rfl (by kernel_rfl) op3 (from_cons 2 rfl rfl (by kernel_rfl) op3 (from_cons 3 rfl rfl (by kernel_rfl) op3 (from_last 4 rfl rfl (by kernel_rfl) op3))))) (by kernel_rfl) (fun x : S28 => (x.f0, x.f1, x.f2, x.f3, x.f4)) (fun a => ⟨a.1, a.2.1, a.2.2.1, a.2.2.2.1, a.2.2.2.2⟩) (fun _ => rfl)).weaken (fun a h => h)
def ok35 : S35 → Prop := fun x => ok3 x.f0 ∧ ok3 x.f1 ∧ ok3 x.f2 ∧ ok3 x.f3 ∧ ok3 x.f4 ∧ ok3 x.f5 ∧ ok3 x.f6
theorem op35 : Opens Try.prog 35 k35 ok35 := (opens_array (kd := (Kd.pair (Kd.int .i64) (Kd.pair (Kd.int .i64) (Kd.pair (Kd.int .i64) (Kd.pair (Kd.int .i64) (Kd.pair (Kd.int .i64) (Kd.pair (Kd.int .i64) (Kd.int .i64)))))))) Try.underlying35 (fromA_cons 0 (by decide) (by kernel_rfl) op3 (fromA_cons 1 (by decide) (by kernel_rfl) op3 (fromA_cons 2 (by decide) (by kernel_rfl) op3 (fromA_cons 3 (by decide) (by kernel_rfl) op3 (fromA_cons 4 (by decide) (by kernel_rfl) op3 (fromA_cons 5 (by decide) (by kernel_rfl) op3 (fromA_last 6 (by decide) (by kernel_rfl) op3))))))) (by kernel_rfl) (fun x : S35 => (x.f0, x.f1, x.f2, x.f3, x.f4, x.f5, x.f6)) (fun a => ⟨a.1, a.2.1, a.2.2.1, a.2.2.2.1, a.2.2.2.2.1, a.2.2.2.2.2.1, a.2.2.2.2.2.2⟩) (fun _ => rfl)).weaken (fun a h => h)
def ok37 : S37 → Prop := fun x => ok28 x.f0 ∧ ok3 x.f1 ∧ ok35 x.f2
theorem op37 : Opens Try.prog 37 k37 ok37 := (opens_struct (kd := (Kd.pair k28 (Kd.pair (Kd.int .i64) k35))) Try.underlying37 (from_cons 0 rfl rfl (by kernel_rfl) op28 (from_cons 1 rfl rfl (by kernel_rfl) op3 (from_last 2 rfl rfl (by kernel_rfl) op35))) (by kernel_rfl) (fun x : S37 => (x.f0, x.f1, x.f2)) (fun a => ⟨a.1, a.2.1, a.2.2⟩) (fun _ => rfl)).weaken (fun a h => h)
/-- THE ONE PURE STATEMENT of pestlelaw46_PolicyTells. -/
def Pure : Prop := ∀ (x0 : S37) (x1 : S28), ok37 x0 → ok28 x1 → ∃ k, pestlelaw46_PolicyTells.f k x0.f0.f0 x0.f0.f1 x0.f0.f2 x0.f0.f3 x0.f0.f4 x0.f1 x0.f2.f0 x0.f2.f1 x0.f2.f2 x0.f2.f3 x0.f2.f4 x0.f2.f5 x0.f2.f6 x1.f0 x1.f1 x1.f2 x1.f3 x1.f4 = some true
end
end Go.Proofs.Ytdieefjolkhmpaa.PPoPolicyTells
