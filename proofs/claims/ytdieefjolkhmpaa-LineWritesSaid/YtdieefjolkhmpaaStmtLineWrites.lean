/- What the arguments of the law LineWrites read as, and the statement about them that is left: no memory and no program in it. -/
import Derived.Test.YtdieefjolkhmpaaPLix11
import Derived.Test.YtdieefjolkhmpaaOpen
namespace Go.Proofs.Ytdieefjolkhmpaa.PLiLineWrites
open Go.RowKit Go.Proofs.Ytdieefjolkhmpaa.PLi Go.Proofs.YtdieefjolkhmpaaW.PrintWords Go.Proofs.YtdieefjolkhmpaaW.PrintLast Go.Proofs.YtdieefjolkhmpaaW.PrintMore
open Go.Proofs.Ytdieefjolkhmpaa.Open
set_option linter.unusedVariables false
noncomputable section
def ok3 : Int → Prop := fun n => (Lit.int .i64 n).wf = true
theorem op3 : Opens Try.prog 3 (Kd.int .i64) ok3 := opens_int Try.underlying3
def ok9 : ByteArray → Prop := fun s => s.size ≤ maxLen
theorem op9 : Opens Try.prog 9 Kd.string ok9 := opens_string Try.underlying9
def ok23 : S23 → Prop := fun x => ok3 x.f0 ∧ ok9 x.f1 ∧ ok9 x.f2
theorem op23 : Opens Try.prog 23 k23 ok23 := (opens_struct (kd := (Kd.pair (Kd.int .i64) (Kd.pair Kd.string Kd.string))) Try.underlying23 (from_cons 0 rfl rfl (by kernel_rfl) op3 (from_cons 1 rfl rfl (by kernel_rfl) op9 (from_last 2 rfl rfl (by kernel_rfl) op9))) (by kernel_rfl) (fun x : S23 => (x.f0, x.f1, x.f2)) (fun a => ⟨a.1, a.2.1, a.2.2⟩) (fun _ => rfl)).weaken (fun a h => h)
def ok50 : List (S23) → Prop := fun l => l.length ≤ maxLen ∧ ∀ a, a ∈ l → ok23 a
theorem op50 : Opens Try.prog 50 (Kd.slice 23 k23) ok50 := opens_slice Try.underlying50 op23 (by kernel_rfl)
/-- THE ONE PURE STATEMENT of pestlelaw53_LineWrites. -/
def Pure : Prop := ∀ (x0 : List (S23)) (x1 : ByteArray), ok50 x0 → ok9 x1 → ∃ k, pestlelaw53_LineWrites.f k x0 x1 = some true
end
end Go.Proofs.Ytdieefjolkhmpaa.PLiLineWrites
