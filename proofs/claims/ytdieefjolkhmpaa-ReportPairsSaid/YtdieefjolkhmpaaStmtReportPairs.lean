/- What the arguments of the law ReportPairs read as, and the statement about them that is left: no memory and no program in it. -/
import Derived.Test.YtdieefjolkhmpaaPRpx10
import Derived.Test.YtdieefjolkhmpaaOpen
namespace Go.Proofs.Ytdieefjolkhmpaa.PRpReportPairs
open Go.RowKit Go.Proofs.Ytdieefjolkhmpaa.PRp Go.Proofs.YtdieefjolkhmpaaW.PrintWords Go.Proofs.YtdieefjolkhmpaaW.PrintLast Go.Proofs.YtdieefjolkhmpaaW.PrintMore
open Go.Proofs.Ytdieefjolkhmpaa.Open
set_option linter.unusedVariables false
noncomputable section
def ok3 : Int → Prop := fun n => (Lit.int .i64 n).wf = true
theorem op3 : Opens Try.prog 3 (Kd.int .i64) ok3 := opens_int Try.underlying3
def ok9 : ByteArray → Prop := fun s => s.size ≤ maxLen
theorem op9 : Opens Try.prog 9 Kd.string ok9 := opens_string Try.underlying9
def ok23 : S23 → Prop := fun x => ok3 x.f0 ∧ ok9 x.f1 ∧ ok9 x.f2
theorem op23 : Opens Try.prog 23 k23 ok23 := (opens_struct (kd := (Kd.pair (Kd.int .i64) (Kd.pair Kd.string Kd.string))) Try.underlying23 (from_cons 0 rfl rfl (by kernel_rfl) op3 (from_cons 1 rfl rfl (by kernel_rfl) op9 (from_last 2 rfl rfl (by kernel_rfl) op9))) (by kernel_rfl) (fun x : S23 => (x.f0, x.f1, x.f2)) (fun a => ⟨a.1, a.2.1, a.2.2⟩) (fun _ => rfl)).weaken (fun a h => h)
def ok50 : List (S23) → Prop := fun l => l.length ≤ maxLen ∧ ∀ a, a ∈ l → ok23 a
theorem op50 : Opens Try.prog 50 (Kd.slice 23 k23) ok50 := opens_slice Try.underlying50 op23 (by kernel_rfl)
def ok24 : Int → Prop := fun n => (Lit.int .i64 n).wf = true
theorem op24 : Opens Try.prog 24 (Kd.int .i64) ok24 := opens_int Try.underlying24
def ok4 : Bool → Prop := fun _ => True
theorem op4 : Opens Try.prog 4 Kd.bool ok4 := opens_bool Try.underlying4
def ok26 : S26 → Prop := fun x => ok24 x.f0 ∧ ok9 x.f1 ∧ ok4 x.f2 ∧ ok3 x.f3
theorem op26 : Opens Try.prog 26 k26 ok26 := (opens_struct (kd := (Kd.pair (Kd.int .i64) (Kd.pair Kd.string (Kd.pair Kd.bool (Kd.int .i64))))) Try.underlying26 (from_cons 0 rfl rfl (by kernel_rfl) op24 (from_cons 1 rfl rfl (by kernel_rfl) op9 (from_cons 2 rfl rfl (by kernel_rfl) op4 (from_last 3 rfl rfl (by kernel_rfl) op3)))) (by kernel_rfl) (fun x : S26 => (x.f0, x.f1, x.f2, x.f3)) (fun a => ⟨a.1, a.2.1, a.2.2.1, a.2.2.2⟩) (fun _ => rfl)).weaken (fun a h => h)
def ok51 : List (S26) → Prop := fun l => l.length ≤ maxLen ∧ ∀ a, a ∈ l → ok26 a
theorem op51 : Opens Try.prog 51 (Kd.slice 26 k26) ok51 := opens_slice Try.underlying51 op26 (by kernel_rfl)
/-- THE ONE PURE STATEMENT of pestlelaw54_ReportPairs. -/
def Pure : Prop := ∀ (x0 : List (S23)) (x1 : List (S26)), ok50 x0 → ok51 x1 → ∃ k, pestlelaw54_ReportPairs.f k x0 x1 = some true
end
end Go.Proofs.Ytdieefjolkhmpaa.PRpReportPairs
