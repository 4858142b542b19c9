import Derived.Test.YtpinmaodpfoinaaPu
import Derived.Test.YtpinmaodpfoinaaRows
import Derived.Test.YtpinmaodpfoinaaChecked
import Derived.WalkKit
import Derived.ProofKit
import Derived.OpenShut
import Derived.ShutString
import Derived.ChangeOld
import Derived.Below
set_option linter.unusedVariables false
set_option linter.unusedSimpArgs false
namespace Go.Ch
open Go.ChangeShapes Go.WideShapes Go.RowKit

theorem u32_of_int {z : Int} (h : (Lit.int .u32 z).wf = true) : ∃ x : UInt32, Value.int .u32 z = w32 x := by
  simp [Lit.wf, IntKind.min, IntKind.max, IntKind.signed, IntKind.bits] at h
  refine ⟨UInt32.ofNat z.toNat, ?_⟩
  unfold w32
  congr 1
  simp
  omega
theorem words_of_ints {zs : List Int} (h : ∀ z ∈ zs, (Lit.int .u32 z).wf = true) : ∃ ws : List UInt32, zs.map (Value.int .u32) = ws.map w32 ∧ ws.length = zs.length := by
  induction zs with
  | nil => exact ⟨[], rfl, rfl⟩
  | cons z zs ih =>
    obtain ⟨ws, h1, h2⟩ := ih (fun y hy => h y (by simp [hy]))
    obtain ⟨x, hx⟩ := u32_of_int (h z (by simp))
    exact ⟨x :: ws, by simp [h1, hx], by simp [h2]⟩
end Go.Ch
namespace Go.Proofs.Ytpinmaodpfoinaa
open Go.ChangeShapes Go.WideShapes Go.ChangeAt Go.RowKit Go.Ch

theorem own : ownKnob Try.prog.godebug = none := by kernel_rfl
theorem laidOut : laidOutB Try.prog = true := by kernel_rfl
end Go.Proofs.Ytpinmaodpfoinaa
