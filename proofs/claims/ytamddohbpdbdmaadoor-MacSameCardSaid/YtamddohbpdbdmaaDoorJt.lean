import Derived.Test.YtamddohbpdbdmaaDoorSub
import Derived.Test.YtamddohbpdbdmaaDoorRows
import Derived.Test.YtamddohbpdbdmaaDoorChecked
import Derived.ProofKit
import Derived.LaidMore
import Derived.OpenShut
import Derived.Stop.Joined
set_option linter.unusedVariables false
set_option linter.unusedSimpArgs false
namespace Go.Ch
open Go.ChangeShapes Go.WideShapes Go.RowKit

theorem u32_of_int {z : Int} (h : (Lit.int .u32 z).wf = true) : ∃ x : UInt32, Value.int .u32 z = w32 x := by
  simp [Lit.wf, IntKind.min, IntKind.max, IntKind.signed, IntKind.bits] at h
  refine ⟨UInt32.ofNat z.toNat, ?_⟩
  unfold w32
  congr 1
  simp
  omega
theorem words_of_ints {zs : List Int} (h : ∀ z ∈ zs, (Lit.int .u32 z).wf = true) : ∃ ws : List UInt32, zs.map (Value.int .u32) = ws.map w32 ∧ ws.length = zs.length := by
  induction zs with
  | nil => exact ⟨[], rfl, rfl⟩
  | cons z zs ih =>
    obtain ⟨ws, h1, h2⟩ := ih (fun y hy => h y (by simp [hy]))
    obtain ⟨x, hx⟩ := u32_of_int (h z (by simp))
    exact ⟨x :: ws, by simp [h1, hx], by simp [h2]⟩
theorem bytes_len {zs : List Int} {l : List UInt8} (h : zs.map (Value.int .u8) = l.map bU) : l.length = zs.length := by
  have := congrArg List.length h
  simpa using this.symm
end Go.Ch
namespace Go.Proofs.YtamddohbpdbdmaaDoor
open Go.ChangeShapes Go.WideShapes Go.ChangeAt Go.RowKit Go.Ch

theorem words_cells : Tryd.prog.cellsOf 28 = 1 := by kernel_rfl
theorem own : ownKnob Tryd.prog.godebug = none := by kernel_rfl
theorem laidOut : laidOutB Tryd.prog = true := by kernel_rfl
theorem gK : Tryd.prog.globalNamed "charter/sha.constants" = some 0 := by kernel_rfl
theorem tK : (Tryd.prog.globals[0]?).map (·.type) = some 62 := by kernel_rfl
abbrev laidK : List (String × DataW Unit) := [("charter/sha.constants", Rows.laid_charter_sha_constants)]

theorem door_met (os : Os) (args : Array Value) : laidMetH Tryd.prog laidK ((World.doorLaid Tryd.prog 400 os).forCall (fun _ _ => 0) ⟨#[], args, []⟩).memory :=
  laidMetH_of_parts3 (fuel := 8) (laidMet_of_run' 8 (by kernel_rfl) (by kernel_rfl)) (by kernel_rfl) (by kernel_rfl)

theorem laid_is : (Rows.laid_charter_sha_constants : DataW Unit) = .agg (consts.map fun x => .lit (.int .u32 (x.toNat : Int))) := by rfl

/-- WHAT THE CONDITION GIVES THE WALKS: the table's cells -/
theorem of_laid {W : World} (h : laidMetH Tryd.prog laidK W) : GK W := by
  rw [MakeChecks.laidMetH_plain _ _ _ (by kernel_rfl)] at h
  obtain ⟨ps, ⟨g0, t0, cs0, f0, p0, q0, hg0, ht0, hv0, hd0, _, _⟩, _, _⟩ := h
  obtain rfl := Option.some.inj (gK.symm.trans hg0)
  obtain rfl := Option.some.inj (tK.symm.trans ht0)
  obtain ⟨xs, m, _, hx1, hlen, hn, hel⟩ := DataW.trod_array Tryd.underlying62 hd0
  rw [laid_is] at hx1
  simp only [Prod.mk.injEq, DataW.agg.injEq] at hx1
  intro k hk
  have h1 := hel k hk
  rw [words_cells, List.getElem?_eq_getElem (by omega)] at h1
  obtain ⟨z, hz, hx, _⟩ := DataW.trod_int Tryd.underlying28 h1
  have h2 := congrArg (·[0]?) hz
  simp only [List.getElem?_take, Nat.mul_one, List.getElem?_drop, Nat.add_zero] at h2
  have h3 := congrArg (·[k]?) hx1.1
  simp only [List.getElem?_map] at h3
  rw [List.getElem?_eq_getElem (show k < xs.length by omega), List.getElem?_eq_getElem (show k < consts.length from hk), hx] at h3
  have h5 := World.var?_cell hg0 hv0 k
  rw [h5]
  simp only [Option.map_some, Option.some.injEq, DataW.lit.injEq, Lit.int.injEq, true_and] at h3
  have h4 : cs0.toList[k]? = some (.int .u32 z) := by simpa using h2
  rw [← Array.getElem?_toList, h4, ← h3, List.getD_eq_getElem?_getD, List.getElem?_eq_getElem (show k < consts.length from hk)]
  rfl
end Go.Proofs.YtamddohbpdbdmaaDoor
