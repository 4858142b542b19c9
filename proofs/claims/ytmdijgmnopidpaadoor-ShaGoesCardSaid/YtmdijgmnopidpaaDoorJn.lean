import Derived.Test.YtmdijgmnopidpaaDoorShaU
import Derived.Test.YtmdijgmnopidpaaDoorRows
import Derived.Test.YtmdijgmnopidpaaDoorChecked
import Derived.ProofKit
import Derived.LaidMore
import Derived.OpenShut
import Derived.Stop.Joined
set_option linter.unusedVariables false
set_option linter.unusedSimpArgs false
namespace Go.Ch
open Go.ChangeShapes Go.WideShapes Go.RowKit

/-- an array of integers that came in -/
theorem open_words {H : Type} {enc : TypeId × Value → H} {P : Program} {W : World} {t e : TypeId} {n : Nat} {k : IntKind} {v : Value} {d : DataW H} {p : List MemPlace} {base : Nat} {sp : Nat → Bool} {held : Bool} (ht : P.underlying t = some (.array n e)) (he : P.underlying e = some (.int k)) (hce : P.cellsOf e = 1) (hct : P.cellsOf t = n)
    (hok : Value.okWide P W .any base t v) (h : DataW.Trod enc P W 0 sp held t v d p) : ∃ zs : List Int, zs.length = n ∧ v = .agg (zs.map (Value.int k)).toArray ∧ ∀ z ∈ zs, (Lit.int k z).wf = true := by
  obtain ⟨cs, rfl, hsz, _⟩ : ∃ cs, v = .agg cs ∧ cs.size = P.cellsOf t ∧ Row.okWide P W .any base t cs := by
    simpa [Value.okWide, ht] using hok
  obtain ⟨fuel, hf⟩ := h
  obtain ⟨xs, m, _, _, _, hl, hel⟩ := DataW.trod_array ht hf
  obtain ⟨l⟩ := cs
  have hlen : l.length = n := by rw [← hct]; exact hsz
  have key : ∀ i, i < n → ∃ z, l[i]? = some (.int k z) ∧ (Lit.int k z).wf = true := by
    intro i hi
    have h1 := hel i hi
    rw [hce, List.getElem?_eq_getElem (by omega)] at h1
    obtain ⟨z, hz, _, hw⟩ := DataW.trod_int he h1
    refine ⟨z, ?_, hw⟩
    have h2 := congrArg (·[0]?) hz
    simp only [List.getElem?_take, Nat.mul_one, List.getElem?_drop, Nat.add_zero] at h2
    simpa [Value.cells] using h2
  refine ⟨l.map (fun v => match v with | .int _ z => z | _ => 0), by simpa using hlen, ?_, ?_⟩
  · congr 1
    congr 1
    apply List.ext_getElem?
    intro i
    simp only [List.getElem?_map]
    by_cases hi : i < n
    · obtain ⟨z, hz, _⟩ := key i hi
      rw [hz]; rfl
    · rw [List.getElem?_eq_none (by omega)]; rfl
  · intro z hz
    obtain ⟨u, hu, rfl⟩ := List.mem_map.1 hz
    obtain ⟨i, hi⟩ := List.mem_iff_getElem?.1 hu
    have hin : i < n := by rw [← hlen]; exact (List.getElem?_eq_some_iff.1 hi).1
    obtain ⟨z', hz', hw⟩ := key i hin
    rw [hi] at hz'
    injection hz' with hz'
    subst hz'
    exact hw
theorem u32_of_int {z : Int} (h : (Lit.int .u32 z).wf = true) : ∃ x : UInt32, Value.int .u32 z = w32 x := by
  simp [Lit.wf, IntKind.min, IntKind.max, IntKind.signed, IntKind.bits] at h
  refine ⟨UInt32.ofNat z.toNat, ?_⟩
  unfold w32
  congr 1
  simp
  omega
theorem words_of_ints {zs : List Int} (h : ∀ z ∈ zs, (Lit.int .u32 z).wf = true) : ∃ ws : List UInt32, zs.map (Value.int .u32) = ws.map w32 ∧ ws.length = zs.length := by
  induction zs with
  | nil => exact ⟨[], rfl, rfl⟩
  | cons z zs ih =>
    obtain ⟨ws, h1, h2⟩ := ih (fun y hy => h y (by simp [hy]))
    obtain ⟨x, hx⟩ := u32_of_int (h z (by simp))
    exact ⟨x :: ws, by simp [h1, hx], by simp [h2]⟩
theorem words8 {ws : List UInt32} (h : ws.length = 8) : ∃ v : Words, ws = v.list := by
  match ws, h with
  | [a, b, c, d, e, f, g, h], _ => exact ⟨⟨a, b, c, d, e, f, g, h⟩, rfl⟩
theorem bytes_len {zs : List Int} {l : List UInt8} (h : zs.map (Value.int .u8) = l.map bU) : l.length = zs.length := by
  have := congrArg List.length h
  simpa using this.symm
end Go.Ch
namespace Go.Proofs.YtmdijgmnopidpaaDoor
open Go.ChangeShapes Go.WideShapes Go.ChangeAt Go.RowKit Go.Ch

theorem own : ownKnob Tryd.prog.godebug = none := by kernel_rfl
theorem laidOut : laidOutB Tryd.prog = true := by kernel_rfl
theorem gK : Tryd.prog.globalNamed "charter/sha.constants" = some 0 := by kernel_rfl
theorem tK : (Tryd.prog.globals[0]?).map (·.type) = some 25 := by kernel_rfl
theorem cellsW64 : Tryd.prog.cellsOf 25 = 64 := by kernel_rfl
theorem cellsW8 : Tryd.prog.cellsOf 28 = 8 := by kernel_rfl
theorem cellsB64 : Tryd.prog.cellsOf 22 = 64 := by kernel_rfl
theorem cellsU8 : Tryd.prog.cellsOf 5 = 1 := by kernel_rfl
abbrev laidK : List (String × DataW Unit) := [("charter/sha.constants", Rows.laid_charter_sha_constants)]

theorem door_met (os : Os) (args : Array Value) : laidMetH Tryd.prog laidK ((World.doorLaid Tryd.prog 400 os).forCall (fun _ _ => 0) ⟨#[], args, []⟩).memory :=
  laidMetH_of_parts3 (fuel := 8) (laidMet_of_run' 8 (by kernel_rfl) (by kernel_rfl)) (by kernel_rfl) (by kernel_rfl)

theorem laid_is : (Rows.laid_charter_sha_constants : DataW Unit) = .agg (consts.map fun x => .lit (.int .u32 (x.toNat : Int))) := by rfl

/-- WHAT THE CONDITION GIVES THE WALKS: the table's cells -/
theorem of_laid {W : World} (h : laidMetH Tryd.prog laidK W) : GK W := by
  rw [MakeChecks.laidMetH_plain _ _ _ (by kernel_rfl)] at h
  obtain ⟨ps, ⟨g0, t0, cs0, f0, p0, q0, hg0, ht0, hv0, hd0, _, _⟩, _, _⟩ := h
  obtain rfl := Option.some.inj (gK.symm.trans hg0)
  obtain rfl := Option.some.inj (tK.symm.trans ht0)
  obtain ⟨xs, m, _, hx1, hlen, hn, hel⟩ := DataW.trod_array Tryd.underlying25 hd0
  rw [laid_is] at hx1
  simp only [Prod.mk.injEq, DataW.agg.injEq] at hx1
  intro k hk
  have h1 := hel k hk
  rw [words_cells, List.getElem?_eq_getElem (by omega)] at h1
  obtain ⟨z, hz, hx, _⟩ := DataW.trod_int Tryd.underlying24 h1
  have h2 := congrArg (·[0]?) hz
  simp only [List.getElem?_take, Nat.mul_one, List.getElem?_drop, Nat.add_zero] at h2
  have h3 := congrArg (·[k]?) hx1.1
  simp only [List.getElem?_map] at h3
  rw [List.getElem?_eq_getElem (show k < xs.length by omega), List.getElem?_eq_getElem (show k < consts.length from hk), hx] at h3
  have h5 := World.var?_cell hg0 hv0 k
  rw [h5]
  simp only [Option.map_some, Option.some.injEq, DataW.lit.injEq, Lit.int.injEq, true_and] at h3
  have h4 : cs0.toList[k]? = some (.int .u32 z) := by simpa using h2
  rw [← Array.getElem?_toList, h4, ← h3, List.getD_eq_getElem?_getD, List.getElem?_eq_getElem (show k < consts.length from hk)]
  rfl
end Go.Proofs.YtmdijgmnopidpaaDoor
