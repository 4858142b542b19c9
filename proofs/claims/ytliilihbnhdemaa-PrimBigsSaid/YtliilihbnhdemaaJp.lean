import Derived.Test.YtliilihbnhdemaaPu
import Derived.Test.YtliilihbnhdemaaRows
import Derived.Test.YtliilihbnhdemaaChecked
import Derived.WalkKit
import Derived.ProofKit
import Derived.OpenShut
import Derived.ShutString
import Derived.ChangeOld
import Derived.Below
set_option linter.unusedVariables false
set_option linter.unusedSimpArgs false
namespace Go.Ch
open Go.ChangeShapes Go.WideShapes Go.RowKit

theorem u32_of_int {z : Int} (h : (Lit.int .u32 z).wf = true) : ∃ x : UInt32, Value.int .u32 z = w32 x := by
  simp [Lit.wf, IntKind.min, IntKind.max, IntKind.signed, IntKind.bits] at h
  refine ⟨UInt32.ofNat z.toNat, ?_⟩
  unfold w32
  congr 1
  simp
  omega
theorem words_of_ints {zs : List Int} (h : ∀ z ∈ zs, (Lit.int .u32 z).wf = true) : ∃ ws : List UInt32, zs.map (Value.int .u32) = ws.map w32 ∧ ws.length = zs.length := by
  induction zs with
  | nil => exact ⟨[], rfl, rfl⟩
  | cons z zs ih =>
    obtain ⟨ws, h1, h2⟩ := ih (fun y hy => h y (by simp [hy]))
    obtain ⟨x, hx⟩ := u32_of_int (h z (by simp))
    exact ⟨x :: ws, by simp [h1, hx], by simp [h2]⟩
/-- a struct of n whole numbers -/
def structB (P : Program) (t : TypeId) (n : Nat) : Bool := (match P.underlying t with
  | some (.struct fs) => fs.size == n && (List.range n).all fun i => match fs[i]? with
    | some f => f.offset == i && (match P.underlying f.type with | some (.int .i64) => true | _ => false) && P.cellsOf f.type == 1
    | none => false
  | _ => false) && P.cellsOf t == n
theorem open_zs {H : Type} {enc : TypeId × Value → H} {P : Program} {W : World} {t : TypeId} {n : Nat} {v : Value} {d : DataW H} {p : List MemPlace} {base : Nat} {sp : Nat → Bool} {held : Bool} (hb : structB P t n = true)
    (hok : Value.okWide P W .any base t v) (h : DataW.Trod enc P W 0 sp held t v d p) : ∃ zs : List Int, zs.length = n ∧ v = .agg (zs.map (Value.int .i64)).toArray ∧ ∀ z ∈ zs, (Lit.int .i64 z).wf = true := by
  unfold structB at hb
  split at hb
  · rename_i fs ht
    simp only [Bool.and_eq_true, beq_iff_eq, List.all_eq_true, List.mem_range] at hb
    obtain ⟨⟨hfs, hfa⟩, hct⟩ := hb
    obtain ⟨cs, rfl, hsz, _⟩ : ∃ cs, v = .agg cs ∧ cs.size = P.cellsOf t ∧ Row.okWide P W .any base t cs := by
      simpa [Value.okWide, ht] using hok
    obtain ⟨fuel, hf⟩ := h
    obtain ⟨xs, m, _, _, hl, hxl, hel⟩ := DataW.trod_struct ht hf
    obtain ⟨l⟩ := cs
    have hlen : l.length = n := by rw [← hct]; exact hsz
    have key : ∀ i, i < n → ∃ z, l[i]? = some (.int .i64 z) ∧ (Lit.int .i64 z).wf = true := by
      intro i hi
      have h0 := hfa i hi
      split at h0
      · rename_i f hfi
        simp only [Bool.and_eq_true, beq_iff_eq] at h0
        obtain ⟨⟨ho, hu⟩, hc⟩ := h0
        have hu' : P.underlying f.type = some (.int .i64) := by
          split at hu
          · assumption
          · cases hu
        have h1 := hel i f hfi
        rw [hc, ho] at h1
        rw [List.getElem?_eq_getElem (show i < xs.length by rw [hxl, hfs]; exact hi)] at h1
        have h1' : DataW.trod enc P W 0 sp held m f.type ((l.drop i).take 1) = _ := h1
        obtain ⟨z, hz, _, hw⟩ := DataW.trod_int hu' h1'
        refine ⟨z, ?_, hw⟩
        have h2 := congrArg (·[0]?) hz
        simp only [List.getElem?_take, List.getElem?_drop, Nat.add_zero] at h2
        simpa [Value.cells] using h2
      · cases h0
    refine ⟨l.map (fun v => match v with | .int _ z => z | _ => 0), by simpa using hlen, ?_, ?_⟩
    · congr 1
      congr 1
      apply List.ext_getElem?
      intro i
      simp only [List.getElem?_map]
      by_cases hi : i < n
      · obtain ⟨z, hz, _⟩ := key i hi
        rw [hz]; rfl
      · rw [List.getElem?_eq_none (by omega)]; rfl
    · intro z hz
      obtain ⟨u, hu, rfl⟩ := List.mem_map.1 hz
      obtain ⟨i, hi⟩ := List.mem_iff_getElem?.1 hu
      have hin : i < n := by rw [← hlen]; exact (List.getElem?_eq_some_iff.1 hi).1
      obtain ⟨z', hz', hw⟩ := key i hin
      rw [hi] at hz'
      injection hz' with hz'
      subst hz'
      exact hw
  · simp at hb
theorem open_z6 {H : Type} {enc : TypeId × Value → H} {P : Program} {W : World} {t : TypeId} {v : Value} {d : DataW H} {p : List MemPlace} {base : Nat} {sp : Nat → Bool} {held : Bool} (hb : structB P t 6 = true)
    (hok : Value.okWide P W .any base t v) (h : DataW.Trod enc P W 0 sp held t v d p) : ∃ a b c e f g : Int, v = .agg #[.int .i64 a, .int .i64 b, .int .i64 c, .int .i64 e, .int .i64 f, .int .i64 g] := by
  obtain ⟨zs, hl, hv, _⟩ := open_zs hb hok h
  match zs, hl with
  | [a, b, c, e, f, g], _ => exact ⟨a, b, c, e, f, g, hv⟩
end Go.Ch
namespace Go.Proofs.Ytliilihbnhdemaa
open Go.ChangeShapes Go.WideShapes Go.ChangeAt Go.RowKit Go.Ch

theorem own : ownKnob Try.prog.godebug = none := by kernel_rfl
theorem laidOut : laidOutB Try.prog = true := by kernel_rfl
end Go.Proofs.Ytliilihbnhdemaa
