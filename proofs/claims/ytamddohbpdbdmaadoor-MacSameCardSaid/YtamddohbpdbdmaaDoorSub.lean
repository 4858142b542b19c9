import Derived.Test.YtamddohbpdbdmaaDoorSxU
import Derived.Test.YtamddohbpdbdmaaDoorShaH
set_option linter.unusedVariables false
set_option linter.unusedSimpArgs false
namespace Go.Proofs.YtamddohbpdbdmaaDoor
open Go.RowKit Go.Ch Go.Sx

theorem GK.keep {w w' : World} (hx : Ext w w') (h : GK w) : GK w' := h.ext hx
theorem sl_b {w : World} {e : TypeId} {l : List UInt8} {v : Value} {p : Pl} (h : InSl w e l.length (.b l) v p) : Sl w w.heap.size v (l.map bU) := h.sl (fun _ _ h => csR_b.1 h) (by simp)

def sum_ct : Ct := fun args H => match args with
  | [x] => (match aB H x with | some l => some ([l.length ≤ 100000], .c (.wh H.length), [⟨.row, 5, 1, (digest consts begin8 l).length, .b (digest consts begin8 l)⟩]) | none => none)
  | _ => none
theorem sum_h : FnOk Tryd.prog GK 19 sum_ct := by
  refine ⟨fun args H g av objs hF hg ρ w vals hG hp ha => ?_, _, Tryd.func19, by kernel_rfl, by kernel_rfl⟩
  unfold sum_ct at hF
  split at hF
  · split at hF
    · rename_i x l hl
      simp only [Option.some.injEq, Prod.mk.injEq] at hF
      obtain ⟨rfl, rfl, rfl⟩ := hF
      obtain ⟨v, vals, rfl, k, ha⟩ := F2.inv ha
      obtain rfl := F2.inv0 ha
      obtain ⟨p, hI⟩ := aB_ok hp hl k 5
      have hb : l.length ≤ 100000 := by simpa [allP] using hg
      exact calls_mono (sum_c w _ v l (sl_b hI) hb hG) fun v w' ⟨hx, hv⟩ => ⟨hx, left_row hv (fun _ => csR_b.2 rfl) (by simp)⟩
    · cases hF
  · cases hF
end Go.Proofs.YtamddohbpdbdmaaDoor
