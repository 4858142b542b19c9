import Derived.Test.YtamddohbpdbdmaaDoorSxU
import Derived.Test.YtamddohbpdbdmaaDoorCat
import Derived.Test.YtamddohbpdbdmaaDoorClb
set_option linter.unusedVariables false
set_option linter.unusedSimpArgs false
namespace Go.Proofs.YtamddohbpdbdmaaDoor
open Go.RowKit Go.Ch Go.Sx

theorem slr_sl {w : World} {v : Value} {n : Nat} {vs : List Value} (h : SlR w v n 1 vs) : Sl w w.heap.size v vs := by
  obtain ⟨hl, A, c, rfl, h1, h2, h3, h4⟩ := h
  have hn : vs.length = n := by omega
  subst hn
  refine ⟨Nat.le_refl _, A, c, rfl, h1, h2, h3, fun ad had j u hu => ⟨?_, h4 ad had j u hu⟩⟩
  have := World.block_lt_of_cell? _ _ (h4 ad had j u hu)
  rwa [block_add] at this
/-- what slices of bytes read -/
def aLs (H : Hp) : List Cl → Option (List (List UInt8))
  | [] => some []
  | c :: cs => (match aB H (.c c), aLs H cs with | some l, some ls => some (l :: ls) | _, _ => none)
theorem aLs_ok {ρ : Pls} {w : World} {H : Hp} (hp : HpR ρ w H) : ∀ {cs : List Cl} {ls : List (List UInt8)} {vs : List Value}, aLs H cs = some ls → F2 (clR ρ) cs vs → SlS w vs ls
  | [], ls, vs, h, hv => by
    obtain rfl := F2.unnil hv
    simp only [aLs, Option.some.injEq] at h
    subst h
    exact ⟨rfl, fun i hi => by simp at hi⟩
  | c :: cs, ls, vs, h, hv => by
    obtain ⟨v, vs', rfl, hc, hvs⟩ := F2.uncons hv
    simp only [aLs] at h
    split at h
    · rename_i l ls' hl hls
      injection h with h; subst h
      obtain ⟨h1, h2⟩ := aLs_ok hp hls hvs
      obtain ⟨p, hI⟩ := aB_ok hp hl hc 5
      have hs := hI.sl (fun _ _ h => csR_b.1 h) (by simp)
      refine ⟨by simp [h1], fun i hi => ?_⟩
      cases i with
      | zero => exact ⟨_, hs⟩
      | succ i => exact h2 i (by simpa using hi)
    · cases h
def cat_ct : Ct := fun args H => match args with
  | [.c x] => (match vcs H x with
    | some (sz, _, .c cells) => (match Nat.beq sz 1, aLs H cells with
      | true, some ls => some ([ls.length ≤ 1000000, ls.flatten.length ≤ 1000000000], .c (.wh H.length), [⟨.row, 5, 1, ls.flatten.length, .b ls.flatten⟩])
      | _, _ => none)
    | _ => none)
  | _ => none
theorem cat_h : FnOk Tryd.prog Tr 20 cat_ct := by
  refine ⟨fun args H g av objs hF hg ρ w vals hG hp ha => ?_, _, Tryd.func20, by kernel_rfl, by kernel_rfl⟩
  unfold cat_ct at hF
  split at hF
  · rename_i x
    split at hF
    · rename_i sz n cells hx
      split at hF
      · rename_i ls hsz hls
        simp only [Option.some.injEq, Prod.mk.injEq] at hF
        obtain ⟨rfl, rfl, rfl⟩ := hF
        obtain ⟨v, vals, rfl, k, ha⟩ := F2.inv ha
        obtain rfl := F2.inv0 ha
        have e1 := Nat.eq_of_beq_eq_true hsz
        subst e1
        obtain ⟨vs, hc, hS⟩ := vcs_ok hp hx k
        obtain ⟨g1, g2⟩ : ls.length ≤ 1000000 ∧ ls.flatten.length ≤ 1000000000 := by simpa [allP] using hg
        exact calls_mono (concat_c w _ v vs ls (slr_sl hS) (aLs_ok hp hls hc) g1 g2) fun v w' ⟨hx, hv⟩ => ⟨hx, left_row hv (fun _ => csR_b.2 rfl) (by rw [List.length_map])⟩
      · cases hF
    · cases hF
  · cases hF
end Go.Proofs.YtamddohbpdbdmaaDoor
