import Derived.Test.YtpinmaodpfoinaaSxV
import Derived.Test.YtpinmaodpfoinaaProg
set_option linter.unusedVariables false
set_option linter.unusedSimpArgs false
namespace Go.Proofs.Ytpinmaodpfoinaa
open Go.RowKit Go.Ch Go.Sx

theorem clone_info : (Try.prog.info? 45).map (fun i => (i.zero, i.size, i.bytes)) = some (some (.int .u32 0), 1, 4) := by kernel_rfl
theorem w32_one (l : List UInt32) : ∀ u ∈ l.map w32, u.oneCell' = true := by intro u hu; obtain ⟨x, _, rfl⟩ := List.mem_map.1 hu; rfl
set_option maxHeartbeats 400000 in
theorem clone_c (w : World) (B : Nat) (v : Value) (l : List UInt32) (hv : Sl w B v (l.map w32)) (hl : l.length ≤ 1000000000000) :
    Calls Try.prog 40 #[v] w (Ret fun v' w' => Ext w w' ∧ Own w' w.heap.size 45 v' (l.map w32)) := by
  obtain ⟨i45, hi45, hz45, hs45, hb45⟩ := info_parts clone_info
  go_enter Try.func40, Try.ntmps40
  go_wp2_with (first
    | ((with_reducible refine g_at (d := 4) ?_); refine wpl_eq_nil rfl Try.underlying23 hv ?_; intro b4 hb4; try (conv in (Act.put _ _ _) => simp only [Act.put, List.setIfInBounds_toArray, List.set_cons_succ, List.set_cons_zero]))
    | ((with_reducible refine g_at (d := 5) ?_); refine wpl_buildSlice (vs := []) Try.underlying23 hi45 hz45 hs45 rfl (xs := []) rfl rfl rfl (by simp) (by omega) ?_; intro v5 w5 h5 hx5 ha5; try (conv in (Act.put _ _ _) => simp only [Act.put, List.setIfInBounds_toArray, List.set_cons_succ, List.set_cons_zero]))
    | ((with_reducible refine g_at (d := 7) ?_); refine wpl_append (v := v5) rfl rfl Try.underlying23 hi45 hz45 hs45 hb45 rfl h5 (hv.ext hx5) (w32_one l) (by first | omega | (simp <;> omega)) (by omega) hx5.size ?_; intro v7 w7 h7 hg7 ha7 hx7; try (conv in (Act.put _ _ _) => simp only [Act.put, List.setIfInBounds_toArray, List.set_cons_succ, List.set_cons_zero])))
  · go_ret
    have := hb4 (by assumption)
    exact ⟨_, rfl, Below.refl _ _, by rw [this]; exact World.ownsRow_nil _ _ _ _⟩
  · go_ret
    exact ⟨_, rfl, hx5.trans hx7, by simpa using h7⟩
def clone_ct : Ct := fun args H => match args with
  | [x] => (match aW H x with | some l => some ([l.length ≤ 1000000000000], .c (.wh H.length), [⟨.row, 45, 1, l.length, .w l⟩]) | none => none)
  | _ => none
theorem clone_h : FnOk Try.prog Tr 40 clone_ct := by
  refine ⟨fun args H g av objs hF hg ρ w vals hG hp ha => ?_, _, Try.func40, by kernel_rfl, by kernel_rfl⟩
  unfold clone_ct at hF
  split at hF
  · split at hF
    · rename_i x l hl
      simp only [Option.some.injEq, Prod.mk.injEq] at hF
      obtain ⟨rfl, rfl, rfl⟩ := hF
      obtain ⟨v, vals, rfl, k, ha⟩ := F2.inv ha
      obtain rfl := F2.inv0 ha
      obtain ⟨p, hI⟩ := aW_ok hp hl k 45
      have hb : l.length ≤ 1000000000000 := by simpa [allP] using hg
      exact calls_mono (clone_c w _ v l (hI.sl (fun _ _ h => csR_w.1 h) (by simp)) hb) fun v w' ⟨hx, hv⟩ => ⟨hx, left_row hv (fun _ => csR_w.2 rfl) (by simp)⟩
    · cases hF
  · cases hF
end Go.Proofs.Ytpinmaodpfoinaa
