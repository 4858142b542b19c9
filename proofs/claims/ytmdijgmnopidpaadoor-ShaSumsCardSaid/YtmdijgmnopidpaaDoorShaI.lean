import Derived.Test.YtmdijgmnopidpaaDoorShaG
set_option linter.unusedVariables false
set_option linter.unusedSimpArgs false
namespace Go.Proofs.YtmdijgmnopidpaaDoor
open Go.RowKit Go.Ch

theorem take_snoc32 (l : List UInt32) (k : Nat) (h : k < l.length) : l.take (k + 1) = l.take k ++ [l.getD k 0] := by
  rw [List.take_succ_eq_append_getElem h, List.getD_eq_getElem?_getD, List.getElem?_eq_getElem h]; rfl
theorem map_getD (l : List UInt64) (f : UInt64 → UInt32) (k : Nat) (h : k < l.length) : (l.map f).getD k 0 = f (l.getD k 0) := by
  rw [List.getD_eq_getElem?_getD, List.getD_eq_getElem?_getD, List.getElem?_map, List.getElem?_eq_getElem h]; rfl

set_option maxRecDepth 100000 in
set_option maxHeartbeats 4000000 in
theorem constants_c (w : World) :
    Calls Tryd.prog 18 #[] w (Ret fun v w' => Ext w w' ∧ Own w' w.heap.size 24 v (consts.map w32)) := by
  obtain ⟨i59, hi59, hz59, hs59, hb59⟩ := info_parts infoU64
  have hsz59 := info_size infoU64
  obtain ⟨i24, hi24, hz24, hs24, hb24⟩ := info_parts infoU32
  have hsz24 := info_size infoU32
  obtain ⟨ps, hps⟩ : ∃ ps, prN 310 = ps := ⟨_, rfl⟩
  have hpl : ps.length = 64 := by rw [← hps]; exact pr64
  have hcs : ps.map (fracF true) = consts := by rw [← hps]; exact consts_are
  have hcl : consts.length = 64 := rfl
  have hlt : ∀ j, j < 310 → (prN j).length < 64 := fun j hj => by
    have := prN_mono' (show j ≤ 309 by omega)
    rw [pr63] at this; omega
  have HLT := Lib.hid hlt
  have HP := Lib.hid hps
  have HC := Lib.hid hcs
  clear hlt hps hcs
  generalize consts = cs at HC hcl
  go_enter Tryd.func18, Tryd.ntmps18
  go_wp2_with (first
    | ((with_reducible refine g_at (d := 4) ?_); refine wpl_call Tryd.func29 (by kernel_rfl) (by kernel_rfl) rfl (primes_c _ 64 310 (by omega) (by omega) pr64 HLT.out) ?_; rintro v4 w4 ⟨hx4, h4⟩; rw [HP.out] at h4; try (conv in (Act.put _ _ _) => simp only [Act.put, List.setIfInBounds_toArray, List.set_cons_succ, List.set_cons_zero])))
  go_loopw [3, 2] (fun i o wr => ∃ k : Nat, k ≤ 64 ∧ i = .int .i64 k ∧ Own wr w4.heap.size 24 o ((cs.take k).map w32) ∧ Ext w4 wr) (fun i _ _ => 64 - (intOf i).toNat)
  case atStart => exact ⟨0, by omega, rfl, World.ownsRow_nil _ _ _ _, Below.refl _ _⟩
  case round =>
    obtain ⟨k, hk, rfl, ho, hx⟩ := hrel
    by_cases hlt : k < 64
    · have hd : decide ((k : Int) < 64) = true := by simp; omega
      have htl : (cs.take k).length = k := by rw [List.length_take]; omega
      have HS := Lib.hid (take_snoc32 cs k (by omega))
      have HF := Lib.hid (show fracF true (ps.getD k 0) = cs.getD k 0 by rw [← HC.out, map_getD _ _ _ (by omega)])
      have HAT := Lib.hid (at_w64l (ws := ps) (k := k) (by omega))
      generalize cs.getD k 0 = x at HS HF
      generalize ps.getD k 0 = q at HF HAT
      go_wp2_with (first
        | ((with_reducible refine g_at (d := 12) ?_); refine wpl_index rfl rfl Tryd.underlying56 hi59 hs59 ((h4.sl.ext hx)) rfl HAT.out ?_; intro ad12 hb12 hc12; try (conv in (Act.put _ _ _) => simp only [Act.put, List.setIfInBounds_toArray, List.set_cons_succ, List.set_cons_zero]))
        | ((with_reducible refine g_at (d := 14) ?_); refine wpl_call Tryd.func30 (by kernel_rfl) (by kernel_rfl) rfl (fraction_c _ q true) ?_; rintro v14 w14 ⟨hx14, rfl⟩; rw [HF.out]; try (conv in (Act.put _ _ _) => simp only [Act.put, List.setIfInBounds_toArray, List.set_cons_succ, List.set_cons_zero]))
        | ((with_reducible refine g_at (d := 15) ?_); refine wpl_buildSlice (vs := [w32 x]) Tryd.underlying33 hi24 hz24 hs24 rfl (xs := [(.tmp 14)]) rfl rfl rfl (by intro u hu; simp at hu; subst hu; rfl) (by omega) ?_; intro v15 w15 h15 hx15 ha15; try (conv in (Act.put _ _ _) => simp only [Act.put, List.setIfInBounds_toArray, List.set_cons_succ, List.set_cons_zero]))
        | ((with_reducible refine g_at (d := 16) ?_); refine wpl_append (v := u2) rfl rfl Tryd.underlying33 hi24 hz24 hs24 hb24 rfl ((ho.ext hx14).ext hx15) h15.sl (w32_one [x]) (by first | omega | (simp <;> omega)) (by omega) (Nat.le_trans hx.size (Nat.le_trans hx14.size hx15.size)) ?_; intro v16 w16 h16 hg16 ha16 hx16; try (conv in (Act.put _ _ _) => simp only [Act.put, List.setIfInBounds_toArray, List.set_cons_succ, List.set_cons_zero])))
      go_roundw
      case rel => exact ⟨k + 1, by omega, by go_num, by rw [HS.out, List.map_append]; exact h16, ((hx.tr hx14).tr hx15).trans hx16⟩
      case measure => simp [intOf]; omega
    · obtain rfl : k = 64 := by omega
      have hd : decide (((64 : Nat) : Int) < 64) = false := by simp
      go_wp2
      go_ret
      refine ⟨_, rfl, hx4.tr hx, ?_⟩
      rw [List.take_of_length_le (by omega)] at ho
      exact ho.down hx4.size
end Go.Proofs.YtmdijgmnopidpaaDoor
