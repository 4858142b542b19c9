import Derived.Test.YtiojofjllkhbhaaGreatZ6
set_option linter.unusedVariables false
set_option linter.unusedSimpArgs false
/- The law RequestAsks holds of the given program for every input. -/
namespace Go.Proofs.YtiojofjllkhbhaaGreat.requestAsks
open Go.ChangeShapes Go.WideShapes Go.ChangeAt Go.RowKit Go.Ch
set_option maxRecDepth 100000 in
theorem lifted (os : Os) (started : os.Started) (H : Type) (enc : TypeId × Value → H) :
  ReturnsInHanded {} Tryz.checked os 3 .any (Rows.requestAsksSpec.pre6 enc Tryz.prog Tryz.f3 Rows.requestAsksRow.domain false) (Rows.requestAsksSpec.post enc Tryz.prog Tryz.f3 false true false false) := by
 refine returnsInHanded_of_change (C := Tryz.checked) own started (by kernel_rfl) Tryz.func3
  (ChangeSpec.witness6 (enc := enc) (C := Tryz.checked) false ⟨#[], #[.agg #[.int .i64 0, .slice none 0 0, .slice none 0 0, .slice none 0 0, .bool false, .slice none 0 0, .slice none 0 0]], []⟩ 8 (by kernel_rfl) (by kernel_rfl) (by kernel_rfl) (by kernel_rfl)) ?_
 intro W base args ds gs before hval0 hW hcnd _
 have hval : ∀ (j : Nat) t v, Tryz.f3.params[j]? = some t → args[j]? = some v → Value.okWide Tryz.prog W .any base t v := hval0
 have hW' := hW
 obtain ⟨p, q, hA0, hV, rfl, hfz, hnd⟩ := hW
 have hA : DataW.TrodAll enc Tryz.prog W 0 (fun _ => true) true Tryz.f3.params.toList args.toList ds p := hA0
 rw [Tryz.params3] at hA hval
 obtain ⟨v0, vs0, d0, ds0, p0, q0, hargs, rfl, rfl, h0, r0⟩ := trodAll_cons hA
 obtain ⟨rfl, rfl, rfl⟩ := trodAll_nil r0
 obtain rfl : args = #[v0] := by cases args; simp_all
 obtain ⟨rfl, rfl⟩ := trodVars_none hV
 have k0 := h0
 have lt0 : ∀ x ∈ p0, x.block < W.heap.size := by obtain ⟨m, hm⟩ := k0; exact DataW.trod_lt m _ _ _ hm
 obtain ⟨i0, S0, N0, E0, O0, A0, b0, ls0, lo0, ln0, le0, la0, qs0, qo0, rfl, hS0, hs0, hN0, hE0, hO0, ho0, hZ0⟩ := Go.Sx.open_ask (x := .sl 80 (.pr (.wo 63) (.pr .u8 (.by 5)))) (e := 78) (ew := 63) Tryz.underlying29 rfl rfl rfl rfl rfl rfl rfl rfl rfl rfl rfl rfl (by kernel_rfl) (by kernel_rfl) (by kernel_rfl) (by kernel_rfl) (by kernel_rfl) (by kernel_rfl) (by kernel_rfl) Tryz.underlying3 (by kernel_rfl) Tryz.underlying27 Tryz.underlying4 (by kernel_rfl) Tryz.underlying25 rfl rfl rfl rfl (by kernel_rfl) (by kernel_rfl) Tryz.underlying25 Tryz.underlying25 Tryz.underlying63 (by kernel_rfl) (hval 0 29 v0 rfl rfl) h0
 clear hA0 hval0
 refine (requestAsks_c W i0 S0 N0 E0 O0 A0 b0 ls0 lo0 ln0 le0 la0 qs0 qo0 hS0 hs0 hN0 hE0 hO0 ho0 hZ0).mono fun e W' ⟨v, he, bel, hv⟩ => ?_
 subst hv; subst he
 exact ⟨_, rfl, _, _, _, [], _, [], hW', trodAll_mk1 (shut_bool Tryz.underlying4 _), (trodAll_cons_mk (Below.trod laidOut (by kernel_rfl) (of_decide_eq_true (by kernel_rfl)) k0 bel lt0) trodAll_mk0), rfl, bel.frame _, fun h => by cases h⟩
theorem over : Rows.requestAsksRow.holds Tryz.pinned (OpenSpec.ofChange Rows.requestAsksSpec) :=
 OpenClaim.holds_of_wide 3 Tryz.f3 rfl rfl rfl rfl rfl rfl rfl ⟨rfl, rfl, rfl, rfl, rfl⟩ rfl rfl rfl rfl rfl (by kernel_rfl) Tryz.func3 (by kernel_rfl)
  (of_decide_eq_true (by kernel_rfl)) (by unfold Func.isWrapper; first | (rw [if_pos (by decide +kernel)]; kernel_rfl) | (rw [if_neg (by decide +kernel)]; exact ⟨rfl, rfl⟩))
  (fun os started H enc _ => lifted os started H enc)
theorem proved : Rows.RequestAsksSaid := over
#print axioms proved
end Go.Proofs.YtiojofjllkhbhaaGreat.requestAsks
