import Derived.Test.YtpinmaodpfoinaaSxI
set_option linter.unusedVariables false
set_option linter.unusedSimpArgs false
namespace Go.Sx
open Go.RowKit Go.Ch
section
variable {P : Program} {T : Tab} {ρ : Pls} {w w' : World} {bs : Bs} {w0 : World} {s : S} {a : Act}

/-! ### steps of a state -/
theorem HpR.keep {H : Hp} (hp : HpR ρ w H) (sep : SepR ρ H) {row : Option Nat} (hg : w.grownBy w' row) {i : Nat} (hrow : ∀ g, row = some g → ∃ o, H[i]? = some o ∧ o.own = true ∧ objAt (ρ i) o g) :
    ∀ (j : Nat) (o : Oj), j ≠ i → H[j]? = some o → objR ρ w' (ρ j) o := by
  intro j o hj ho
  refine (hp j o ho).keep fun g hlt hat => hg.block g hlt fun e => ?_
  obtain ⟨oi, hoi, hown, hati⟩ := hrow g e.symm
  exact sep i j oi o g (fun e => hj e.symm) hoi ho hown hati hat
theorem okS_ok (h : okS s = true) : ltF s.H.length s.fr = true ∧ ltF s.H.length s.gl = true ∧ ltH s.H.length s.H = true := by
  unfold okS at h
  simp only [Bool.and_eq_true] at h
  exact ⟨h.1, h.2.1, h.2.2⟩
theorem getElem?_snoc {H : Hp} {o x : Oj} {i : Nat} (h : (H ++ [o])[i]? = some x) : (i < H.length ∧ H[i]? = some x) ∨ (i = H.length ∧ x = o) := by
  by_cases hi : i < H.length
  · rw [List.getElem?_append_left hi] at h; exact .inl ⟨hi, h⟩
  · rw [List.getElem?_append_right (by omega)] at h
    cases hk : i - H.length with
    | zero => rw [hk] at h; simp at h; exact .inr ⟨by omega, h.symm⟩
    | succ n => rw [hk] at h; simp at h

/-- an object comes to a state; the others are as they were (one may have died) -/
theorem RelA.new (h : RelA ρ bs w0 s a w) (hs : okS s = true) {o : Oj} (ho : ltX s.H.length o.cs = true) {p : Pl} {H' : Hp}
    (hlen : H'.length = s.H.length) (hH' : ∀ (j : Nat) (x : Oj), H'[j]? = some x → x.kd = .dead ∨ (s.H[j]? = some x ∧ objR ρ w' (ρ j) x))
    (hk : Kp bs w0 w') (hnew : objR ρ w' p o)
    (hsep : o.kd ≠ .dead → ∀ (j : Nat) (x : Oj) (g : Nat), H'[j]? = some x → x.kd ≠ .dead → objAt p o g → (x.own = true ∨ o.own = true) → ¬ objAt (ρ j) x g)
    (hown : o.fsh = true → ∀ g, objAt p o g → w0.heap.size ≤ g ∨ bs g) (fr : Fr) (a' : Act) (hfr : FrR (upd ρ s.H.length p) fr a') :
    RelA (upd ρ s.H.length p) bs w0 ⟨fr, s.gl, H' ++ [o]⟩ a' w' := by
  obtain ⟨h1, h2, h3⟩ := okS_ok hs
  have hlt : ∀ i, i < s.H.length → upd ρ s.H.length p i = ρ i := upd_lt
  have hold : ∀ (j : Nat) (x : Oj), H'[j]? = some x → j < s.H.length := fun j x hx => by
    have := (List.getElem?_eq_some_iff.1 hx).1; omega
  refine ⟨hfr, fun t x hx => ltA_ok hlt (ltF_ok h2 t x hx) (h.gl t x hx), fun i x hx => ?_, fun i j x y g hij hx hy hox hat => ?_, fun i x g hx hox hat => ?_, hk⟩
  · rcases getElem?_snoc hx with ⟨hi, hx⟩ | ⟨hi, rfl⟩
    · rw [hlt i (by omega)]
      rcases hH' i x hx with hd | ⟨hs, hr⟩
      · unfold objR; simp only [hd]
      · exact objR_lt hlt (fun hkd => ltH_ok h3 i x hs hkd) hr
    · rw [hi, hlen, upd_at]
      exact objR_lt hlt (fun _ => ho) hnew
  · intro hat2
    have hxk : x.kd ≠ .dead := by intro e; unfold Oj.own at hox; rw [e] at hox; cases hox
    have hyk : y.kd ≠ .dead := by intro e; unfold objAt at hat2; simp only [e] at hat2
    rcases getElem?_snoc hx with ⟨hi, hx1⟩ | ⟨hi, rfl⟩
    · rw [hlt i (by omega)] at hat
      rcases getElem?_snoc hy with ⟨hj, hy1⟩ | ⟨hj, rfl⟩
      · rw [hlt j (by omega)] at hat2
        rcases hH' i x hx1 with hd | ⟨hsx, _⟩
        · exact hxk hd
        · rcases hH' j y hy1 with hd | ⟨hsy, _⟩
          · exact hyk hd
          · exact h.sep i j x y g hij hsx hsy hox hat hat2
      · rw [hj, hlen, upd_at] at hat2
        exact hsep hyk i x g hx1 hxk hat2 (.inl hox) hat
    · rw [hi, hlen, upd_at] at hat
      rcases getElem?_snoc hy with ⟨hj, hy1⟩ | ⟨hj, rfl⟩
      · rw [hlt j (by omega)] at hat2
        exact hsep hxk j y g hy1 hyk hat (.inr hox) hat2
      · omega
  · rcases getElem?_snoc hx with ⟨hi, hx⟩ | ⟨hi, rfl⟩
    · rw [hlt i (by omega)] at hat
      rcases hH' i x hx with hd | ⟨hsx, _⟩
      · unfold Oj.fsh at hox; rw [hd] at hox; cases hox
      · exact h.own i x g hsx hox hat
    · rw [hi, hlen, upd_at] at hat
      exact hown hox g hat
theorem objAt_lt {p : Pl} {o : Oj} {g : Nat} (h : objR ρ w p o) (hat : objAt p o g) : g < w.heap.size := by
  unfold objAt at hat
  have hk : o.kd ≠ .dead := by intro e; simp only [e] at hat
  have hh := h
  unfold objR at hh
  cases hkd : o.kd with
  | dead => exact absurd hkd hk
  | ro fs =>
    simp only [hkd] at hat hh
    obtain ⟨hn, ad, had, rfl⟩ := hat
    obtain ⟨⟨e1, e2, e3⟩, _, vs, hc, hA⟩ := hh
    have hl : vs.length ≠ 0 := by rw [hc.len, e3, ← e1, ← e2]; exact hn
    have := World.block_lt_of_cell? _ _ (hA ad had 0 vs[0] (List.getElem?_eq_getElem (by omega)))
    rwa [block_add] at this
  | row =>
    simp only [hkd] at hat hh
    obtain ⟨ad, had, rfl⟩ := hat
    obtain ⟨_, vs, hc, hr⟩ := hh
    exact (World.ownsRow.lt hr ad.block (by rw [had]; rfl)).2
  | blk =>
    simp only [hkd] at hat hh
    obtain ⟨ad, had, rfl⟩ := hat
    obtain ⟨_, b, vs, hA, hc, hB⟩ := hh
    rw [had] at hA; injection hA with hA; subst hA
    exact hB.lt
/-- a value operation, as a step -/
theorem RelA.put (h : RelA ρ bs w0 s a w) {d : Option Nat} {z : AV} {u : Value} (hu : avR ρ z u) (hd : ∀ k, d = some k → k < a.tmps.size) : RelA ρ bs w0 ⟨putF s.fr d z, s.gl, s.H⟩ (a.put d u) w :=
  ⟨putF_ok h.fr hu hd, h.gl, h.hp, h.sep, h.own, h.kp⟩
theorem RelA.drop (h : RelA ρ bs w0 s a w) {d : Option Nat} {u : Value} : RelA ρ bs w0 ⟨dropF s.fr d, s.gl, s.H⟩ (a.put d u) w :=
  ⟨dropF_ok h.fr, h.gl, h.hp, h.sep, h.own, h.kp⟩
/-- memory is made -/
theorem RelA.alloc (h : RelA ρ bs w0 s a w) (hs : okS s = true) {o : Oj} (ho : ltX s.H.length o.cs = true) {p : Pl} {b : Bool} {u : Value} (hg : w.grownBy w' none) (hn : newR ρ w w' u p b o) (hk : o.kd ≠ .dead)
    {d : Option Nat} (hd : ∀ k, d = some k → k < a.tmps.size) : RelA (upd ρ s.H.length p) bs w0 ⟨putF s.fr d (if b then .c (.pt s.H.length 0) else .c (.wh s.H.length)), s.gl, s.H ++ [o]⟩ (a.put d u) w' := by
  obtain ⟨hn1, hn2, hn3, hn4⟩ := hn
  have hkeep : ∀ (j : Nat) (x : Oj), s.H[j]? = some x → objR ρ w' (ρ j) x := fun j x hx => (h.hp j x hx).keep fun g hlt _ => hg.block g hlt (by simp)
  refine h.new hs ho rfl (fun j x hx => .inr ⟨hx, hkeep j x hx⟩) (h.kp.grown hg (fun g hg => by cases hg)) hn1 (fun _ j x g hx _ hat _ hat2 => ?_) (fun _ g hat => .inl (Nat.le_trans h.kp.size (hn2 g hat))) _ _ ?_
  · have := objAt_lt (h.hp j x hx) hat2
    have := hn2 g hat
    omega
  · refine putF_ok (fun t x hx => ltA_ok upd_lt (ltF_ok (okS_ok hs).1 t x hx) (h.fr t x hx)) ?_ hd
    cases b with
    | true =>
      obtain ⟨h1, ad, h2, rfl⟩ := hn3 rfl
      show clR _ (.pt _ 0) _
      refine ⟨by rw [upd_at]; exact h1, ad, by rw [upd_at]; exact h2, by simp [Addr.add]⟩
    | false =>
      show clR _ (.wh _) _
      simp only [clR, upd_at]
      exact hn4 rfl
end
end Go.Sx
