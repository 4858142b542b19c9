import Derived.Test.YtpinmaodpfoinaaSxV
set_option linter.unusedVariables false
set_option linter.unusedSimpArgs false
namespace Go.Sx
open Go.RowKit Go.Ch
section
variable {P : Program} {T : Tab} {ρ ρ' : Pls} {w w' : World} {bs : Bs} {w0 : World} {s s' : S} {a : Act} {N : Nat}

/-! ### a part of what was handed in is handed back -/
theorem GlR.cons {gl : Fr} {x : AV} (j : Nat) (hx : avR ρ x (bs.gv j)) (h : GlR bs ρ gl) : GlR bs ρ ((1000000 + j, x) :: gl) := by
  intro t y hy
  rw [List.lookup_cons] at hy
  split at hy
  · rename_i e
    have e : t = 1000000 + j := by simpa using e
    subst e
    injection hy with hy; subst hy
    unfold gvOf
    rw [if_neg (by omega), Nat.add_sub_cancel_left]
    exact hx
  · exact h t y hy
def subC (lo n : Nat) : AV → Option AV
  | .c (.wh i) => some (.c (.sl i lo n))
  | .c (.sl i l0 _) => some (.c (.sl i (oddA l0 lo) n))
  | _ => none
def Sz1 (ρ : Pls) (x : AV) : Prop := ∀ i, (x = .c (.wh i) ∨ ∃ l0 n0, x = .c (.sl i l0 n0)) → (ρ i).sz = 1
theorem sz_live {H : Hp} (hp : HpR ρ w H) {i : Nat} {o : Oj} (h : liveS H i = some o) (h1 : o.sz = 1) : (ρ i).sz = 1 := by
  obtain ⟨h2, h3⟩ := liveS_ok h
  obtain ⟨⟨e1, _⟩, _⟩ := (hp i o h2).read (nd h3)
  rw [e1, h1]
theorem vcs_sz {H : Hp} (hp : HpR ρ w H) {c : Cl} {n : Nat} {cs : Cs} (h : vcs H c = some (1, n, cs)) : Sz1 ρ (.c c) := by
  intro i hi
  rcases hi with e | ⟨l0, n0, e⟩
  · injection e with e; subst e
    simp only [vcs] at h
    split at h
    · rename_i o ho; injection h with h; simp only [Prod.mk.injEq] at h; exact sz_live hp ho h.1
    · cases h
  · injection e with e; subst e
    simp only [vcs] at h
    split at h
    · rename_i o ho; injection h with h; simp only [Prod.mk.injEq] at h; exact sz_live hp ho h.1
    · cases h
theorem aB_sz {H : Hp} (hp : HpR ρ w H) {x : AV} {l : List UInt8} (h : aB H x = some l) : Sz1 ρ x := by
  intro i hi
  rcases hi with e | ⟨l0, n0, e⟩
  · subst e
    simp only [aB, viewB] at h
    split at h
    · rename_i o ho; split at h
      · rename_i h1 _; exact sz_live hp ho h1
      · cases h
    · cases h
  · subst e
    simp only [aB, viewB] at h
    split at h
    · rename_i o ho; split at h
      · rename_i h1 _; exact sz_live hp ho h1
      · cases h
    · cases h
theorem aW_sz {H : Hp} (hp : HpR ρ w H) {x : AV} {l : List UInt32} (h : aW H x = some l) : Sz1 ρ x := by
  cases x with
  | c c =>
    simp only [aW, viewW] at h
    split at h
    · rename_i n l' hv; exact vcs_sz hp hv
    · split at h
      · intro i hi; rcases hi with e | ⟨_, _, e⟩ <;> cases e
      · cases h
  | _ => cases h
theorem aZ_sz {H : Hp} (hp : HpR ρ w H) {x : AV} {l : List Int} (h : aZ H x = some l) : Sz1 ρ x := by
  cases x with
  | c c =>
    simp only [aZ, viewZ] at h
    split at h
    · rename_i n l' hv; exact vcs_sz hp hv
    · split at h
      · intro i hi; rcases hi with e | ⟨_, _, e⟩ <;> cases e
      · cases h
  | _ => cases h
theorem aQ_sz {H : Hp} (hp : HpR ρ w H) {x : AV} {l : List UInt64} (h : aQ H x = some l) : Sz1 ρ x := by
  cases x with
  | c c =>
    simp only [aQ, viewQ] at h
    split at h
    · rename_i n l' hv; exact vcs_sz hp hv
    · split at h
      · intro i hi; rcases hi with e | ⟨_, _, e⟩ <;> cases e
      · cases h
  | _ => cases h
theorem retB_ok {gv : Nat → Value} (hR : Rel N (noB gv) w s a w') {fn : Func} {t : Nat} (hf : fn.results = #[.tmp t]) {k lo n q : Nat} (hfr : s.fr.lookup t = some (.c (.sl k lo n))) (hgl : s.gl.lookup (1000000 + q) = some (.c (.wh k)))
    (hsz : (liveS s.H k).map (·.sz) = some 1) {ρ0 : Pls} {H : Hp} {x y : AV} (hx : avR ρ0 x (gv q)) (hz : Sz1 ρ0 x) (hy : subC lo n x = some y) :
    ∃ v, (results fn a.tmps).run P w' = .ok v w' ∧ Ext w w' ∧ ∃ ps, Left ρ0 w H y [] v w' ps := by
  obtain ⟨_, _, ρ, hr⟩ := hR
  have hv := hr.fr t _ hfr
  have hg := hr.gl _ _ hgl
  have hgv : gvOf (noB gv) (1000000 + q) = gv q := by
    unfold gvOf; rw [if_neg (by omega), Nat.add_sub_cancel_left]; rfl
  rw [hgv] at hg
  obtain ⟨o, ho, ho1⟩ : ∃ o, liveS s.H k = some o ∧ o.sz = 1 := by
    cases hl : liveS s.H k with
    | none => rw [hl] at hsz; cases hsz
    | some o => rw [hl] at hsz; injection hsz with hsz; exact ⟨o, rfl, hsz⟩
  have hs := sz_live hr.hp ho ho1
  obtain ⟨k1, A, c, hA, k2, k3, k4, k5⟩ := hv
  have hg' : gv q = .slice (ρ k).A (ρ k).n (ρ k).cap := hg
  refine ⟨_, results_tmp hf _ _ _, hr.kp.below, [], rfl, fun j o p ho => by simp at ho, ?_, fun j o p g ho => by simp at ho, fun j l o o' p p' g hjl ho => by simp at ho⟩
  have hu : updL ρ0 H.length [] = ρ0 := by funext i; unfold updL; split <;> simp
  rw [hu]
  unfold subC at hy
  split at hy
  · rename_i i
    injection hy with hy; subst hy
    have hx' : gv q = .slice (ρ0 i).A (ρ0 i).n (ρ0 i).cap := hx
    rw [hg'] at hx'
    injection hx' with e1 e2 e3
    have h1 := hz i (.inl rfl)
    show clR ρ0 (.sl i lo n) _
    exact ⟨by omega, A, c, hA, k2, k3, k4, fun h => by rw [k5 h, hs, e1, h1]⟩
  · rename_i i l0 n0
    injection hy with hy; subst hy
    obtain ⟨m1, A', c', hA', m2, m3, m4, m5⟩ := hx
    rw [hg'] at hA'
    injection hA' with e1 e2 e3
    have h1 := hz i (.inr ⟨l0, n0, rfl⟩)
    have ho : oddA l0 lo = l0 + lo := oddA_eq l0 lo
    show clR ρ0 (.sl i (oddA l0 lo) n) _
    rw [ho]
    refine ⟨by omega, A, c, hA, k2, k3, k4, fun h => ?_⟩
    rw [k5 h, hs, e1, m5 (by omega), h1]
    cases (ρ0 i).A with
    | none => rfl
    | some ad => simp [add_add]
  · cases hy
end
end Go.Sx
