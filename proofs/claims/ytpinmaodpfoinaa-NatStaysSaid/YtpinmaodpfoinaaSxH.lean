import Derived.Test.YtpinmaodpfoinaaSxG
set_option linter.unusedVariables false
set_option linter.unusedSimpArgs false
namespace Go.Sx
open Go.RowKit Go.Ch

/-! ### operations that make memory -/
def ltC (m : Nat) : Cl → Bool
  | .wh i => decide (i < m)
  | .sl i _ _ => decide (i < m)
  | .pt i _ => decide (i < m)
  | _ => true
def ltL (m : Nat) : List Cl → Bool
  | [] => true
  | c :: l => ltC m c && ltL m l
def ltX (m : Nat) : Cs → Bool
  | .c l => ltL m l
  | _ => true
def lt1 (m : Nat) : A1 → Bool
  | .c x => ltC m x
  | .g _ cs => ltX m cs
def lt1s (m : Nat) : List A1 → Bool
  | [] => true
  | x :: l => lt1 m x && lt1s m l
def ltA (m : Nat) : AV → Bool
  | .c x => ltC m x
  | .g _ cs => ltX m cs
  | .t xs => lt1s m xs
def ltF (m : Nat) : Fr → Bool
  | [] => true
  | (_, x) :: l => ltA m x && ltF m l
def ltH (m : Nat) : Hp → Bool
  | [] => true
  | o :: l => (match o.kd with | .dead => true | _ => ltX m o.cs) && ltH m l
section
variable {ρ ρ' : Pls} {m : Nat}
theorem ltC_ok (hρ : ∀ i, i < m → ρ' i = ρ i) {c : Cl} (h : ltC m c = true) {v : Value} (hv : clR ρ c v) : clR ρ' c v := by
  cases c with
  | wh i => simp only [ltC, decide_eq_true_eq] at h; simp only [clR, hρ i h] at hv ⊢; exact hv
  | sl i lo n => simp only [ltC, decide_eq_true_eq] at h; simp only [clR, hρ i h] at hv ⊢; exact hv
  | pt i off => simp only [ltC, decide_eq_true_eq] at h; simp only [clR, hρ i h] at hv ⊢; exact hv
  | s x => exact hv
  | nils => exact hv
  | junk => exact hv
theorem ltL_ok (hρ : ∀ i, i < m → ρ' i = ρ i) : ∀ {l : List Cl}, ltL m l = true → ∀ c ∈ l, ltC m c = true
  | [], _, c, hc => by cases hc
  | x :: l, h, c, hc => by
    simp only [ltL, Bool.and_eq_true] at h
    rcases List.mem_cons.1 hc with rfl | hc
    · exact h.1
    · exact ltL_ok hρ h.2 c hc
theorem ltX_ok (hρ : ∀ i, i < m → ρ' i = ρ i) {cs : Cs} (h : ltX m cs = true) {vs : List Value} (hv : csR ρ cs vs) : csR ρ' cs vs := by
  cases cs with
  | c l => exact F2.mono hv (fun c hc v hr => ltC_ok hρ (ltL_ok hρ h c hc) hr)
  | b l => exact csR_b.2 (csR_b.1 hv)
  | w l => exact csR_w.2 (csR_w.1 hv)
  | q l => exact csR_q.2 (csR_q.1 hv)
  | z l => exact csR_z.2 (csR_z.1 hv)
theorem lt1_ok (hρ : ∀ i, i < m → ρ' i = ρ i) {x : A1} (h : lt1 m x = true) {v : Value} (hv : a1R ρ x v) : a1R ρ' x v := by
  cases x with
  | c x => exact ltC_ok hρ h hv
  | g n cs => obtain ⟨vs, hc, hn, he⟩ := hv; exact ⟨vs, ltX_ok hρ h hc, hn, he⟩
theorem lt1s_ok (hρ : ∀ i, i < m → ρ' i = ρ i) : ∀ {l : List A1}, lt1s m l = true → ∀ c ∈ l, lt1 m c = true
  | [], _, c, hc => by cases hc
  | x :: l, h, c, hc => by
    simp only [lt1s, Bool.and_eq_true] at h
    rcases List.mem_cons.1 hc with rfl | hc
    · exact h.1
    · exact lt1s_ok hρ h.2 c hc
theorem ltA_ok (hρ : ∀ i, i < m → ρ' i = ρ i) {x : AV} (h : ltA m x = true) {v : Value} (hv : avR ρ x v) : avR ρ' x v := by
  cases x with
  | c x => exact ltC_ok hρ h hv
  | g n cs => obtain ⟨vs, hc, hn, he⟩ := hv; exact ⟨vs, ltX_ok hρ h hc, hn, he⟩
  | t xs => obtain ⟨vs, hc, he⟩ := hv; exact ⟨vs, F2.mono hc (fun c hc v hr => lt1_ok hρ (lt1s_ok hρ h c hc) hr), he⟩
theorem ltF_ok : ∀ {fr : Fr}, ltF m fr = true → ∀ t x, fr.lookup t = some x → ltA m x = true
  | [], _, t, x, h => by simp at h
  | (k, y) :: l, h, t, x, hx => by
    simp only [ltF, Bool.and_eq_true] at h
    rw [List.lookup_cons] at hx
    split at hx
    · injection hx with hx; subst hx; exact h.1
    · exact ltF_ok h.2 t x hx
theorem ltH_ok : ∀ {H : Hp}, ltH m H = true → ∀ (i : Nat) (o : Oj), H[i]? = some o → o.kd ≠ .dead → ltX m o.cs = true
  | [], _, i, o, h, _ => by simp at h
  | x :: l, h, i, o, hx, hk => by
    simp only [ltH, Bool.and_eq_true] at h
    cases i with
    | zero =>
      simp at hx; subst hx
      have := h.1
      cases hk2 : x.kd <;> simp only [hk2] at this hk
      · exact this
      · exact this
      · exact this
      · exact absurd rfl hk
    | succ i => exact ltH_ok h.2 i o (by simpa using hx) hk
theorem objR_lt (hρ : ∀ i, i < m → ρ' i = ρ i) {w : World} {p : Pl} {o : Oj} (h : o.kd ≠ .dead → ltX m o.cs = true) (hv : objR ρ w p o) : objR ρ' w p o := by
  unfold objR at hv ⊢
  cases hk : o.kd with
  | dead => exact True.intro
  | ro fs => simp only [hk] at hv ⊢; obtain ⟨h0, h1, vs, hc, hA⟩ := hv; exact ⟨h0, h1, vs, ltX_ok hρ (h (by rw [hk]; simp)) hc, hA⟩
  | row => simp only [hk] at hv ⊢; obtain ⟨h0, vs, hc, hA⟩ := hv; exact ⟨h0, vs, ltX_ok hρ (h (by rw [hk]; simp)) hc, hA⟩
  | blk => simp only [hk] at hv ⊢; obtain ⟨h0, b, vs, hA, hc, hB⟩ := hv; exact ⟨h0, b, vs, hA, ltX_ok hρ (h (by rw [hk]; simp)) hc, hB⟩

/-- all that a state refers to is there -/
def okS (s : S) : Bool := ltF s.H.length s.fr && (ltF s.H.length s.gl && ltH s.H.length s.H)
def upd (ρ : Pls) (m : Nat) (p : Pl) : Pls := fun i => if i = m then p else ρ i
theorem upd_lt {ρ : Pls} {m : Nat} {p : Pl} : ∀ i, i < m → upd ρ m p i = ρ i := fun i hi => by unfold upd; rw [if_neg (by omega)]
theorem upd_at {ρ : Pls} {m : Nat} {p : Pl} : upd ρ m p m = p := by unfold upd; rw [if_pos rfl]

/-- put a slot -/
def putF (fr : Fr) (d : Option Nat) (x : AV) : Fr := match d with
  | some d => (d, x) :: fr.filter (fun p => !(p.1 == d))
  | none => fr
theorem putF_ok {ρ : Pls} {fr : Fr} {d : Option Nat} {x : AV} {a : Act} (h : FrR ρ fr a) {u : Value} (hu : avR ρ x u) (hd : ∀ k, d = some k → k < a.tmps.size) : FrR ρ (putF fr d x) (a.put d u) := by
  cases d with
  | none => exact h
  | some k =>
    intro t y hy
    simp only [putF, List.lookup_cons] at hy
    split at hy
    · rename_i he
      have he' : t = k := by simpa using he
      subst he'
      injection hy with hy; subst hy
      rw [getD_put_same a u t (hd t rfl)]; exact hu
    · rename_i he
      have he' : ¬ t = k := by simpa using he
      rw [getD_put_other a (some k) u t (by intro e; injection e with e; exact he' e.symm)]
      refine h t y ?_
      clear hu he h
      induction fr with
      | nil => simp at hy
      | cons q fr ih =>
        obtain ⟨k', z⟩ := q
        rw [List.filter_cons] at hy
        split at hy
        · rw [List.lookup_cons] at hy ⊢
          split
          · rename_i e; rw [e] at hy; exact hy
          · rename_i e; rw [e] at hy; exact ih hy
        · rename_i hne
          have : k' = k := by simpa using hne
          subst this
          rw [List.lookup_cons]
          split
          · rename_i e; exact absurd (by simpa using e) he'
          · exact ih hy
/-- a slot that is no longer known -/
def dropF (fr : Fr) (d : Option Nat) : Fr := match d with
  | some d => fr.filter (fun p => !(p.1 == d))
  | none => fr
theorem dropF_ok {ρ : Pls} {fr : Fr} {d : Option Nat} {a : Act} (h : FrR ρ fr a) {u : Value} : FrR ρ (dropF fr d) (a.put d u) := by
  cases d with
  | none => exact h
  | some k =>
    intro t y hy
    simp only [dropF] at hy
    have hne : t ≠ k := by
      rintro rfl
      clear h
      induction fr with
      | nil => simp at hy
      | cons q fr ih =>
        obtain ⟨k', z⟩ := q
        rw [List.filter_cons] at hy
        split at hy
        · rename_i hk
          rw [List.lookup_cons] at hy
          split at hy
          · rename_i e; simp at e hk; exact hk e.symm
          · exact ih hy
        · exact ih hy
    rw [getD_put_other a (some k) u t (by intro e; injection e with e; exact hne e.symm)]
    refine h t y ?_
    clear h
    induction fr with
    | nil => simp at hy
    | cons q fr ih =>
      obtain ⟨k', z⟩ := q
      rw [List.filter_cons] at hy
      split at hy
      · rw [List.lookup_cons] at hy ⊢
        split
        · rename_i e; rw [e] at hy; exact hy
        · rename_i e; rw [e] at hy; exact ih hy
      · rename_i hk
        have : k' = k := by simpa using hk
        subst this
        rw [List.lookup_cons]
        split
        · rename_i e; exact absurd (by simpa using e) hne
        · exact ih hy
end
end Go.Sx
