import Derived.Test.YtpinmaodpfoinaaSxM
set_option linter.unusedVariables false
set_option linter.unusedSimpArgs false
namespace Go.Sx
open Go.RowKit Go.Ch
section
variable {P : Program} {T : Tab} {ft : Nat → FT} {ρ : Pls} {w w' : World} {bs : Bs} {w0 : World} {s s' : S} {a : Act} {N : Nat}

/-! ### other numbers for the objects; only what is wanted is kept -/
def rnI (objs : List Nat) (i : Nat) : Option Nat := match objs with
  | [] => none
  | j :: js => match Nat.beq j i with | true => some 0 | false => (match rnI js i with | some k => some (k + 1) | none => none)
theorem rnI_ok : ∀ {objs : List Nat} {i k : Nat}, rnI objs i = some k → objs[k]? = some i
  | [], i, k, h => by cases h
  | j :: js, i, k, h => by
    simp only [rnI] at h
    split at h
    · rename_i he
      injection h with h; subst h
      have := Nat.eq_of_beq_eq_true he
      subst this; rfl
    · split at h
      · rename_i k' hk
        injection h with h; subst h
        simpa using rnI_ok hk
      · cases h
def rnC (objs : List Nat) : Cl → Option Cl
  | .s x => some (.s x)
  | .nils => some .nils
  | .junk => some .junk
  | .wh i => (match rnI objs i with | some k => some (.wh k) | none => none)
  | .sl i lo n => (match rnI objs i with | some k => some (.sl k lo n) | none => none)
  | .pt i off => (match rnI objs i with | some k => some (.pt k off) | none => none)
def rnL (objs : List Nat) : List Cl → Option (List Cl)
  | [] => some []
  | c :: l => match rnC objs c, rnL objs l with | some c', some l' => some (c' :: l') | _, _ => none
def rnX (objs : List Nat) : Cs → Option Cs
  | .c l => (match rnL objs l with | some l' => some (.c l') | none => none)
  | .b l => some (.b l)
  | .w l => some (.w l)
  | .q l => some (.q l)
  | .z l => some (.z l)
def rn1 (objs : List Nat) : A1 → Option A1
  | .c x => (match rnC objs x with | some y => some (.c y) | none => none)
  | .g n cs => (match rnX objs cs with | some y => some (.g n y) | none => none)
def rn1s (objs : List Nat) : List A1 → Option (List A1)
  | [] => some []
  | c :: l => match rn1 objs c, rn1s objs l with | some c', some l' => some (c' :: l') | _, _ => none
def rnA (objs : List Nat) : AV → Option AV
  | .c x => (match rnC objs x with | some y => some (.c y) | none => none)
  | .g n cs => (match rnX objs cs with | some y => some (.g n y) | none => none)
  | .t xs => (match rn1s objs xs with | some ys => some (.t ys) | none => none)
def rnF (objs : List Nat) (fr : Fr) : List Nat → Option Fr
  | [] => some []
  | t :: ts => match fr.lookup t, rnF objs fr ts with
    | some x, some r => (match rnA objs x with | some y => some ((t, y) :: r) | none => none)
    | _, _ => none
def rnG (objs : List Nat) : Fr → Option Fr
  | [] => some []
  | (t, x) :: l => match rnA objs x, rnG objs l with | some y, some r => some ((t, y) :: r) | _, _ => none
def rnH (objs : List Nat) (H : Hp) : List Nat → Option Hp
  | [] => some []
  | i :: is => match H[i]?, rnH objs H is with
    | some o, some r => (match rnX objs o.cs with | some cs => some (⟨o.kd, o.e, o.sz, o.n, cs⟩ :: r) | none => none)
    | _, _ => none
def nodup : List Nat → Bool
  | [] => true
  | i :: is => (match rnI is i with | some _ => false | none => true) && nodup is
theorem rnI_none : ∀ {objs : List Nat} {i : Nat}, rnI objs i = none → ∀ (k : Nat), objs[k]? ≠ some i
  | [], i, h, k => by simp
  | j :: js, i, h, k => by
    simp only [rnI] at h
    split at h
    · cases h
    · rename_i he
      split at h
      · cases h
      · rename_i hn
        cases k with
        | zero => intro e; simp at e; subst e; rw [Nat.beq_refl] at he; cases he
        | succ k => simpa using rnI_none hn k
theorem nodup_ok : ∀ {l : List Nat}, nodup l = true → ∀ (i j k : Nat), l[i]? = some k → l[j]? = some k → i = j
  | [], _, i, j, k, h, _ => by simp at h
  | x :: l, h, i, j, k, hi, hj => by
    simp only [nodup, Bool.and_eq_true] at h
    have hx : rnI l x = none := by
      cases hh : rnI l x with
      | none => rfl
      | some _ => have := h.1; rw [hh] at this; cases this
    cases i with
    | zero =>
      cases j with
      | zero => rfl
      | succ j => simp at hi hj; subst hi; exact absurd hj (rnI_none hx j)
    | succ i =>
      cases j with
      | zero => simp at hi hj; subst hj; exact absurd hi (rnI_none hx i)
      | succ j => simp at hi hj; rw [nodup_ok h.2 i j k hi hj]
def keep (live objs : List Nat) (s : S) : Option S := match rnF objs s.fr live, rnG objs s.gl, rnH objs s.H objs, nodup objs with
  | some fr, some gl, some H, true => some ⟨fr, gl, H⟩
  | _, _, _, _ => none
def plK (ρ : Pls) (objs : List Nat) : Pls := fun k => match objs[k]? with | some i => ρ i | none => ρ 0
theorem plK_at {objs : List Nat} {k i : Nat} (h : objs[k]? = some i) : plK ρ objs k = ρ i := by unfold plK; rw [h]
theorem rnC_ok {objs : List Nat} {c c' : Cl} (h : rnC objs c = some c') {v : Value} (hv : clR ρ c v) : clR (plK ρ objs) c' v := by
  cases c with
  | s x => injection h with h; subst h; exact hv
  | nils => injection h with h; subst h; exact hv
  | junk => injection h with h; subst h; exact hv
  | wh i =>
    simp only [rnC] at h
    split at h
    · rename_i k hk; injection h with h; subst h
      simp only [clR, plK_at (rnI_ok hk)] at hv ⊢; exact hv
    · cases h
  | sl i lo n =>
    simp only [rnC] at h
    split at h
    · rename_i k hk; injection h with h; subst h
      simp only [clR, plK_at (rnI_ok hk)] at hv ⊢; exact hv
    · cases h
  | pt i off =>
    simp only [rnC] at h
    split at h
    · rename_i k hk; injection h with h; subst h
      simp only [clR, plK_at (rnI_ok hk)] at hv ⊢; exact hv
    · cases h
theorem rnL_ok {objs : List Nat} : ∀ {l l' : List Cl}, rnL objs l = some l' → ∀ {vs : List Value}, F2 (clR ρ) l vs → F2 (clR (plK ρ objs)) l' vs
  | [], l', h, vs, hv => by injection h with h; subst h; have := hv.1; simp at this; rw [List.eq_nil_of_length_eq_zero this.symm]; exact F2.nil
  | c :: l, l', h, vs, hv => by
    simp only [rnL] at h
    split at h
    · rename_i c1 l1 h1 h2
      injection h with h; subst h
      cases vs with
      | nil => exact absurd hv.1 (by simp)
      | cons v vs =>
        have h3 := hv.2 0 c v rfl rfl
        have h4 : F2 (clR ρ) l vs := ⟨by have := hv.1; simpa using this, fun j a b ha hb => hv.2 (j + 1) a b (by simpa using ha) (by simpa using hb)⟩
        exact F2.cons (rnC_ok h1 h3) (rnL_ok h2 h4)
    · cases h
theorem rnX_ok {objs : List Nat} {cs cs' : Cs} (h : rnX objs cs = some cs') {vs : List Value} (hv : csR ρ cs vs) : csR (plK ρ objs) cs' vs := by
  cases cs with
  | c l =>
    simp only [rnX] at h
    split at h
    · rename_i l' hl; injection h with h; subst h; exact rnL_ok hl hv
    · cases h
  | b l => injection h with h; subst h; exact csR_b.2 (csR_b.1 hv)
  | w l => injection h with h; subst h; exact csR_w.2 (csR_w.1 hv)
  | q l => injection h with h; subst h; exact csR_q.2 (csR_q.1 hv)
  | z l => injection h with h; subst h; exact csR_z.2 (csR_z.1 hv)
theorem rnX_len {objs : List Nat} : ∀ {l l' : List Cl}, rnL objs l = some l' → l'.length = l.length
  | [], l', h => by injection h with h; subst h; rfl
  | c :: l, l', h => by
    simp only [rnL] at h
    split at h
    · rename_i c1 l1 h1 h2; injection h with h; subst h; simp [rnX_len h2]
    · cases h
theorem rnX_cl {objs : List Nat} {cs cs' : Cs} (h : rnX objs cs = some cs') : cs'.cl.length = cs.cl.length := by
  cases cs with
  | c l =>
    simp only [rnX] at h
    split at h
    · rename_i l' hl; injection h with h; subst h; exact rnX_len hl
    · cases h
  | b l => injection h with h; subst h; rfl
  | w l => injection h with h; subst h; rfl
  | q l => injection h with h; subst h; rfl
  | z l => injection h with h; subst h; rfl
theorem rn1_ok {objs : List Nat} {x y : A1} (h : rn1 objs x = some y) {v : Value} (hv : a1R ρ x v) : a1R (plK ρ objs) y v := by
  cases x with
  | c c =>
    simp only [rn1] at h
    split at h
    · rename_i c' hc; injection h with h; subst h; exact rnC_ok hc hv
    · cases h
  | g n cs =>
    simp only [rn1] at h
    split at h
    · rename_i cs' hc; injection h with h; subst h
      obtain ⟨vs, h1, h2, h3⟩ := hv
      exact ⟨vs, rnX_ok hc h1, h2, h3⟩
    · cases h
theorem rn1s_ok {objs : List Nat} : ∀ {l l' : List A1}, rn1s objs l = some l' → ∀ {vs : List Value}, F2 (a1R ρ) l vs → F2 (a1R (plK ρ objs)) l' vs
  | [], l', h, vs, hv => by injection h with h; subst h; have := hv.1; simp at this; rw [List.eq_nil_of_length_eq_zero this.symm]; exact F2.nil
  | c :: l, l', h, vs, hv => by
    simp only [rn1s] at h
    split at h
    · rename_i c1 l1 h1 h2
      injection h with h; subst h
      cases vs with
      | nil => exact absurd hv.1 (by simp)
      | cons v vs =>
        have h3 := hv.2 0 c v rfl rfl
        have h4 : F2 (a1R ρ) l vs := ⟨by have := hv.1; simpa using this, fun j a b ha hb => hv.2 (j + 1) a b (by simpa using ha) (by simpa using hb)⟩
        exact F2.cons (rn1_ok h1 h3) (rn1s_ok h2 h4)
    · cases h
theorem rnA_ok {objs : List Nat} {x y : AV} (h : rnA objs x = some y) {v : Value} (hv : avR ρ x v) : avR (plK ρ objs) y v := by
  cases x with
  | c c =>
    simp only [rnA] at h
    split at h
    · rename_i c' hc; injection h with h; subst h; exact rnC_ok hc hv
    · cases h
  | g n cs =>
    simp only [rnA] at h
    split at h
    · rename_i cs' hc; injection h with h; subst h
      obtain ⟨vs, h1, h2, h3⟩ := hv
      exact ⟨vs, rnX_ok hc h1, h2, h3⟩
    · cases h
  | t xs =>
    simp only [rnA] at h
    split at h
    · rename_i ys hy; injection h with h; subst h
      obtain ⟨vs, h1, h2⟩ := hv
      exact ⟨vs, rn1s_ok hy h1, h2⟩
    · cases h
theorem rnF_ok {objs : List Nat} {fr : Fr} : ∀ {ts : List Nat} {r : Fr}, rnF objs fr ts = some r → ∀ t y, r.lookup t = some y → ∃ x, fr.lookup t = some x ∧ rnA objs x = some y
  | [], r, h, t, y, hy => by injection h with h; subst h; simp at hy
  | t0 :: ts, r, h, t, y, hy => by
    simp only [rnF] at h
    split at h
    · rename_i x r1 h1 h2
      split at h
      · rename_i y1 h3
        injection h with h; subst h
        rw [List.lookup_cons] at hy
        split at hy
        · rename_i e
          have : t = t0 := by simpa using e
          subst this
          injection hy with hy; subst hy
          exact ⟨x, h1, h3⟩
        · exact rnF_ok h2 t y hy
      · cases h
    · cases h
theorem rnG_ok {objs : List Nat} : ∀ {gl r : Fr}, rnG objs gl = some r → ∀ t y, r.lookup t = some y → ∃ x, gl.lookup t = some x ∧ rnA objs x = some y
  | [], r, h, t, y, hy => by injection h with h; subst h; simp at hy
  | (t0, x0) :: gl, r, h, t, y, hy => by
    simp only [rnG] at h
    split at h
    · rename_i y1 r1 h1 h2
      injection h with h; subst h
      rw [List.lookup_cons] at hy ⊢
      split at hy
      · injection hy with hy; subst hy
        exact ⟨x0, rfl, h1⟩
      · exact rnG_ok h2 t y hy
    · cases h
theorem rnH_ok {objs : List Nat} {H : Hp} : ∀ {is : List Nat} {r : Hp}, rnH objs H is = some r → ∀ (k : Nat) (o' : Oj), r[k]? = some o' → ∃ i o cs, is[k]? = some i ∧ H[i]? = some o ∧ rnX objs o.cs = some cs ∧ o' = ⟨o.kd, o.e, o.sz, o.n, cs⟩
  | [], r, h, k, o', ho => by injection h with h; subst h; simp at ho
  | i :: is, r, h, k, o', ho => by
    simp only [rnH] at h
    split at h
    · rename_i o r1 h1 h2
      split at h
      · rename_i cs h3
        injection h with h; subst h
        cases k with
        | zero => simp at ho; subst ho; exact ⟨i, o, cs, rfl, h1, h3, rfl⟩
        | succ k => simpa using rnH_ok h2 k o' (by simpa using ho)
      · cases h
    · cases h
theorem keep_ok {live objs : List Nat} (h : keep live objs s = some s') (hR : Rel N bs w0 s a w) : Rel N bs w0 s' a w := by
  obtain ⟨r1, r2, ρ, r3⟩ := hR
  refine ⟨r1, r2, plK ρ objs, ?_⟩
  unfold keep at h
  split at h
  · rename_i fr gl H h1 h2 h3 h4
    injection h with h; subst h
    have hobjAt : ∀ (p : Pl) (o : Oj) (cs : Cs) (g : Nat), objAt p ⟨o.kd, o.e, o.sz, o.n, cs⟩ g ↔ objAt p o g := fun p o cs g => Iff.rfl
    refine ⟨fun t y hy => ?_, fun t y hy => ?_, fun k o' ho => ?_, fun k l x y g hkl hx hy hox hat hat2 => ?_, fun k x g hx hox hat => ?_, r3.kp⟩
    · obtain ⟨x, hx, hxy⟩ := rnF_ok h1 t y hy
      exact rnA_ok hxy (r3.fr t x hx)
    · obtain ⟨x, hx, hxy⟩ := rnG_ok h2 t y hy
      exact rnA_ok hxy (r3.gl t x hx)
    · obtain ⟨i, o, cs, hi, hoi, hcs, rfl⟩ := rnH_ok h3 k o' ho
      rw [plK_at hi]
      have hr := r3.hp i o hoi
      have hl := rnX_cl hcs
      unfold objR at hr ⊢
      cases hk : o.kd with
      | dead => exact True.intro
      | ro fs => simp only [hk] at hr ⊢; obtain ⟨⟨e1, e2, e3⟩, g1, vs, hc, hA⟩ := hr; exact ⟨⟨e1, e2, by rw [hl]; exact e3⟩, g1, vs, rnX_ok hcs hc, hA⟩
      | row => simp only [hk] at hr ⊢; obtain ⟨⟨e1, e2, e3⟩, vs, hc, hA⟩ := hr; exact ⟨⟨e1, e2, by rw [hl]; exact e3⟩, vs, rnX_ok hcs hc, hA⟩
      | blk => simp only [hk] at hr ⊢; obtain ⟨⟨e1, e2, e3⟩, b, vs, hA, hc, hB⟩ := hr; exact ⟨⟨e1, e2, by rw [hl]; exact e3⟩, b, vs, hA, rnX_ok hcs hc, hB⟩
    · obtain ⟨i, o, cs, hi, hoi, hcs, rfl⟩ := rnH_ok h3 k x hx
      obtain ⟨j, o2, cs2, hj, hoj, hcs2, rfl⟩ := rnH_ok h3 l y hy
      rw [plK_at hi] at hat
      rw [plK_at hj] at hat2
      have hne : i ≠ j := fun e => hkl (nodup_ok h4 k l i hi (e ▸ hj))
      exact r3.sep i j o o2 g hne hoi hoj hox hat hat2
    · obtain ⟨i, o, cs, hi, hoi, hcs, rfl⟩ := rnH_ok h3 k x hx
      rw [plK_at hi] at hat
      exact r3.own i o g hoi hox hat
  · cases h

/-! ### code -/
def W (P : Program) (N : Nat) (bs : Bs) (w0 : World) (c : Code) (s : S) (Q : Exit → S → Prop) : Prop :=
  ∀ a w, Rel N bs w0 s a w → c.wp P (fun ex a' w' => ∃ s', Q ex s' ∧ Rel N bs w0 s' a' w') a w
def WL (P : Program) (N : Nat) (bs : Bs) (w0 : World) (n : Nat) (c : Code) (s : S) (Q : Exit → S → Prop) : Prop :=
  ∀ a w, Rel N bs w0 s a w → Code.rounds P c (fun ex a' w' => ∃ s', Q ex s' ∧ Rel N bs w0 s' a' w') n a w
variable {Q : Exit → S → Prop}
@[reducible] def thenQ (K : S → Prop) (Q : Exit → S → Prop) : Exit → S → Prop
  | .normal, s => K s
  | e, s => Q e s
@[reducible] def blockQ (id : Nat) (Q : Exit → S → Prop) : Exit → S → Prop
  | .exit j, s => (match Nat.beq j id with | true => Q .normal s | false => Q (.exit j) s)
  | e, s => Q e s
theorem W_seq {x y : Code} (h : W P N bs w0 x s (thenQ (fun s' => W P N bs w0 y s' Q) Q)) : W P N bs w0 (.seq x y) s Q := by
  intro a w hR
  refine wp_seq (Go.wp_mono (h a w hR) fun e a' w' ⟨s', hq, hr⟩ => ?_)
  cases e with
  | normal => exact hq a' w' hr
  | _ => exact ⟨s', hq, hr⟩
theorem W_skip (h : Q .normal s) : W P N bs w0 .skip s Q := fun a w hR => wp_skip ⟨s, h, hR⟩
theorem W_exit {id : Nat} (h : Q (.exit id) s) : W P N bs w0 (.exit id) s Q := fun a w hR => wp_exit ⟨s, h, hR⟩
theorem W_ret (h : Q .ret s) : W P N bs w0 .ret s Q := fun a w hR => wp_ret ⟨s, h, hR⟩
theorem W_block {id : Nat} {c : Code} (h : W P N bs w0 c s (blockQ id Q)) : W P N bs w0 (.block id c) s Q := by
  intro a w hR
  refine wp_block (Go.wp_mono (h a w hR) fun e a' w' ⟨s', hq, hr⟩ => ?_)
  cases e with
  | exit j =>
    simp only [Exit.inBlock]
    by_cases hj : j = id
    · subst hj
      rw [if_pos rfl]
      simp only [blockQ, Nat.beq_refl] at hq
      exact ⟨s', hq, hr⟩
    · rw [if_neg hj]
      have : Nat.beq j id = false := by
        cases hb : Nat.beq j id
        · rfl
        · exact absurd (Nat.eq_of_beq_eq_true hb) hj
      simp only [blockQ, this] at hq
      exact ⟨s', hq, hr⟩
  | _ => exact ⟨s', hq, hr⟩
theorem W_cond {t : Nat} {x y : Code} {b : Bool} (hb : s.fr.lookup t = some (.c (.s (.b b)))) (hx : b = true → W P N bs w0 x s Q) (hy : b = false → W P N bs w0 y s Q) : W P N bs w0 (.cond (.tmp t) x y) s Q := by
  intro a w hR
  obtain ⟨r1, r2, ρ, r3⟩ := hR
  have hv : a.eval (.tmp t) = .bool b := r3.fr t _ hb
  exact wp_cond_split hv (fun h => hx h a w ⟨r1, r2, ρ, r3⟩) (fun h => hy h a w ⟨r1, r2, ρ, r3⟩)
theorem W_loop {c : Code} (n : Nat) (h : WL P N bs w0 n c s Q) : W P N bs w0 (.loop c) s Q := fun a w hR => wp_loop_rounds n (h a w hR)
theorem WL_succ {c : Code} {n : Nat} (h : W P N bs w0 c s (thenQ (fun s' => WL P N bs w0 n c s' Q) Q)) : WL P N bs w0 (n + 1) c s Q := by
  intro a w hR
  rw [rounds_succ]
  refine Go.wp_mono (h a w hR) fun e a' w' ⟨s', hq, hr⟩ => ?_
  cases e with
  | normal => exact hq a' w' hr
  | _ => exact ⟨s', hq, hr⟩
/-- a region, then other words for what it left -/
def after (cs : List Co) (live objs : List Nat) (s : S) : Option S := match coS cs s with | some s1 => keep live objs s1 | none => none
theorem after_ok {cs : List Co} {live objs : List Nat} (h : after cs live objs s = some s') (hR : Rel N bs w0 s a w) : Rel N bs w0 s' a w := by
  unfold after at h
  split at h
  · rename_i s1 h1; exact keep_ok h (coS_ok h1 hR)
  · cases h
def reg (T : Tab) (ft : Nat → FT) (N : Nat) (asm : List (Nat × Bool)) (cs : List Co) (live objs : List Nat) (ops : List Oper) (s : S) : Option (List Prop × S) :=
  match exR T ft N ops.toArray asm 0 ops s with
  | some (g, s1) => (match after cs live objs s1 with | some s2 => some (g, s2) | none => none)
  | none => none
theorem W_reg (hT : TabOk P T) (hF : ∀ i, FtOk P (Kp bs w0) (ft i)) {id : Nat} {l : List Oper} (asm : List (Nat × Bool)) (cs : List Co) (live objs : List Nat) {g : List Prop} {s' : S} (h : reg T ft N asm cs live objs l s = some (g, s')) (hg : allP g) (hQ : Q .normal s') :
    W P N bs w0 (.region id l.toArray false) s Q := by
  intro a w hR
  unfold reg at h
  split at h
  · rename_i g1 s1 h1
    split at h
    · rename_i s2 h2
      injection h with h; simp only [Prod.mk.injEq] at h; obtain ⟨rfl, rfl⟩ := h
      exact wp_region_lit (exR_ok hT hF l 0 g1 s a w h1 hg hR (fun a' w' hr => ⟨s2, hQ, after_ok h2 hr⟩))
    · cases h
  · cases h
theorem W_co {c : Code} (cs : List Co) (live objs : List Nat) {s' : S} (h : after cs live objs s = some s') (hW : W P N bs w0 c s' Q) : W P N bs w0 c s Q := fun a w hR => hW a w (after_ok h hR)

/-- ways meet ahead of y -/
theorem W_join {x y : Code} (J : S → Prop) (hJ : ∀ s', J s' → W P N bs w0 y s' Q) (hx : W P N bs w0 x s (thenQ J Q)) : W P N bs w0 (.seq x y) s Q := by
  refine W_seq fun a w hR => Go.wp_mono (hx a w hR) fun e a' w' ⟨s', hq, hr⟩ => ⟨s', ?_, hr⟩
  cases e with
  | normal => exact hJ s' hq
  | _ => exact hq
theorem WL_all {c : Code} (L : Nat → S → Prop) (hs : ∀ n s', L n s' → ∃ m, n = m + 1 ∧ W P N bs w0 c s' (thenQ (L m) Q)) : ∀ n s', L n s' → WL P N bs w0 n c s' Q := by
  intro n
  induction n with
  | zero => intro s' h; obtain ⟨m, hm, _⟩ := hs 0 s' h; cases hm
  | succ n ih =>
    intro s' h
    obtain ⟨m, hm, hw⟩ := hs (n + 1) s' h
    injection hm with hm; subst hm
    refine WL_succ fun a w hR => Go.wp_mono (hw a w hR) fun e a' w' ⟨s2, hq, hr⟩ => ⟨s2, ?_, hr⟩
    cases e with
    | normal => exact ih s2 hq
    | _ => exact hq
/-- a loop: L n: n rounds at most are still to come -/
theorem W_lp {c : Code} (L : Nat → S → Prop) (n : Nat) (h0 : L n s) (hs : ∀ n s', L n s' → ∃ m, n = m + 1 ∧ W P N bs w0 c s' (thenQ (L m) Q)) : W P N bs w0 (.loop c) s Q :=
  W_loop n (WL_all L hs n s h0)

/-! ### from code to contracts -/
def gd (p : Prop) [Decidable p] {α : Type} (x : Option α) : Option α := if p then x else none
theorem gd_some {p : Prop} [Decidable p] {α : Type} {x : Option α} {r : α} (h : gd p x = some r) : p ∧ x = some r := by
  unfold gd at h; split at h
  · exact ⟨by assumption, h⟩
  · cases h
theorem gd_pos {p : Prop} [Decidable p] {α : Type} {x : Option α} (h : p) : gd p x = x := if_pos h
theorem bif_t {b : Bool} {α : Type} {x y : Option α} {r : α} (h : (bif b then x else y) = some r) (hb : b = true) : x = some r := by subst hb; exact h
theorem bif_f {b : Bool} {α : Type} {x y : Option α} {r : α} (h : (bif b then x else y) = some r) (hb : b = false) : y = some r := by subst hb; exact h

/-- what the function's frame holds at its beginning -/
def args0 : Nat → List AV → Fr
  | _, [] => []
  | k, x :: xs => (k, x) :: args0 (k + 1) xs
/-- the objects that arguments are, one by one: as the callee sees them -/
theorem rel0 {gv : Nat → Value} {args : List AV} {H : Hp} {gl : Fr} {vals : List Value} {n : Nat} (hp : HpR ρ w H) (hro : ∀ (i : Nat) (o : Oj), H[i]? = some o → ∃ b, o.kd = .ro b ∧ b = false) (hv : F2 (avR ρ) args vals) (hgl : GlR (noB gv) ρ gl) (hn : vals.length ≤ n) :
    Rel n (noB gv) w ⟨args0 0 args, gl, H⟩ { tmps := vals.toArray ++ Array.replicate (n - vals.toArray.size) undef, defers := [] } w := by
  refine ⟨rfl, by simp; omega, ρ, ?_, hgl, hp, fun i j x y g _ hx _ hox _ => ?_, fun i x g hx hox _ => ?_, Kp.refl _ _⟩
  · have key : ∀ (k : Nat) (xs : List AV) (t : Nat) (x : AV), (args0 k xs).lookup t = some x → k ≤ t ∧ xs[t - k]? = some x := by
      intro k xs
      induction xs generalizing k with
      | nil => intro t x h; simp [args0] at h
      | cons y ys ih =>
        intro t x h
        simp only [args0, List.lookup_cons] at h
        split at h
        · rename_i e
          have : t = k := by simpa using e
          subst this
          injection h with h; subst h
          exact ⟨Nat.le_refl _, by simp⟩
        · obtain ⟨h1, h2⟩ := ih (k + 1) t x h
          refine ⟨by omega, ?_⟩
          rw [show t - k = (t - (k + 1)) + 1 by omega]
          simpa using h2
    intro t x hx
    obtain ⟨_, h1⟩ := key 0 args t x hx
    obtain ⟨v, hv1, hv2⟩ := hv.at (show args[t]? = some x by simpa using h1)
    have hlt := (List.getElem?_eq_some_iff.1 hv1).1
    have : (vals.toArray ++ Array.replicate (n - vals.toArray.size) undef).getD t undef = v := by
      rw [Array.getD_eq_getD_getElem?, Array.getElem?_append_left (by simpa using hlt)]
      simp [hv1]
    rw [this]; exact hv2
  · obtain ⟨b, hb, _⟩ := hro i x hx
    unfold Oj.own at hox; rw [hb] at hox; cases hox
  · obtain ⟨b, hb, hb2⟩ := hro i x hx
    subst hb2
    unfold Oj.fsh at hox; rw [hb] at hox; cases hox
theorem calls_W {gv : Nat → Value} {f : FuncId} {fn : Func} {c : Code} {vals : List Value} {s0 : S} {n : Nat} (hf : P.funcs[f]? = some fn) (hb : fn.body = some c) (hn : fn.ntmps = n)
    (h0 : Rel n (noB gv) w s0 { tmps := vals.toArray ++ Array.replicate (n - vals.toArray.size) undef, defers := [] } w) {Q : Exit → S → Prop} (hW : W P n (noB gv) w c s0 Q) {R : Value → World → Prop}
    (hQ : ∀ e s', Q e s' → (e = .ret ∨ e = .normal) ∧ ∀ a' w', Rel n (noB gv) w s' a' w' → ∃ v, (results fn a'.tmps).run P w' = .ok v w' ∧ R v w') : Calls P f vals.toArray w (Ret R) := by
  refine calls_of_wp hf hb ?_
  rw [hn]
  refine Go.wp_mono (hW _ _ h0) fun e a' w' ⟨s', hq, hr⟩ => ?_
  obtain ⟨he, hv⟩ := hQ e s' hq
  obtain ⟨v, h1, h2⟩ := hv a' w' hr
  rcases he with rfl | rfl
  · exact ⟨hr.dfr, v, h1, v, rfl, h2⟩
  · exact ⟨hr.dfr, v, h1, v, rfl, h2⟩

/-- a function's contract, as calls ask for it -/
structure FnOk (P : Program) (I : World → Prop) (f : FuncId) (F : Ct) : Prop where
  ct : CtOk P I f F
  fn : ∃ fn, P.funcs[f]? = some fn ∧ (fn.name == "runtime.NumGoroutine") = false ∧ fn.body.isNone = false
def ftL : List (Nat × FuncId × Ct) → Nat → FT
  | [], _, _ => none
  | (k, f, F) :: l, i, g => match Nat.beq k i, Nat.beq f g with | true, true => some F | _, _ => ftL l i g
/-- what is known of any world -/
def Tr : World → Prop := fun _ => True
theorem Tr.keep {w w' : World} (_ : Ext w w') (_ : Tr w) : Tr w' := True.intro
theorem ftL_nil {J : World → Prop} : ∀ i, FtOk P J (ftL [] i) := fun i f F h => by cases h
theorem ftL_cons {I J : World → Prop} {k : Nat} {f : FuncId} {F : Ct} {l : List (Nat × FuncId × Ct)} (h : FnOk P I f F) (hI : ∀ w, J w → I w) (hl : ∀ i, FtOk P J (ftL l i)) : ∀ i, FtOk P J (ftL ((k, f, F) :: l) i) := by
  intro i g G hG
  simp only [ftL] at hG
  split at hG
  · rename_i hk hf
    have := Nat.eq_of_beq_eq_true hf
    subst this
    injection hG with hG; subst hG
    exact ⟨fun args H g av objs h1 h2 ρ w vals h3 => h.ct args H g av objs h1 h2 ρ w vals (hI w h3), h.fn⟩
  · exact hl i g G hG
theorem bind_some' {α β : Type} {x : Option α} {k : α → Option β} {r : β} (h : x.bind k = some r) : ∃ y, x = some y ∧ k y = some r := by
  cases x with
  | none => cases h
  | some y => exact ⟨y, rfl, h⟩

/-- bytes that came in, as the callee sees them -/
theorem arg_sl {v : Value} {l : List Value} {e : TypeId} {cs : Cs} (h : Sl w w.heap.size v l) (hc : ∀ ρ, csR ρ cs l) : ∃ p : Pl, v = .slice p.A p.n p.cap ∧ ∀ ρ, objR ρ w p ⟨.ro false, e, 1, l.length, cs⟩ := by
  obtain ⟨_, A, c, rfl, h1, h2, h3, h4⟩ := h
  refine ⟨⟨A, l.length, c, 1⟩, rfl, fun ρ => ⟨⟨rfl, rfl, by rw [← (hc ρ).len]; simp⟩, ⟨h1, h2, h3⟩, l, hc ρ, fun ad had j u hu => (h4 ad had j u hu).2⟩⟩
end
end Go.Sx
