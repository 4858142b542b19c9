import Derived.Test.YtpinmaodpfoinaaSxO
set_option linter.unusedVariables false
set_option linter.unusedSimpArgs false
namespace Go.Sx
open Go.RowKit Go.Ch
section
variable {P : Program} {T : Tab} {ρ ρ' : Pls} {w w' : World} {bs : Bs} {w0 : World} {s s' : S} {a : Act} {N : Nat}

/-! ### what a function hands back -/
def shC (m : Nat) : Cl → Cl
  | .wh i => .wh (m + i)
  | .sl i lo n => .sl (m + i) lo n
  | .pt i off => .pt (m + i) off
  | c => c
def shL (m : Nat) : List Cl → List Cl
  | [] => []
  | c :: l => shC m c :: shL m l
def shX (m : Nat) : Cs → Cs
  | .c l => .c (shL m l)
  | cs => cs
def sh1 (m : Nat) : A1 → A1
  | .c x => .c (shC m x)
  | .g n cs => .g n (shX m cs)
def sh1s (m : Nat) : List A1 → List A1
  | [] => []
  | c :: l => sh1 m c :: sh1s m l
def shA (m : Nat) : AV → AV
  | .c x => .c (shC m x)
  | .g n cs => .g n (shX m cs)
  | .t xs => .t (sh1s m xs)
def shH (m : Nat) : Hp → Hp
  | [] => []
  | o :: l => ⟨o.kd, o.e, o.sz, o.n, shX m o.cs⟩ :: shH m l
theorem shC_ok {m k : Nat} (hρ : ∀ i, i < k → ρ' (m + i) = ρ i) {c : Cl} (h : ltC k c = true) {v : Value} (hv : clR ρ c v) : clR ρ' (shC m c) v := by
  cases c with
  | wh i => simp only [ltC, decide_eq_true_eq] at h; simp only [shC, clR, hρ i h] at hv ⊢; exact hv
  | sl i lo n => simp only [ltC, decide_eq_true_eq] at h; simp only [shC, clR, hρ i h] at hv ⊢; exact hv
  | pt i off => simp only [ltC, decide_eq_true_eq] at h; simp only [shC, clR, hρ i h] at hv ⊢; exact hv
  | s x => exact hv
  | nils => exact hv
  | junk => exact hv
theorem shL_ok {m k : Nat} (hρ : ∀ i, i < k → ρ' (m + i) = ρ i) : ∀ {l : List Cl}, ltL k l = true → ∀ {vs : List Value}, F2 (clR ρ) l vs → F2 (clR ρ') (shL m l) vs
  | [], _, vs, hv => by have := hv.1; simp at this; rw [List.eq_nil_of_length_eq_zero this.symm]; exact F2.nil
  | c :: l, h, vs, hv => by
    simp only [ltL, Bool.and_eq_true] at h
    cases vs with
    | nil => exact absurd hv.1 (by simp)
    | cons v vs =>
      have h3 := hv.2 0 c v rfl rfl
      have h4 : F2 (clR ρ) l vs := ⟨by have := hv.1; simpa using this, fun j a b ha hb => hv.2 (j + 1) a b (by simpa using ha) (by simpa using hb)⟩
      exact F2.cons (shC_ok hρ h.1 h3) (shL_ok hρ h.2 h4)
theorem shX_ok {m k : Nat} (hρ : ∀ i, i < k → ρ' (m + i) = ρ i) {cs : Cs} (h : ltX k cs = true) {vs : List Value} (hv : csR ρ cs vs) : csR ρ' (shX m cs) vs := by
  cases cs with
  | c l => exact shL_ok hρ h hv
  | b l => exact csR_b.2 (csR_b.1 hv)
  | w l => exact csR_w.2 (csR_w.1 hv)
  | q l => exact csR_q.2 (csR_q.1 hv)
  | z l => exact csR_z.2 (csR_z.1 hv)
theorem sh1_ok {m k : Nat} (hρ : ∀ i, i < k → ρ' (m + i) = ρ i) {x : A1} (h : lt1 k x = true) {v : Value} (hv : a1R ρ x v) : a1R ρ' (sh1 m x) v := by
  cases x with
  | c x => exact shC_ok hρ h hv
  | g n cs => obtain ⟨vs, hc, hn, he⟩ := hv; exact ⟨vs, shX_ok hρ h hc, hn, he⟩
theorem sh1s_ok {m k : Nat} (hρ : ∀ i, i < k → ρ' (m + i) = ρ i) : ∀ {l : List A1}, lt1s k l = true → ∀ {vs : List Value}, F2 (a1R ρ) l vs → F2 (a1R ρ') (sh1s m l) vs
  | [], _, vs, hv => by have := hv.1; simp at this; rw [List.eq_nil_of_length_eq_zero this.symm]; exact F2.nil
  | c :: l, h, vs, hv => by
    simp only [lt1s, Bool.and_eq_true] at h
    cases vs with
    | nil => exact absurd hv.1 (by simp)
    | cons v vs =>
      have h3 := hv.2 0 c v rfl rfl
      have h4 : F2 (a1R ρ) l vs := ⟨by have := hv.1; simpa using this, fun j a b ha hb => hv.2 (j + 1) a b (by simpa using ha) (by simpa using hb)⟩
      exact F2.cons (sh1_ok hρ h.1 h3) (sh1s_ok hρ h.2 h4)
theorem shA_ok {m k : Nat} (hρ : ∀ i, i < k → ρ' (m + i) = ρ i) {x : AV} (h : ltA k x = true) {v : Value} (hv : avR ρ x v) : avR ρ' (shA m x) v := by
  cases x with
  | c x => exact shC_ok hρ h hv
  | g n cs => obtain ⟨vs, hc, hn, he⟩ := hv; exact ⟨vs, shX_ok hρ h hc, hn, he⟩
  | t xs => obtain ⟨vs, hc, he⟩ := hv; exact ⟨vs, sh1s_ok hρ h hc, he⟩
theorem shX_len (m : Nat) (cs : Cs) : (shX m cs).cl.length = cs.cl.length := by
  cases cs with
  | c l =>
    show (shL m l).length = l.length
    induction l with
    | nil => rfl
    | cons c l ih => simp [shL, ih]
  | _ => rfl
theorem shH_at : ∀ {m : Nat} {H : Hp} {k : Nat} {o : Oj}, (shH m H)[k]? = some o → ∃ o', H[k]? = some o' ∧ o = ⟨o'.kd, o'.e, o'.sz, o'.n, shX m o'.cs⟩
  | m, [], k, o, h => by simp [shH] at h
  | m, x :: H, k, o, h => by
    cases k with
    | zero => simp [shH] at h; exact ⟨x, rfl, h.symm⟩
    | succ k => simpa [shH] using shH_at (m := m) (H := H) (k := k) (by simpa [shH] using h)
theorem shH_len (m : Nat) : ∀ (H : Hp), (shH m H).length = H.length
  | [] => rfl
  | x :: H => by simp [shH, shH_len m H]
theorem left_of {gv : Nat → Value} {fr gl : Fr} {objs H : Hp} {a' : Act} {ρ0 : Pls} (hr : RelA ρ (noB gv) w ⟨fr, gl, objs⟩ a' w') {av : AV} {v : Value} (hv : avR ρ av v) (h1 : ltA objs.length av = true) (h2 : ltH objs.length objs = true) :
    ∃ ps, Left ρ0 w H (shA H.length av) (shH H.length objs) v w' ps := by
  have hat : ∀ (k : Nat), k < objs.length → ((List.range objs.length).map ρ)[k]? = some (ρ k) := fun k hk => by simp [hk]
  have hρ : ∀ i, i < objs.length → updL ρ0 H.length ((List.range objs.length).map ρ) (H.length + i) = ρ i := fun i hi => updL_at (hat i hi)
  have hps : ∀ (k : Nat) (p : Pl), ((List.range objs.length).map ρ)[k]? = some p → p = ρ k := fun k p hp => by
    have hk := (List.getElem?_eq_some_iff.1 hp).1
    rw [hat k (by simpa using hk)] at hp
    injection hp with hp; exact hp.symm
  refine ⟨(List.range objs.length).map ρ, by simp [shH_len], fun k o p ho hp => ?_, shA_ok hρ h1 hv, fun k o p g ho hp hat => ?_, fun k l o o' p p' g hkl ho ho' hp hp' hown hat hat2 => ?_⟩
  · obtain ⟨x, hx, rfl⟩ := shH_at ho
    obtain rfl := hps k p hp
    have hro := hr.hp k x hx
    have hl := shX_len H.length x.cs
    unfold objR at hro ⊢
    cases hk : x.kd with
    | dead => exact True.intro
    | ro fs => simp only [hk] at hro ⊢; obtain ⟨⟨e1, e2, e3⟩, g1, vs, hc, hA⟩ := hro; exact ⟨⟨e1, e2, by rw [hl]; exact e3⟩, g1, vs, shX_ok hρ (ltH_ok h2 k x hx (by rw [hk]; simp)) hc, hA⟩
    | row => simp only [hk] at hro ⊢; obtain ⟨⟨e1, e2, e3⟩, vs, hc, hA⟩ := hro; exact ⟨⟨e1, e2, by rw [hl]; exact e3⟩, vs, shX_ok hρ (ltH_ok h2 k x hx (by rw [hk]; simp)) hc, hA⟩
    | blk => simp only [hk] at hro ⊢; obtain ⟨⟨e1, e2, e3⟩, b, vs, hA, hc, hB⟩ := hro; exact ⟨⟨e1, e2, by rw [hl]; exact e3⟩, b, vs, hA, shX_ok hρ (ltH_ok h2 k x hx (by rw [hk]; simp)) hc, hB⟩
  · obtain ⟨x, hx, rfl⟩ := shH_at ho
    obtain rfl := hps k p hp
    by_cases hf : x.fsh = true
    · rcases hr.own k x g hx hf hat with h3 | h3
      · exact .inl h3
      · exact h3.elim
    · right
      unfold Oj.fsh at hf
      unfold objAt at hat
      cases hk : x.kd with
      | dead => simp only [hk] at hat
      | ro fs => cases fs with
        | false => rfl
        | true => rw [hk] at hf; exact absurd rfl hf
      | row => rw [hk] at hf; exact absurd rfl hf
      | blk => rw [hk] at hf; exact absurd rfl hf
  · obtain ⟨x, hx, rfl⟩ := shH_at ho
    obtain ⟨y, hy, rfl⟩ := shH_at ho'
    obtain rfl := hps k p hp
    obtain rfl := hps l p' hp'
    exact hr.sep k l x y g hkl hx hy hown hat hat2

/-! ### what a function is handed -/
def aB (H : Hp) : AV → Option (List UInt8) | .c x => viewB H x | _ => none
def aI : AV → Option Int | .c (.s (.k .i64 n)) => some n | _ => none
def aU8 : AV → Option UInt8 | .c (.s (.u8 n)) => some n | _ => none
def aU32 : AV → Option UInt32 | .c (.s (.u32 n)) => some n | _ => none
def aU64 : AV → Option UInt64 | .c (.s (.u64 n)) => some n | _ => none
def aBo : AV → Option Bool | .c (.s (.b n)) => some n | _ => none
def aS : AV → Option (List UInt8) | .c (.s (.str n)) => some n | _ => none
def viewW (H : Hp) (x : Cl) : Option (List UInt32) := match vcs H x with | some (1, _, .w l) => some l | _ => (match x with | .nils => some [] | _ => none)
def viewZ (H : Hp) (x : Cl) : Option (List Int) := match vcs H x with | some (1, _, .z l) => some l | _ => (match x with | .nils => some [] | _ => none)
def viewQ (H : Hp) (x : Cl) : Option (List UInt64) := match vcs H x with | some (1, _, .q l) => some l | _ => (match x with | .nils => some [] | _ => none)
def aW (H : Hp) : AV → Option (List UInt32) | .c x => viewW H x | _ => none
def aZ (H : Hp) : AV → Option (List Int) | .c x => viewZ H x | _ => none
def aQ (H : Hp) : AV → Option (List UInt64) | .c x => viewQ H x | _ => none
theorem aI_ok {x : AV} {n : Int} (h : aI x = some n) {v : Value} (hv : avR ρ x v) : v = .int .i64 n := by
  unfold aI at h; split at h
  · injection h with h; subst h; exact hv
  · cases h
theorem aU8_ok {x : AV} {n : UInt8} (h : aU8 x = some n) {v : Value} (hv : avR ρ x v) : v = bU n := by
  unfold aU8 at h; split at h
  · injection h with h; subst h; exact hv
  · cases h
theorem aU32_ok {x : AV} {n : UInt32} (h : aU32 x = some n) {v : Value} (hv : avR ρ x v) : v = w32 n := by
  unfold aU32 at h; split at h
  · injection h with h; subst h; exact hv
  · cases h
theorem aU64_ok {x : AV} {n : UInt64} (h : aU64 x = some n) {v : Value} (hv : avR ρ x v) : v = w64 n := by
  unfold aU64 at h; split at h
  · injection h with h; subst h; exact hv
  · cases h
theorem aBo_ok {x : AV} {n : Bool} (h : aBo x = some n) {v : Value} (hv : avR ρ x v) : v = .bool n := by
  unfold aBo at h; split at h
  · injection h with h; subst h; exact hv
  · cases h
theorem aS_ok {x : AV} {n : List UInt8} (h : aS x = some n) {v : Value} (hv : avR ρ x v) : v = .string ⟨n.toArray⟩ := by
  unfold aS at h; split at h
  · injection h with h; subst h; exact hv
  · cases h
/-- a slice that came in, as the callee sees it -/
def InSl (w : World) (e : TypeId) (n : Nat) (cs : Cs) (v : Value) (p : Pl) : Prop := v = .slice p.A p.n p.cap ∧ ∀ ρ, objR ρ w p ⟨.ro false, e, 1, n, cs⟩
theorem in_sl {v : Value} {n : Nat} {vs : List Value} (h : SlR w v n 1 vs) {cs : Cs} (hc : ∀ ρ, csR ρ cs vs) (e : TypeId) : ∃ p, InSl w e n cs v p := by
  obtain ⟨hl, A, c, rfl, h1, h2, h3, h4⟩ := h
  exact ⟨⟨A, n, c, 1⟩, rfl, fun ρ => ⟨⟨rfl, rfl, by rw [← (hc ρ).len]; exact hl⟩, ⟨h1, h2, h3⟩, vs, hc ρ, h4⟩⟩
theorem sl_slr {B : Nat} {v : Value} {vs : List Value} (h : Sl w B v vs) : SlR w v vs.length 1 vs := by
  obtain ⟨_, A, c, rfl, h1, h2, h3, h4⟩ := h
  exact ⟨by simp, A, c, rfl, h1, h2, h3, fun ad had j u hu => (h4 ad had j u hu).2⟩
theorem aB_ok {H : Hp} (hp : HpR ρ w H) {x : AV} {l : List UInt8} (h : aB H x = some l) {v : Value} (hv : avR ρ x v) (e : TypeId) : ∃ p, InSl w e l.length (.b l) v p := by
  cases x with
  | c c =>
    have h1 := viewB_ok hp h hv
    have := sl_slr h1
    rw [List.length_map] at this
    exact in_sl this (fun ρ => csR_b.2 rfl) e
  | _ => cases h
theorem nil_slr : SlR w (.slice none 0 0) 0 1 [] := ⟨rfl, none, 0, rfl, Nat.le_refl _, by simp [maxLen], fun _ => rfl, fun _ h => by cases h⟩
theorem aW_ok {H : Hp} (hp : HpR ρ w H) {x : AV} {l : List UInt32} (h : aW H x = some l) {v : Value} (hv : avR ρ x v) (e : TypeId) : ∃ p, InSl w e l.length (.w l) v p := by
  cases x with
  | c c =>
    simp only [aW, viewW] at h
    split at h
    · rename_i n l' hvc
      injection h with h; subst h
      obtain ⟨vs, hc, hS⟩ := vcs_ok hp hvc hv
      have hvs := csR_w.1 hc
      subst hvs
      have hn : n = l'.length := by have := hS.len; simpa using this.symm
      subst hn
      exact in_sl hS (fun ρ => csR_w.2 rfl) e
    · split at h
      · injection h with h; subst h
        rw [show v = .slice none 0 0 from hv]
        exact in_sl nil_slr (fun ρ => csR_w.2 rfl) e
      · cases h
  | _ => cases h
theorem aZ_ok {H : Hp} (hp : HpR ρ w H) {x : AV} {l : List Int} (h : aZ H x = some l) {v : Value} (hv : avR ρ x v) (e : TypeId) : ∃ p, InSl w e l.length (.z l) v p := by
  cases x with
  | c c =>
    simp only [aZ, viewZ] at h
    split at h
    · rename_i n l' hvc
      injection h with h; subst h
      obtain ⟨vs, hc, hS⟩ := vcs_ok hp hvc hv
      have hvs := csR_z.1 hc
      subst hvs
      have hn : n = l'.length := by have := hS.len; simpa using this.symm
      subst hn
      exact in_sl hS (fun ρ => csR_z.2 rfl) e
    · split at h
      · injection h with h; subst h
        rw [show v = .slice none 0 0 from hv]
        exact in_sl nil_slr (fun ρ => csR_z.2 rfl) e
      · cases h
  | _ => cases h
def plL (ps : List Pl) : Pls := fun i => match ps[i]? with | some p => p | none => ⟨none, 0, 0, 1⟩
theorem hpL {os : Hp} {ps : List Pl} (h : F2 (fun o p => ∀ ρ, objR ρ w p o) os ps) : HpR (plL ps) w os := by
  intro i o ho
  obtain ⟨p, hp, hr⟩ := h.at ho
  unfold plL; rw [hp]; exact hr _
def allRo : Hp → Bool
  | [] => true
  | o :: l => (match o.kd with | .ro false => true | _ => false) && allRo l
theorem allRo_ok : ∀ {H : Hp}, allRo H = true → ∀ (i : Nat) (o : Oj), H[i]? = some o → ∃ b, o.kd = .ro b ∧ b = false
  | [], _, i, o, h => by simp at h
  | x :: l, h, i, o, ho => by
    simp only [allRo, Bool.and_eq_true] at h
    cases i with
    | zero =>
      simp at ho; subst ho
      have := h.1
      cases hk : x.kd with
      | ro b => cases b with
        | false => exact ⟨false, rfl, rfl⟩
        | true => rw [hk] at this; cases this
      | _ => rw [hk] at this; cases this
    | succ i => exact allRo_ok h.2 i o (by simpa using ho)
theorem F2.inv {α β : Type} {R : α → β → Prop} {x : α} {xs : List α} {ys : List β} (h : F2 R (x :: xs) ys) : ∃ y ys', ys = y :: ys' ∧ R x y ∧ F2 R xs ys' := by
  cases ys with
  | nil => exact absurd h.1 (by simp)
  | cons y ys => exact ⟨y, ys, rfl, h.2 0 x y rfl rfl, by have := h.1; simpa using this, fun j a b ha hb => h.2 (j + 1) a b (by simpa using ha) (by simpa using hb)⟩
theorem F2.inv0 {α β : Type} {R : α → β → Prop} {ys : List β} (h : F2 R ([] : List α) ys) : ys = [] := by
  have := h.1; simp at this; exact List.eq_nil_of_length_eq_zero this.symm
theorem GlR.nil : GlR bs ρ [] := fun t x h => by simp at h
theorem Rel.at {fr gl : Fr} {H : Hp} (h : Rel N bs w0 ⟨fr, gl, H⟩ a w) : ∃ ρ, RelA ρ bs w0 ⟨fr, gl, H⟩ a w := h.ex
theorem tab_of' : ∀ {L : List (TypeId × Ti)}, (L.map fun p => tiOf P p.1) = (L.map fun p => some p.2) → ∀ t ti, L.lookup t = some ti → tiOf P t = some ti
  | [], _, t, ti, ht => by simp at ht
  | (t0, ti0) :: L, h, t, ti, ht => by
    simp only [List.map_cons, List.cons.injEq] at h
    rw [List.lookup_cons] at ht
    split at ht
    · rename_i e
      have : t = t0 := by simpa using e
      subst this
      injection ht with ht; subst ht; exact h.1
    · exact tab_of' h.2 t ti ht
theorem tab_of {L : List (TypeId × Ti)} (h : (L.map fun p => tiOf P p.1) = L.map fun p => some p.2) : TabOk P (fun t => L.lookup t) := fun t ti ht => tab_of' h t ti ht
theorem allP_nil : allP [] := True.intro
end
end Go.Sx
