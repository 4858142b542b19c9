import Derived.Test.YtpinmaodpfoinaaSxL
set_option linter.unusedVariables false
set_option linter.unusedSimpArgs false
namespace Go.Sx
open Go.RowKit Go.Ch
section
variable {P : Program} {T : Tab} {ft : Nat → FT} {ρ : Pls} {w w' : World} {bs : Bs} {w0 : World} {s s' : S} {a : Act} {N : Nat}

/-! ### a region in the text's order -/
def stA1 (T : Tab) (ft : Nat → FT) (N : Nat) (asm : List (Nat × Bool)) (i : Nat) (o : Oper) (s : S) : Option (List Prop × S) := match stp T (ft i) N s o with
  | none => none
  | some (g, s1) => match asm.lookup i with
    | none => some (g, s1)
    | some bv => match o.dst with
      | none => none
      | some d => match s1.fr.lookup d with
        | some (.c (.s (.b e))) => some (g ++ [e = bv], ⟨putF s1.fr (some d) (.c (.s (.b bv))), s1.gl, s1.H⟩)
        | _ => none
def skp (N : Nat) (o : Oper) (s : S) : Option (List Prop × S) := match dOk N o.dst with
  | true => some ([], ⟨putF s.fr o.dst (.t []), s.gl, s.H⟩)
  | false => none
def stG (T : Tab) (ft : Nat → FT) (N : Nat) (ops : Array Oper) (asm : List (Nat × Bool)) (i : Nat) (o : Oper) (s : S) : Option (List Prop × S) := match o.guard with
  | none => stA1 T ft N asm i o s
  | some (j, want) => match (ops[j]?).bind (·.dst) with
    | none => none
    | some dj => match s.fr.lookup dj with
      | some (.c (.s (.b b))) => (match decide (dj < N), b, want with
        | true, true, true => stA1 T ft N asm i o s
        | true, false, false => stA1 T ft N asm i o s
        | true, true, false => skp N o s
        | true, false, true => skp N o s
        | _, _, _ => none)
      | some (.t []) => skp N o s
      | _ => none
def exR (T : Tab) (ft : Nat → FT) (N : Nat) (ops : Array Oper) (asm : List (Nat × Bool)) : Nat → List Oper → S → Option (List Prop × S)
  | _, [], s => some ([], s)
  | i, o :: rest, s => match stG T ft N ops asm i o s with
    | none => none
    | some (g, s1) => match exR T ft N ops asm (i + 1) rest s1 with
      | none => none
      | some (g2, s2) => some (g ++ g2, s2)

theorem FrR.same {fr : Fr} {t : Nat} {x : AV} (h : FrR ρ fr a) (hx : avR ρ x (a.tmps.getD t undef)) : FrR ρ (putF fr (some t) x) a := by
  intro k y hy
  simp only [putF, List.lookup_cons] at hy
  split at hy
  · rename_i he
    have : k = t := by simpa using he
    subst this
    injection hy with hy; subst hy; exact hx
  · rename_i he
    refine h k y ?_
    clear h hx
    induction fr with
    | nil => simp at hy
    | cons q fr ih =>
      obtain ⟨k', z⟩ := q
      rw [List.filter_cons] at hy
      split at hy
      · rw [List.lookup_cons] at hy ⊢
        split
        · rename_i e; rw [e] at hy; exact hy
        · rename_i e; rw [e] at hy; exact ih hy
      · rename_i hne
        have : k' = t := by simpa using hne
        subst this
        rw [List.lookup_cons]
        split
        · rename_i e; rw [e] at he; cases he
        · exact ih hy
theorem stA1_ok (hT : TabOk P T) (hF : ∀ i, FtOk P (Kp bs w0) (ft i)) {asm : List (Nat × Bool)} {i : Nat} {o : Oper} {g : List Prop} (h : stA1 T ft N asm i o s = some (g, s')) (hg : allP g) (hR : Rel N bs w0 s a w) :
    o.wp P a w (fun a' w' => Rel N bs w0 s' a' w') (fun _ _ _ => False) := by
  unfold stA1 at h
  split at h
  · cases h
  · rename_i g1 s1 h1
    split at h
    · injection h with h; simp only [Prod.mk.injEq] at h; obtain ⟨rfl, rfl⟩ := h
      exact stp_ok hT (hF i) h1 hg hR
    · rename_i bv _
      split at h
      · cases h
      · rename_i d hd
        split at h
        · rename_i e he
          injection h with h; simp only [Prod.mk.injEq] at h; obtain ⟨rfl, rfl⟩ := h
          obtain ⟨ga, gb⟩ := allP_append.1 hg
          simp only [allP] at gb
          subst gb
          refine Oper.wp_mono (fun a' w' hr => ?_) (stp_ok hT (hF i) h1 ga hR)
          obtain ⟨r1, r2, ρ', r3⟩ := hr
          exact ⟨r1, r2, ρ', r3.fr.same (r3.fr d _ he), r3.gl, r3.hp, r3.sep, r3.own, r3.kp⟩
        · cases h
theorem Oper.wp_false {o : Oper} {K : Act → World → Prop} {Q : Exit → Act → World → Prop} (h : o.wp P a w K (fun _ _ _ => False)) : o.wp P a w K Q :=
  wp_mono2 (fun _ _ h => h) h
theorem wanted_b {o : Oper} {ops : Array Oper} {j dj : Nat} {want b : Bool} (hg : o.guard = some (j, want)) (hd : (ops[j]?).bind (·.dst) = some dj) (hb : a.tmps.getD dj undef = .bool b) : Region.wanted o (yielded ops a.tmps) = (b == want) := by
  have h2 : a.tmps[dj]? = some (.bool b) := by
    rw [Array.getD_eq_getD_getElem?] at hb
    cases h : a.tmps[dj]? with
    | none => rw [h] at hb; cases hb
    | some u => rw [h] at hb; exact congrArg some hb
  unfold Region.wanted
  rw [hg]
  simp only [yielded, hd, Option.bind_some, h2]
  cases b <;> cases want <;> rfl
theorem undef_of {ρ : Pls} {v : Value} (h : avR ρ (.t []) v) : v = undef := by
  obtain ⟨vs, hc, rfl⟩ := h
  have := hc.1
  simp at this
  rw [List.eq_nil_of_length_eq_zero this.symm]; rfl
theorem wanted_u {o : Oper} {ops : Array Oper} {j dj : Nat} {want : Bool} (hg : o.guard = some (j, want)) (hd : (ops[j]?).bind (·.dst) = some dj) (hb : a.tmps.getD dj undef = undef) : Region.wanted o (yielded ops a.tmps) = false := by
  unfold Region.wanted
  rw [hg]
  rw [Array.getD_eq_getD_getElem?] at hb
  cases h : a.tmps[dj]? with
  | none => simp only [yielded, hd, Option.bind_some, h]; cases want <;> rfl
  | some u =>
    rw [h] at hb
    have hu : u = undef := hb
    subst hu
    simp only [yielded, hd, Option.bind_some, h]; cases want <;> rfl
theorem stG_ok (hT : TabOk P T) (hF : ∀ i, FtOk P (Kp bs w0) (ft i)) {ops : Array Oper} {asm : List (Nat × Bool)} {i : Nat} {o : Oper} {g : List Prop} (h : stG T ft N ops asm i o s = some (g, s')) (hg : allP g) (hR : Rel N bs w0 s a w)
    {Q : Exit → Act → World → Prop} {K : Act → World → Prop} (hK : ∀ a' w', Rel N bs w0 s' a' w' → K a' w') : 
    if Region.wanted o (yielded ops a.tmps) = true then o.wp P a w K Q ∨ (o.asks P a w ∧ LetsOut Q) else K (a.put o.dst undef) w := by
  have go : stA1 T ft N asm i o s = some (g, s') → o.wp P a w K Q := fun h1 => Oper.wp_false (Oper.wp_mono (fun a' w' hr => hK a' w' hr) (stA1_ok hT hF h1 hg hR))
  unfold stG at h
  split at h
  · rename_i hgd
    have : Region.wanted o (yielded ops a.tmps) = true := by unfold Region.wanted; rw [hgd]
    rw [if_pos this]
    exact .inl (go h)
  · rename_i j want hgd
    split at h
    · cases h
    · rename_i dj hdj
      split at h
      · rename_i b hb
        obtain ⟨r1, r2, ρ', r3⟩ := hR
        have hv : a.tmps.getD dj undef = .bool b := r3.fr dj _ hb
        have hw := wanted_b hgd hdj hv
        have skip : skp N o s = some (g, s') → K (a.put o.dst undef) w := fun e => by
          unfold skp at e
          split at e
          · rename_i hdk
            injection e with e; simp only [Prod.mk.injEq] at e; obtain ⟨rfl, rfl⟩ := e
            exact hK _ _ ⟨by rw [put_defers]; exact r1, by rw [put_size]; exact r2, ρ', r3.put ⟨[], F2.nil, rfl⟩ (dOk_ok hdk r2)⟩
          · cases e
        split at h
        · rw [hw]; exact .inl (go h)
        · rw [hw]; exact .inl (go h)
        · rw [hw]; exact skip h
        · rw [hw]; exact skip h
        · cases h
      · rename_i hb
        obtain ⟨r1, r2, ρ', r3⟩ := hR
        have hv : avR ρ' (.t []) (a.tmps.getD dj undef) := r3.fr dj _ hb
        rw [wanted_u hgd hdj (undef_of hv)]
        unfold skp at h
        split at h
        · rename_i hdk
          injection h with h; simp only [Prod.mk.injEq] at h; obtain ⟨rfl, rfl⟩ := h
          exact hK _ _ ⟨by rw [put_defers]; exact r1, by rw [put_size]; exact r2, ρ', r3.put ⟨[], F2.nil, rfl⟩ (dOk_ok hdk r2)⟩
        · cases h
      · cases h
theorem exR_ok (hT : TabOk P T) (hF : ∀ i, FtOk P (Kp bs w0) (ft i)) {ops : Array Oper} {asm : List (Nat × Bool)} {Q : Exit → Act → World → Prop} (l : List Oper) : ∀ (i : Nat) (g : List Prop) (s : S) (a : Act) (w : World), exR T ft N ops asm i l s = some (g, s') → allP g → Rel N bs w0 s a w →
    (∀ a' w', Rel N bs w0 s' a' w' → Q .normal a' w') → wpList P ops Q l a w := by
  induction l with
  | nil =>
    intro i g s a w h hg hR hQ
    injection h with h; simp only [Prod.mk.injEq] at h; obtain ⟨rfl, rfl⟩ := h
    exact hQ a w hR
  | cons o rest ih =>
    intro i g s a w h hg hR hQ
    simp only [exR] at h
    split at h
    · cases h
    · rename_i g1 s1 h1
      split at h
      · cases h
      · rename_i g2 s2 h2
        injection h with h; simp only [Prod.mk.injEq] at h; obtain ⟨rfl, rfl⟩ := h
        obtain ⟨ga, gb⟩ := allP_append.1 hg
        exact stG_ok hT hF h1 ga hR (fun a' w' hr => ih (i + 1) g2 s1 a' w' h2 gb hr hQ)

/-! ### the same state in other words -/
inductive Co where
  | nil (t : Nat) (e : TypeId) (sz : Nat) (cs : Cs)
  | vw (t : Nat) (b : Bool)
  | er (t : Nat) (tid : TypeId) (kd : IntKind)
  | emp (t : Nat) (e : TypeId) (sz : Nat) (cs : Cs) (b : Bool)
  | ty (i : Nat)
  | sb (t : Nat)
  | ns (t i : Nat)
def bL : List Cl → Option (List UInt8)
  | [] => some []
  | .s (.u8 x) :: l => (match bL l with | some r => some (x :: r) | none => none)
  | _ => none
def wL : List Cl → Option (List UInt32)
  | [] => some []
  | .s (.u32 x) :: l => (match wL l with | some r => some (x :: r) | none => none)
  | _ => none
def qL : List Cl → Option (List UInt64)
  | [] => some []
  | .s (.u64 x) :: l => (match qL l with | some r => some (x :: r) | none => none)
  | _ => none
theorem F2.uncons {α β : Type} {R : α → β → Prop} {x : α} {xs : List α} {ys : List β} (h : F2 R (x :: xs) ys) : ∃ y ys', ys = y :: ys' ∧ R x y ∧ F2 R xs ys' := by
  cases ys with
  | nil => exact absurd h.1 (by simp)
  | cons y ys => exact ⟨y, ys, rfl, h.2 0 x y rfl rfl, by have := h.1; simpa using this, fun j a b ha hb => h.2 (j + 1) a b (by simpa using ha) (by simpa using hb)⟩
theorem F2.unnil {α β : Type} {R : α → β → Prop} {ys : List β} (h : F2 R ([] : List α) ys) : ys = [] := by
  have := h.1; simp at this; exact List.eq_nil_of_length_eq_zero this.symm
theorem bL_ok : ∀ {l : List Cl} {l' : List UInt8}, bL l = some l' → ∀ {vs : List Value}, F2 (clR ρ) l vs → vs = l'.map bU
  | [], l', h, vs, hv => by injection h with h; subst h; exact hv.unnil
  | c :: l, l', h, vs, hv => by
    unfold bL at h
    split at h
    · rename_i e; cases e
    · rename_i x l2 e
      injection e with e1 e2; subst e1; subst e2
      split at h
      · rename_i r hr; injection h with h; subst h
        obtain ⟨y, ys, rfl, h1, h2⟩ := hv.uncons
        rw [bL_ok hr h2, show y = bU x from h1]; rfl
      · cases h
    · cases h
theorem wL_ok : ∀ {l : List Cl} {l' : List UInt32}, wL l = some l' → ∀ {vs : List Value}, F2 (clR ρ) l vs → vs = l'.map w32
  | [], l', h, vs, hv => by injection h with h; subst h; exact hv.unnil
  | c :: l, l', h, vs, hv => by
    unfold wL at h
    split at h
    · rename_i e; cases e
    · rename_i x l2 e
      injection e with e1 e2; subst e1; subst e2
      split at h
      · rename_i r hr; injection h with h; subst h
        obtain ⟨y, ys, rfl, h1, h2⟩ := hv.uncons
        rw [wL_ok hr h2, show y = w32 x from h1]; rfl
      · cases h
    · cases h
theorem qL_ok : ∀ {l : List Cl} {l' : List UInt64}, qL l = some l' → ∀ {vs : List Value}, F2 (clR ρ) l vs → vs = l'.map w64
  | [], l', h, vs, hv => by injection h with h; subst h; exact hv.unnil
  | c :: l, l', h, vs, hv => by
    unfold qL at h
    split at h
    · rename_i e; cases e
    · rename_i x l2 e
      injection e with e1 e2; subst e1; subst e2
      split at h
      · rename_i r hr; injection h with h; subst h
        obtain ⟨y, ys, rfl, h1, h2⟩ := hv.uncons
        rw [qL_ok hr h2, show y = w64 x from h1]; rfl
      · cases h
    · cases h
def csB : Cs → Option (List UInt8) | .b l => some l | .c l => bL l | _ => none
def csW : Cs → Option (List UInt32) | .w l => some l | .c l => wL l | _ => none
def csQ : Cs → Option (List UInt64) | .q l => some l | .c l => qL l | _ => none
theorem csB_ok {cs : Cs} {l : List UInt8} (h : csB cs = some l) {vs : List Value} (hv : csR ρ cs vs) : vs = l.map bU := by
  cases cs with
  | c x => exact bL_ok h hv
  | b x => injection h with h; subst h; exact csR_b.1 hv
  | _ => cases h
theorem csW_ok {cs : Cs} {l : List UInt32} (h : csW cs = some l) {vs : List Value} (hv : csR ρ cs vs) : vs = l.map w32 := by
  cases cs with
  | c x => exact wL_ok h hv
  | w x => injection h with h; subst h; exact csR_w.1 hv
  | _ => cases h
theorem csQ_ok {cs : Cs} {l : List UInt64} (h : csQ cs = some l) {vs : List Value} (hv : csR ρ cs vs) : vs = l.map w64 := by
  cases cs with
  | c x => exact qL_ok h hv
  | q x => injection h with h; subst h; exact csR_q.1 hv
  | _ => cases h
def tyX : Cs → Option Cs
  | .c (.s (.u8 x) :: l) => (match bL (.s (.u8 x) :: l) with | some r => some (.b r) | none => none)
  | .c (.s (.u32 x) :: l) => (match wL (.s (.u32 x) :: l) with | some r => some (.w r) | none => none)
  | .c (.s (.u64 x) :: l) => (match qL (.s (.u64 x) :: l) with | some r => some (.q r) | none => none)
  | _ => none
theorem tyX_ok {cs cs' : Cs} (h : tyX cs = some cs') {vs : List Value} (hv : csR ρ cs vs) : csR ρ cs' vs := by
  unfold tyX at h
  split at h
  · split at h
    · rename_i r hr; injection h with h; subst h; exact csR_b.2 (bL_ok hr hv)
    · cases h
  · split at h
    · rename_i r hr; injection h with h; subst h; exact csR_w.2 (wL_ok hr hv)
    · cases h
  · split at h
    · rename_i r hr; injection h with h; subst h; exact csR_q.2 (qL_ok hr hv)
    · cases h
  · cases h
theorem objR_ty {p : Pl} {o : Oj} {cs : Cs} (h : tyX o.cs = some cs) (hr : objR ρ w p o) : objR ρ w p { o with cs := cs } := by
  have hl : ∀ vs, csR ρ o.cs vs → cs.cl.length = o.cs.cl.length := fun vs hv => by rw [← (tyX_ok h hv).len, hv.len]
  unfold objR at hr ⊢
  cases hk : o.kd with
  | dead => exact True.intro
  | ro fs => simp only [hk] at hr ⊢; obtain ⟨⟨e1, e2, e3⟩, g1, vs, hc, hA⟩ := hr; exact ⟨⟨e1, e2, by rw [hl vs hc]; exact e3⟩, g1, vs, tyX_ok h hc, hA⟩
  | row => simp only [hk] at hr ⊢; obtain ⟨⟨e1, e2, e3⟩, vs, hc, hA⟩ := hr; exact ⟨⟨e1, e2, by rw [hl vs hc]; exact e3⟩, vs, tyX_ok h hc, hA⟩
  | blk => simp only [hk] at hr ⊢; obtain ⟨⟨e1, e2, e3⟩, b, vs, hA, hc, hB⟩ := hr; exact ⟨⟨e1, e2, by rw [hl vs hc]; exact e3⟩, b, vs, hA, tyX_ok h hc, hB⟩
def emptyX : Cs → Bool
  | .b l => l.isEmpty
  | .w l => l.isEmpty
  | .q l => l.isEmpty
  | .z l => l.isEmpty
  | .c l => l.isEmpty
theorem emptyX_ok {cs : Cs} (h : emptyX cs = true) : cs.cl = [] := by
  cases cs <;> simp only [emptyX, List.isEmpty_iff] at h <;> subst h <;> rfl
theorem fsh_ro (b : Bool) (e : TypeId) (sz n : Nat) (cs : Cs) : (Oj.mk (.ro b) e sz n cs).fsh = b := by cases b <;> rfl
def co1 (c : Co) (s : S) : Option S := match c with
  | .nil t e sz cs => (match s.fr.lookup t, okS s, emptyX cs with
    | some (.c .nils), true, true => some ⟨putF s.fr (some t) (.c (.wh s.H.length)), s.gl, s.H ++ [⟨.row, e, sz, 0, cs⟩]⟩
    | _, _, _ => none)
  | .sb t => (match s.fr.lookup t with
    | some (.c (.wh i)) => (match liveS s.H i with | some o => some ⟨putF s.fr (some t) (.c (.sl i 0 o.n)), s.gl, s.H⟩ | none => none)
    | _ => none)
  | .ns t i => (match s.fr.lookup t with
    | some (.c .nils) => some ⟨putF s.fr (some t) (.c (.sl i 0 0)), s.gl, s.H⟩
    | _ => none)
  | .ty i => (match s.H[i]? with
    | some o => (match tyX o.cs with | some cs => some ⟨s.fr, s.gl, s.H.set i { o with cs := cs }⟩ | none => none)
    | none => none)
  | .er t tid kd => (match s.fr.lookup t with
    | some (.c (.s (.v v))) => (match v with | .nilIface => some ⟨putF s.fr (some t) (.c (.s (.er tid kd none))), s.gl, s.H⟩ | _ => none)
    | _ => none)
  | .emp t e sz cs b => (match s.fr.lookup t, okS s, emptyX cs with
    | some (.c .nils), true, true => some ⟨putF s.fr (some t) (.c (.wh s.H.length)), s.gl, s.H ++ [⟨.ro b, e, sz, 0, cs⟩]⟩
    | _, _, _ => none)
  | .vw t b => (match s.fr.lookup t, okS s with
    | some (.c (.wh i)), true => (match liveS s.H i with
      | some o => (match ltX s.H.length o.cs with
        | true => some ⟨putF s.fr (some t) (.c (.wh s.H.length)), s.gl, killO [i] s.H ++ [⟨.ro (b && o.fsh), o.e, o.sz, o.n, o.cs⟩]⟩
        | false => none)
      | none => none)
    | some (.c (.sl i lo n)), true => (match liveS s.H i with
      | some o => (match ltX s.H.length (o.cs.part (mulS lo o.sz) (mulS n o.sz)) with
        | true => some ⟨putF s.fr (some t) (.c (.wh s.H.length)), s.gl, killO [i] s.H ++ [⟨.ro (b && o.fsh), o.e, o.sz, n, o.cs.part (mulS lo o.sz) (mulS n o.sz)⟩]⟩
        | false => none)
      | none => none)
    | _, _ => none)
def coS : List Co → S → Option S
  | [], s => some s
  | c :: cs, s => match co1 c s with | some s' => coS cs s' | none => none
theorem co_view (hs : okS s = true) (r3 : RelA ρ bs w0 s a w) {t i lo n sz : Nat} {e : TypeId} {cs : Cs} {b : Bool} {o : Oj} (h1 : s.H[i]? = some o) (h2 : (∃ b, o.kd = .ro b) ∨ o.kd = .row) (hlt : ltX s.H.length cs = true) (hsz : sz = o.sz)
    {A : Option Addr} {c : Nat} (hvA : a.tmps.getD t undef = .slice A n c) (k1 : n ≤ c) (k2 : c ≤ maxLen) (k3 : A = none → c = 0) {vs : List Value} (hcs : csR ρ cs vs) (hvl : vs.length = n * sz) (k4 : At w A vs) (hle : lo + n ≤ o.n)
    (e1 : (ρ i).sz = o.sz) (e2 : (ρ i).n = o.n) (hA : 0 < n → A = (ρ i).A.map (·.add (lo * o.sz))) :
    ∃ ρ', RelA ρ' bs w0 ⟨putF s.fr (some t) (.c (.wh s.H.length)), s.gl, killO [i] s.H ++ [⟨.ro (b && o.fsh), e, sz, n, cs⟩]⟩ a w := by
  subst hsz
  have hat0 : ∀ (x : Oj) (g : Nat) (b : Bool), x.kd = .ro b → objAt ⟨A, n, c, o.sz⟩ x g → objAt (ρ i) o g := by
    intro x g b hxk hat
    unfold objAt at hat
    simp only [hxk] at hat
    obtain ⟨hne, ad, had, rfl⟩ := hat
    have hn0 : 0 < n := by
      rcases Nat.eq_zero_or_pos n with h0 | h0
      · rw [h0] at hne; simp at hne
      · exact h0
    have hsz0 : o.sz ≠ 0 := by intro e; rw [e] at hne; simp at hne
    have hA' := hA hn0
    rw [hA'] at had
    cases hp : (ρ i).A with
    | none => rw [hp] at had; cases had
    | some a0 =>
      rw [hp] at had; injection had with had; subst had
      rw [block_add]
      rcases h2 with ⟨b, hk⟩ | hk
      · unfold objAt; simp only [hk]
        refine ⟨?_, a0, hp, rfl⟩
        rw [e1, e2]
        have : 0 < o.n := by omega
        exact Nat.ne_of_gt (Nat.mul_pos this (by omega))
      · unfold objAt; simp only [hk]; exact ⟨a0, hp, rfl⟩
  refine ⟨upd ρ s.H.length ⟨A, n, c, o.sz⟩, r3.new hs hlt (killO_len [i] s.H) (fun j x hx => ?_) r3.kp (show objR ρ w ⟨A, n, c, o.sz⟩ ⟨.ro (b && o.fsh), e, o.sz, n, cs⟩ from ⟨⟨rfl, rfl, by rw [← hcs.len]; exact hvl⟩, ⟨k1, k2, k3⟩, _, hcs, k4⟩) (fun _ j x g hx hxk hat hor hat2 => ?_) (fun hfs g hat => ?_) _ _ ?_⟩
  · rcases killO_at hx with hd | ⟨hx1, _⟩
    · exact .inl hd
    · exact .inr ⟨hx1, r3.hp j x hx1⟩
  · rcases killO_at hx with hd | ⟨hx1, hx2⟩
    · exact hxk hd
    · have hxo : x.own = true := by
        rcases hor with h3 | h3
        · exact h3
        · unfold Oj.own at h3; cases h3
      have hji : j ≠ i := fun e => hx2 hxo (by simp [e])
      exact r3.sep j i x o g hji hx1 h1 hxo hat2 (hat0 _ g _ rfl hat)
  · have hof : o.fsh = true := by rw [fsh_ro] at hfs; simp only [Bool.and_eq_true] at hfs; exact hfs.2
    exact r3.own i o g h1 hof (hat0 _ g _ rfl hat)
  · refine FrR.same (fun t x hx => ltA_ok upd_lt (ltF_ok (okS_ok hs).1 t x hx) (r3.fr t x hx)) ?_
    show clR _ (.wh _) _
    simp only [clR, upd_at]
    exact hvA
theorem co1_ok {c : Co} (h : co1 c s = some s') (hR : Rel N bs w0 s a w) : Rel N bs w0 s' a w := by
  obtain ⟨r1, r2, ρ, r3⟩ := hR
  refine ⟨r1, r2, ?_⟩
  cases c with
  | sb t =>
    simp only [co1] at h
    split at h
    · rename_i i ht
      split at h
      · rename_i o hl
        injection h with h; subst h
        have hv : a.tmps.getD t undef = .slice (ρ i).A (ρ i).n (ρ i).cap := r3.fr t _ ht
        obtain ⟨h1, h2⟩ := liveS_ok hl
        obtain ⟨⟨e1, e2, e3⟩, _⟩ := (r3.hp i o h1).read (nd h2)
        obtain ⟨g1, g2, g3⟩ := (r3.hp i o h1).slc h2
        refine ⟨ρ, r3.fr.same ?_, r3.gl, r3.hp, r3.sep, r3.own, r3.kp⟩
        show clR ρ (.sl i 0 o.n) _
        refine ⟨by omega, (ρ i).A, (ρ i).cap, by rw [← e2]; exact hv, by omega, g2, g3, fun _ => ?_⟩
        rw [Nat.zero_mul]
        cases (ρ i).A with
        | none => rfl
        | some ad => simp [Addr.add]
      · cases h
    · cases h
  | ns t i =>
    simp only [co1] at h
    split at h
    · rename_i ht
      injection h with h; subst h
      have hv : a.tmps.getD t undef = .slice none 0 0 := r3.fr t _ ht
      refine ⟨ρ, r3.fr.same ?_, r3.gl, r3.hp, r3.sep, r3.own, r3.kp⟩
      show clR ρ (.sl i 0 0) _
      exact ⟨by omega, none, 0, hv, Nat.le_refl _, by simp [maxLen], fun _ => rfl, fun h => absurd h (by omega)⟩
    · cases h
  | ty i =>
    simp only [co1] at h
    split at h
    · rename_i o ho
      split at h
      · rename_i cs hcs
        injection h with h; subst h
        have at_ : ∀ (j : Nat) (x : Oj), (s.H.set i { o with cs := cs })[j]? = some x → ∃ y, s.H[j]? = some y ∧ (x = y ∨ (j = i ∧ y = o ∧ x = { o with cs := cs })) := by
          intro j x hx
          rw [List.getElem?_set] at hx
          split at hx
          · rename_i e
            subst e
            split at hx
            · injection hx with hx; exact ⟨o, ho, .inr ⟨rfl, rfl, hx.symm⟩⟩
            · cases hx
          · exact ⟨x, hx, .inl rfl⟩
        refine ⟨ρ, r3.fr, r3.gl, fun j x hx => ?_, fun j k x y g hjk hx hy hox hat hat2 => ?_, fun j x g hx hox hat => ?_, r3.kp⟩
        · obtain ⟨y, hy, rfl | ⟨rfl, rfl, rfl⟩⟩ := at_ j x hx
          · exact r3.hp j x hy
          · exact objR_ty hcs (r3.hp j y hy)
        · obtain ⟨x', hx', ex⟩ := at_ j x hx
          obtain ⟨y', hy', ey⟩ := at_ k y hy
          refine r3.sep j k x' y' g hjk hx' hy' ?_ ?_ ?_
          · rcases ex with rfl | ⟨_, rfl, rfl⟩ <;> exact hox
          · rcases ex with rfl | ⟨_, rfl, rfl⟩ <;> exact hat
          · rcases ey with rfl | ⟨_, rfl, rfl⟩ <;> exact hat2
        · obtain ⟨x', hx', ex⟩ := at_ j x hx
          refine r3.own j x' g hx' ?_ ?_
          · rcases ex with rfl | ⟨_, rfl, rfl⟩ <;> exact hox
          · rcases ex with rfl | ⟨_, rfl, rfl⟩ <;> exact hat
      · cases h
    · cases h
  | er t tid kd =>
    simp only [co1] at h
    split at h
    · rename_i v ht
      split at h
      · injection h with h; subst h
        have hv : a.tmps.getD t undef = .nilIface := r3.fr t _ ht
        exact ⟨ρ, r3.fr.same (show _ = _ from hv), r3.gl, r3.hp, r3.sep, r3.own, r3.kp⟩
      · cases h
    · cases h
  | nil t e sz cs =>
    simp only [co1] at h
    split at h
    · rename_i ht hs hc
      injection h with h; subst h
      have hnil : a.tmps.getD t undef = .slice none 0 0 := r3.fr t _ ht
      have hemp := emptyX_ok hc
      refine ⟨upd ρ s.H.length ⟨none, 0, 0, sz⟩, r3.new hs (by cases cs <;> simp [emptyX] at hc <;> subst hc <;> rfl) rfl (fun j x hx => .inr ⟨hx, r3.hp j x hx⟩) r3.kp (show objR ρ w ⟨none, 0, 0, sz⟩ ⟨.row, e, sz, 0, cs⟩ from ⟨⟨rfl, rfl, by rw [hemp]; simp⟩, [], by unfold csR; rw [hemp]; exact F2.nil, World.ownsRow_nil w 0 e sz⟩)
        (fun _ j x g _ _ hat _ => by obtain ⟨ad, had, _⟩ := hat; cases had) (fun _ g hat => by obtain ⟨ad, had, _⟩ := hat; cases had) _ _ ?_⟩
      refine FrR.same (fun t x hx => ltA_ok upd_lt (ltF_ok (okS_ok hs).1 t x hx) (r3.fr t x hx)) ?_
      show clR _ (.wh _) _
      simp only [clR, upd_at]
      exact hnil
    · cases h
  | emp t e sz cs b =>
    simp only [co1] at h
    split at h
    · rename_i ht hs hc
      injection h with h; subst h
      have hnil : a.tmps.getD t undef = .slice none 0 0 := r3.fr t _ ht
      have hemp := emptyX_ok hc
      refine ⟨upd ρ s.H.length ⟨none, 0, 0, sz⟩, r3.new hs (by cases cs <;> simp [emptyX] at hc <;> subst hc <;> rfl) rfl (fun j x hx => .inr ⟨hx, r3.hp j x hx⟩) r3.kp (show objR ρ w ⟨none, 0, 0, sz⟩ ⟨.ro b, e, sz, 0, cs⟩ from ⟨⟨rfl, rfl, by rw [hemp]; simp⟩, ⟨Nat.le_refl _, by simp [maxLen], fun _ => rfl⟩, [], by unfold csR; rw [hemp]; exact F2.nil, fun ad had => by cases had⟩)
        (fun _ j x g _ _ hat _ => by obtain ⟨_, ad, had, _⟩ := hat; cases had) (fun _ g hat => by obtain ⟨_, ad, had, _⟩ := hat; cases had) _ _ ?_⟩
      refine FrR.same (fun t x hx => ltA_ok upd_lt (ltF_ok (okS_ok hs).1 t x hx) (r3.fr t x hx)) ?_
      show clR _ (.wh _) _
      simp only [clR, upd_at]
      exact hnil
    · cases h
  | vw t b =>
    simp only [co1] at h
    split at h
    · rename_i i ht hs
      split at h
      · rename_i o hl
        split at h
        · rename_i hlt
          injection h with h; subst h
          have hv := r3.fr t _ ht
          obtain ⟨h1, h2⟩ := liveS_ok hl
          obtain ⟨⟨e1, e2, e3⟩, vs, hc, hA⟩ := (r3.hp i o h1).read (nd h2)
          obtain ⟨g1, g2, g3⟩ := (r3.hp i o h1).slc h2
          have hv' : a.tmps.getD t undef = .slice (ρ i).A o.n (ρ i).cap := by rw [← e2]; exact hv
          exact co_view hs r3 (lo := 0) h1 h2 hlt rfl hv' (by omega) g2 g3 hc (by rw [hc.len, e3]) hA (by omega) e1 e2 (fun _ => by
            rw [Nat.zero_mul]
            cases (ρ i).A with
            | none => rfl
            | some ad => simp [Addr.add])
        · cases h
      · cases h
    · rename_i i lo n ht hs
      split at h
      · rename_i o hl
        split at h
        · rename_i hlt
          injection h with h; subst h
          have hv := r3.fr t _ ht
          obtain ⟨h1, h2⟩ := liveS_ok hl
          obtain ⟨g1, g2, vs, hc, hS⟩ := slc_ok r3.hp (x := .sl i lo n) (o := o) (lo := lo) (n := n) (by simp [slc, hl]) hv
          obtain ⟨e1, e2, hA⟩ := slc_pl r3.hp (y := .sl i lo n) (o := o) (lo := lo) (n := n) (i := i) (by simp [slc, hl]) rfl hv
          obtain ⟨hlen, A, c, hvA, k1, k2, k3, k4⟩ := hS
          exact co_view hs r3 (lo := lo) h1 h2 hlt rfl hvA k1 k2 k3 (by unfold csR; rw [Cs.part_cl, mulS_eq, mulS_eq]; exact (F2.drop hc _).take _) hlen k4 g1 e1 e2 (hA A c hvA)
        · cases h
      · cases h
    · cases h
theorem coS_ok : ∀ {cs : List Co} {s s' : S}, coS cs s = some s' → Rel N bs w0 s a w → Rel N bs w0 s' a w
  | [], s, s', h, hR => by injection h with h; subst h; exact hR
  | c :: cs, s, s', h, hR => by
    simp only [coS] at h
    split at h
    · rename_i s1 h1; exact coS_ok h (co1_ok h1 hR)
    · cases h
end
end Go.Sx
