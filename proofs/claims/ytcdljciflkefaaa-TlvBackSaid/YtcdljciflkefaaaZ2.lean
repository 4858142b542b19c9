import Derived.Test.YtcdljciflkefaaaZ1
import Derived.Test.YtcdljciflkefaaaRows
import Derived.Test.YtcdljciflkefaaaChecked
import Derived.WalkKit
import Derived.ProofKit
import Derived.OpenShut
import Derived.ShutString
import Derived.ChangeOld
import Derived.Below
import Derived.Lib.MakeNoZero
import Derived.Laws.Externs
set_option linter.unusedVariables false
set_option linter.unusedSimpArgs false
section
namespace Go.Sx
open Go.RowKit Go.Ch
section
variable {P : Program} {T : Tab} {ft : Nat → FT} {ρ : Pls} {w w' : World} {bs : Bs} {w0 : World} {s s' : S} {a : Act} {N : Nat}
def rnI (objs : List Nat) (i : Nat) : Option Nat := match objs with
 | [] => none
 | j :: js => match Nat.beq j i with | true => some 0 | false => (match rnI js i with | some k => some (k + 1) | none => none)
theorem rnI_ok : ∀ {objs : List Nat} {i k : Nat}, rnI objs i = some k → objs[k]? = some i
 | [], i, k, h => by cases h
 | j :: js, i, k, h => by
  simp only [rnI] at h
  split at h
  ·rename_i he
   injection h with h; subst h
   have := Nat.eq_of_beq_eq_true he
   subst this; rfl
  ·split at h
   ·rename_i k' hk
    injection h with h; subst h
    simpa using rnI_ok hk
   ·cases h
def rnC (objs : List Nat) : Cl → Option Cl
 | .s x => some (.s x)
 | .nils => some .nils
 | .junk => some .junk
 | .wh i => (match rnI objs i with | some k => some (.wh k) | none => none)
 | .sl i lo n => (match rnI objs i with | some k => some (.sl k lo n) | none => none)
 | .pt i off => (match rnI objs i with | some k => some (.pt k off) | none => none)
 | .dv i p => (match rnI objs i with | some k => some (.dv k p) | none => none)
 | .dq i p q f sz => (match rnI objs i with | some k => some (.dq k p q f sz) | none => none)
 | .fp f i off => (match rnI objs i with | some k => some (.fp f k off) | none => none)
 | .pre i n => (match rnI objs i with | some k => some (.pre k n) | none => none)
 | .gh i p => (match rnI objs i with | some k => some (.gh k p) | none => none)
 | .gi i q => (match rnI objs i with | some k => some (.gi k q) | none => none)
def rnL (objs : List Nat) : List Cl → Option (List Cl)
 | [] => some []
 | c :: l => match rnC objs c, rnL objs l with | some c', some l' => some (c' :: l') | _, _ => none
def rnX (objs : List Nat) : Cs → Option Cs
 | .c l => (match rnL objs l with | some l' => some (.c l') | none => none)
 | .b l => some (.b l)
 | .w l => some (.w l)
 | .q l => some (.q l)
 | .z l => some (.z l)
 | .d x l => some (.d x l)
 | .g j n sz tl => (match rnI objs j, rnL objs tl with | some k, some tl' => some (.g k n sz tl') | _, _ => none)
 | .p j js => (match rnI objs j with | some k => some (.p k js) | none => none)
def rn1 (objs : List Nat) : A1 → Option A1
 | .c x => (match rnC objs x with | some y => some (.c y) | none => none)
 | .g n cs => (match rnX objs cs with | some y => some (.g n y) | none => none)
def rn1s (objs : List Nat) : List A1 → Option (List A1)
 | [] => some []
 | c :: l => match rn1 objs c, rn1s objs l with | some c', some l' => some (c' :: l') | _, _ => none
def rnA (objs : List Nat) : AV → Option AV
 | .c x => (match rnC objs x with | some y => some (.c y) | none => none)
 | .g n cs => (match rnX objs cs with | some y => some (.g n y) | none => none)
 | .t xs => (match rn1s objs xs with | some ys => some (.t ys) | none => none)
def rnF (objs : List Nat) (fr : Fr) : List Nat → Option Fr
 | [] => some []
 | t :: ts => match fr.lookup t, rnF objs fr ts with
  | some x, some r => (match rnA objs x with | some y => some ((t, y) :: r) | none => none)
  | _, _ => none
def rnG (objs : List Nat) : Fr → Option Fr
 | [] => some []
 | (t, x) :: l => match rnA objs x, rnG objs l with | some y, some r => some ((t, y) :: r) | _, _ => none
def rnH (objs : List Nat) (H : Hp) : List Nat → Option Hp
 | [] => some []
 | i :: is => match H[i]?, rnH objs H is with
  | some o, some r => (match rnX objs o.cs with | some cs => some (⟨o.kd, o.e, o.sz, o.n, cs⟩ :: r) | none => none)
  | _, _ => none
def nodup : List Nat → Bool
 | [] => true
 | i :: is => (match rnI is i with | some _ => false | none => true) && nodup is
theorem rnI_none : ∀ {objs : List Nat} {i : Nat}, rnI objs i = none → ∀ (k : Nat), objs[k]? ≠ some i
 | [], i, h, k => by simp
 | j :: js, i, h, k => by
  simp only [rnI] at h
  split at h
  ·cases h
  ·rename_i he
   split at h
   ·cases h
   ·rename_i hn
    cases k with
    | zero => intro e; simp at e; subst e; rw [Nat.beq_refl] at he; cases he
    | succ k => simpa using rnI_none hn k
theorem nodup_ok : ∀ {l : List Nat}, nodup l = true → ∀ (i j k : Nat), l[i]? = some k → l[j]? = some k → i = j
 | [], _, i, j, k, h, _ => by simp at h
 | x :: l, h, i, j, k, hi, hj => by
  simp only [nodup, Bool.and_eq_true] at h
  have hx : rnI l x = none := by
   cases hh : rnI l x with
   | none => rfl
   | some _ => have := h.1; rw [hh] at this; cases this
  cases i with
  | zero =>
   cases j with
   | zero => rfl
   | succ j => simp at hi hj; subst hi; exact absurd hj (rnI_none hx j)
  | succ i =>
   cases j with
   | zero => simp at hi hj; subst hj; exact absurd hi (rnI_none hx i)
   | succ j => simp at hi hj; rw [nodup_ok h.2 i j k hi hj]
def keep (live objs : List Nat) (s : S) : Option S := match rnF objs s.fr live, rnG objs s.gl, rnH objs s.H objs, nodup objs with
 | some fr, some gl, some H, true => some ⟨fr, gl, H⟩
 | _, _, _, _ => none
def plK (ρ : Pls) (objs : List Nat) : Pls := fun k => match objs[k]? with | some i => ρ i | none => ρ 0
theorem plK_at {objs : List Nat} {k i : Nat} (h : objs[k]? = some i) : plK ρ objs k = ρ i := by unfold plK; rw [h]
theorem rnC_ok {objs : List Nat} {c c' : Cl} (h : rnC objs c = some c') {v : Value} (hv : clR ρ c v) : clR (plK ρ objs) c' v := by
 cases c with
 | s x => injection h with h; subst h; exact hv
 | nils => injection h with h; subst h; exact hv
 | junk => injection h with h; subst h; exact hv
 | wh i =>
  simp only [rnC] at h
  split at h
  ·rename_i k hk; injection h with h; subst h
   simp only [clR, plK_at (rnI_ok hk)] at hv ⊢; exact hv
  ·cases h
 | gi i q =>
  simp only [rnC] at h
  split at h
  ·rename_i k hk; injection h with h; subst h
   simp only [clR, plK_at (rnI_ok hk)] at hv ⊢; exact hv
  ·cases h
 | gh i p =>
  simp only [rnC] at h
  split at h
  ·rename_i k hk; injection h with h; subst h
   simp only [clR, plK_at (rnI_ok hk)] at hv ⊢; exact hv
  ·cases h
 | dv i p =>
  simp only [rnC] at h
  split at h
  ·rename_i k hk; injection h with h; subst h
   simp only [clR, plK_at (rnI_ok hk)] at hv ⊢; exact hv
  ·cases h
 | dq i p q f sz =>
  simp only [rnC] at h
  split at h
  ·rename_i k hk; injection h with h; subst h
   simp only [clR, plK_at (rnI_ok hk)] at hv ⊢; exact hv
  ·cases h
 | fp f i off =>
  simp only [rnC] at h
  split at h
  ·rename_i k hk; injection h with h; subst h
   simp only [clR, plK_at (rnI_ok hk)] at hv ⊢; exact hv
  ·cases h
 | pre i n =>
  simp only [rnC] at h
  split at h
  ·rename_i k hk; injection h with h; subst h
   simp only [clR, plK_at (rnI_ok hk)] at hv ⊢; exact hv
  ·cases h
 | sl i lo n =>
  simp only [rnC] at h
  split at h
  ·rename_i k hk; injection h with h; subst h
   simp only [clR, plK_at (rnI_ok hk)] at hv ⊢; exact hv
  ·cases h
 | pt i off =>
  simp only [rnC] at h
  split at h
  ·rename_i k hk; injection h with h; subst h
   simp only [clR, plK_at (rnI_ok hk)] at hv ⊢; exact hv
  ·cases h
theorem rnL_ok {objs : List Nat} : ∀ {l l' : List Cl}, rnL objs l = some l' → ∀ {vs : List Value}, F2 (clR ρ) l vs → F2 (clR (plK ρ objs)) l' vs
 | [], l', h, vs, hv => by injection h with h; subst h; have := hv.1; simp at this; rw [List.eq_nil_of_length_eq_zero this.symm]; exact F2.nil
 | c :: l, l', h, vs, hv => by
  simp only [rnL] at h
  split at h
  ·rename_i c1 l1 h1 h2
   injection h with h; subst h
   cases vs with
   | nil => exact absurd hv.1 (by simp)
   | cons v vs =>
    have h3 := hv.2 0 c v rfl rfl
    have h4 : F2 (clR ρ) l vs := ⟨by have := hv.1; simpa using this, fun j a b ha hb => hv.2 (j + 1) a b (by simpa using ha) (by simpa using hb)⟩
    exact F2.cons (rnC_ok h1 h3) (rnL_ok h2 h4)
  ·cases h
theorem rnX_ok {objs : List Nat} {cs cs' : Cs} (h : rnX objs cs = some cs') {vs : List Value} (hv : csR ρ cs vs) : csR (plK ρ objs) cs' vs := by
 cases cs with
 | c l =>
  simp only [rnX] at h
  split at h
  ·rename_i l' hl; injection h with h; subst h; exact rnL_ok hl hv
  ·cases h
 | b l => injection h with h; subst h; exact csR_b.2 (csR_b.1 hv)
 | w l => injection h with h; subst h; exact csR_w.2 (csR_w.1 hv)
 | q l => injection h with h; subst h; exact csR_q.2 (csR_q.1 hv)
 | z l => injection h with h; subst h; exact csR_z.2 (csR_z.1 hv)
 | d x l => injection h with h; subst h; exact csR_d.2 (csR_d.1 hv)
 | g j n sz tl =>
  simp only [rnX] at h
  split at h
  ·rename_i k tl' hk ht
   injection h with h; subst h
   have hv' : F2 (clR ρ) (ghc j n sz ++ tl) vs := hv
   have h1 := hv'.take (n * sz)
   have h2 := hv'.drop (n * sz)
   rw [List.take_left' (ghc_len j n sz)] at h1
   rw [List.drop_left' (ghc_len j n sz)] at h2
   have h3 : F2 (clR (plK ρ objs)) (ghc k n sz) (vs.take (n * sz)) := by
    refine ⟨by rw [ghc_len, ← h1.1, ghc_len], fun q x y hx hy => ?_⟩
    unfold ghc at hx
    rw [List.getElem?_map] at hx
    obtain ⟨z, hz, rfl⟩ := Option.map_eq_some_iff.1 hx
    have := h1.2 q (.gh j [(z / sz, z % sz)]) y (by unfold ghc; rw [List.getElem?_map, hz]; rfl) hy
    simp only [clR, plK_at (rnI_ok hk)] at this ⊢
    exact this
   have := F2.append h3 (rnL_ok ht h2)
   rw [List.take_append_drop] at this
   exact this
  ·cases h
 | p j js =>
  simp only [rnX] at h
  split at h
  ·rename_i k hk
   injection h with h; subst h
   exact gi_mono (plK_at (rnI_ok hk)) hv
  ·cases h
theorem rnX_len {objs : List Nat} : ∀ {l l' : List Cl}, rnL objs l = some l' → l'.length = l.length
 | [], l', h => by injection h with h; subst h; rfl
 | c :: l, l', h => by
  simp only [rnL] at h
  split at h
  ·rename_i c1 l1 h1 h2; injection h with h; subst h; simp [rnX_len h2]
  ·cases h
theorem rnX_cl {objs : List Nat} {cs cs' : Cs} (h : rnX objs cs = some cs') : cs'.cl.length = cs.cl.length := by
 cases cs with
 | c l =>
  simp only [rnX] at h
  split at h
  ·rename_i l' hl; injection h with h; subst h; exact rnX_len hl
  ·cases h
 | b l => injection h with h; subst h; rfl
 | w l => injection h with h; subst h; rfl
 | q l => injection h with h; subst h; rfl
 | z l => injection h with h; subst h; rfl
 | d x l => injection h with h; subst h; rfl
 | g j n sz tl =>
  simp only [rnX] at h
  split at h
  ·rename_i k tl' hk ht; injection h with h; subst h; show (ghc _ _ _ ++ _).length = (ghc _ _ _ ++ _).length; rw [List.length_append, List.length_append, ghc_len, ghc_len, rnX_len ht]
  ·cases h
 | p j js =>
  simp only [rnX] at h
  split at h
  ·injection h with h; subst h; simp [Cs.cl]
  ·cases h
theorem rn1_ok {objs : List Nat} {x y : A1} (h : rn1 objs x = some y) {v : Value} (hv : a1R ρ x v) : a1R (plK ρ objs) y v := by
 cases x with
 | c c =>
  simp only [rn1] at h
  split at h
  ·rename_i c' hc; injection h with h; subst h; exact rnC_ok hc hv
  ·cases h
 | g n cs =>
  simp only [rn1] at h
  split at h
  ·rename_i cs' hc; injection h with h; subst h
   obtain ⟨vs, h1, h2, h3⟩ := hv
   exact ⟨vs, rnX_ok hc h1, h2, h3⟩
  ·cases h
theorem rn1s_ok {objs : List Nat} : ∀ {l l' : List A1}, rn1s objs l = some l' → ∀ {vs : List Value}, F2 (a1R ρ) l vs → F2 (a1R (plK ρ objs)) l' vs
 | [], l', h, vs, hv => by injection h with h; subst h; have := hv.1; simp at this; rw [List.eq_nil_of_length_eq_zero this.symm]; exact F2.nil
 | c :: l, l', h, vs, hv => by
  simp only [rn1s] at h
  split at h
  ·rename_i c1 l1 h1 h2
   injection h with h; subst h
   cases vs with
   | nil => exact absurd hv.1 (by simp)
   | cons v vs =>
    have h3 := hv.2 0 c v rfl rfl
    have h4 : F2 (a1R ρ) l vs := ⟨by have := hv.1; simpa using this, fun j a b ha hb => hv.2 (j + 1) a b (by simpa using ha) (by simpa using hb)⟩
    exact F2.cons (rn1_ok h1 h3) (rn1s_ok h2 h4)
  ·cases h
theorem rnA_ok {objs : List Nat} {x y : AV} (h : rnA objs x = some y) {v : Value} (hv : avR ρ x v) : avR (plK ρ objs) y v := by
 cases x with
 | c c =>
  simp only [rnA] at h
  split at h
  ·rename_i c' hc; injection h with h; subst h; exact rnC_ok hc hv
  ·cases h
 | g n cs =>
  simp only [rnA] at h
  split at h
  ·rename_i cs' hc; injection h with h; subst h
   obtain ⟨vs, h1, h2, h3⟩ := hv
   exact ⟨vs, rnX_ok hc h1, h2, h3⟩
  ·cases h
 | t xs =>
  simp only [rnA] at h
  split at h
  ·rename_i ys hy; injection h with h; subst h
   obtain ⟨vs, h1, h2⟩ := hv
   exact ⟨vs, rn1s_ok hy h1, h2⟩
  ·cases h
theorem rnF_ok {objs : List Nat} {fr : Fr} : ∀ {ts : List Nat} {r : Fr}, rnF objs fr ts = some r → ∀ t y, r.lookup t = some y → ∃ x, fr.lookup t = some x ∧ rnA objs x = some y
 | [], r, h, t, y, hy => by injection h with h; subst h; simp at hy
 | t0 :: ts, r, h, t, y, hy => by
  simp only [rnF] at h
  split at h
  ·rename_i x r1 h1 h2
   split at h
   ·rename_i y1 h3
    injection h with h; subst h
    rw [List.lookup_cons] at hy
    split at hy
    ·rename_i e
     have : t = t0 := by simpa using e
     subst this
     injection hy with hy; subst hy
     exact ⟨x, h1, h3⟩
    ·exact rnF_ok h2 t y hy
   ·cases h
  ·cases h
theorem rnG_ok {objs : List Nat} : ∀ {gl r : Fr}, rnG objs gl = some r → ∀ t y, r.lookup t = some y → ∃ x, gl.lookup t = some x ∧ rnA objs x = some y
 | [], r, h, t, y, hy => by injection h with h; subst h; simp at hy
 | (t0, x0) :: gl, r, h, t, y, hy => by
  simp only [rnG] at h
  split at h
  ·rename_i y1 r1 h1 h2
   injection h with h; subst h
   rw [List.lookup_cons] at hy ⊢
   split at hy
   ·injection hy with hy; subst hy
    exact ⟨x0, rfl, h1⟩
   ·exact rnG_ok h2 t y hy
  ·cases h
theorem rnH_ok {objs : List Nat} {H : Hp} : ∀ {is : List Nat} {r : Hp}, rnH objs H is = some r → ∀ (k : Nat) (o' : Oj), r[k]? = some o' → ∃ i o cs, is[k]? = some i ∧ H[i]? = some o ∧ rnX objs o.cs = some cs ∧ o' = ⟨o.kd, o.e, o.sz, o.n, cs⟩
 | [], r, h, k, o', ho => by injection h with h; subst h; simp at ho
 | i :: is, r, h, k, o', ho => by
  simp only [rnH] at h
  split at h
  ·rename_i o r1 h1 h2
   split at h
   ·rename_i cs h3
    injection h with h; subst h
    cases k with
    | zero => simp at ho; subst ho; exact ⟨i, o, cs, rfl, h1, h3, rfl⟩
    | succ k => simpa using rnH_ok h2 k o' (by simpa using ho)
   ·cases h
  ·cases h
theorem keep_ok {live objs : List Nat} (h : keep live objs s = some s') (hR : Rel N bs w0 s a w) : Rel N bs w0 s' a w := by
 obtain ⟨r1, r2, ρ, r3⟩ := hR
 refine ⟨r1, r2, plK ρ objs, ?_⟩
 unfold keep at h
 split at h
 ·rename_i fr gl H h1 h2 h3 h4
  injection h with h; subst h
  have hobjAt : ∀ (p : Pl) (o : Oj) (cs : Cs) (g : Nat), objAt p ⟨o.kd, o.e, o.sz, o.n, cs⟩ g ↔ objAt p o g := fun p o cs g => Iff.rfl
  refine ⟨fun t y hy => ?_, fun t y hy => ?_, fun k o' ho => ?_, fun k l x y g hkl hx hy hox hat hat2 => ?_, fun k x g hx hox hat => ?_, r3.kp⟩
  ·obtain ⟨x, hx, hxy⟩ := rnF_ok h1 t y hy
   exact rnA_ok hxy (r3.fr t x hx)
  ·obtain ⟨x, hx, hxy⟩ := rnG_ok h2 t y hy
   exact rnA_ok hxy (r3.gl t x hx)
  ·obtain ⟨i, o, cs, hi, hoi, hcs, rfl⟩ := rnH_ok h3 k o' ho
   rw [plK_at hi]
   have hr := r3.hp i o hoi
   have hl := rnX_cl hcs
   unfold objR at hr ⊢
   cases hk : o.kd with
   | dead => exact True.intro
   | ro fs => simp only [hk] at hr ⊢; obtain ⟨⟨e1, e2, e3⟩, g1, vs, hc, hA⟩ := hr; exact ⟨⟨e1, e2, by rw [hl]; exact e3⟩, g1, vs, rnX_ok hcs hc, hA⟩
   | row => simp only [hk] at hr ⊢; obtain ⟨⟨e1, e2, e3⟩, vs, hc, hA⟩ := hr; exact ⟨⟨e1, e2, by rw [hl]; exact e3⟩, vs, rnX_ok hcs hc, hA⟩
   | blk => simp only [hk] at hr ⊢; obtain ⟨⟨e1, e2, e3⟩, b, vs, hA, hc, hB⟩ := hr; exact ⟨⟨e1, e2, by rw [hl]; exact e3⟩, b, vs, hA, rnX_ok hcs hc, hB⟩
   | dp fs =>
    simp only [hk] at hr ⊢
    unfold DpR at hr ⊢
    split at hr
    ·rename_i hc
     rw [hc] at hcs
     injection hcs with hcs; subst hcs
     exact hr
    ·exact hr.elim
   | od =>
    simp only [hk] at hr ⊢
    unfold OdR at hr ⊢
    split at hr
    ·rename_i hc
     rw [hc] at hcs
     injection hcs with hcs; subst hcs
     exact hr
    ·exact hr.elim
   | og =>
    simp only [hk] at hr ⊢
    unfold OgR at hr ⊢
    refine ⟨hr.1, ?_⟩
    have hr := hr.2
    split at hr
    ·rename_i hc
     rw [hc] at hcs
     injection hcs with hcs; subst hcs
     exact hr
    ·exact hr.elim
   | gs fs =>
    simp only [hk] at hr ⊢
    unfold GsR at hr ⊢
    refine ⟨hr.1, ?_⟩
    have hr := hr.2
    split at hr
    ·rename_i hc
     rw [hc] at hcs
     injection hcs with hcs; subst hcs
     exact hr
    ·exact hr.elim
  ·obtain ⟨i, o, cs, hi, hoi, hcs, rfl⟩ := rnH_ok h3 k x hx
   obtain ⟨j, o2, cs2, hj, hoj, hcs2, rfl⟩ := rnH_ok h3 l y hy
   rw [plK_at hi] at hat
   rw [plK_at hj] at hat2
   have hne : i ≠ j := fun e => hkl (nodup_ok h4 k l i hi (e ▸ hj))
   exact r3.sep i j o o2 g hne hoi hoj hox hat hat2
  ·obtain ⟨i, o, cs, hi, hoi, hcs, rfl⟩ := rnH_ok h3 k x hx
   rw [plK_at hi] at hat
   exact r3.own i o g hoi hox hat
 ·cases h
def W (P : Program) (N : Nat) (bs : Bs) (w0 : World) (c : Code) (s : S) (Q : Exit → S → Prop) : Prop :=
 ∀ a w, Rel N bs w0 s a w → c.wp P (fun ex a' w' => ∃ s', Q ex s' ∧ Rel N bs w0 s' a' w') a w
def WL (P : Program) (N : Nat) (bs : Bs) (w0 : World) (n : Nat) (c : Code) (s : S) (Q : Exit → S → Prop) : Prop :=
 ∀ a w, Rel N bs w0 s a w → Code.rounds P c (fun ex a' w' => ∃ s', Q ex s' ∧ Rel N bs w0 s' a' w') n a w
variable {Q : Exit → S → Prop}
@[reducible] def thenQ (K : S → Prop) (Q : Exit → S → Prop) : Exit → S → Prop
 | .normal, s => K s
 | e, s => Q e s
@[reducible] def blockQ (id : Nat) (Q : Exit → S → Prop) : Exit → S → Prop
 | .exit j, s => (match Nat.beq j id with | true => Q .normal s | false => Q (.exit j) s)
 | e, s => Q e s
theorem W_seq {x y : Code} (h : W P N bs w0 x s (thenQ (fun s' => W P N bs w0 y s' Q) Q)) : W P N bs w0 (.seq x y) s Q := by
 intro a w hR
 refine wp_seq (Go.wp_mono (h a w hR) fun e a' w' ⟨s', hq, hr⟩ => ?_)
 cases e with
 | normal => exact hq a' w' hr
 | _ => exact ⟨s', hq, hr⟩
theorem W_skip (h : Q .normal s) : W P N bs w0 .skip s Q := fun a w hR => wp_skip ⟨s, h, hR⟩
theorem W_exit {id : Nat} (h : Q (.exit id) s) : W P N bs w0 (.exit id) s Q := fun a w hR => wp_exit ⟨s, h, hR⟩
theorem W_ret (h : Q .ret s) : W P N bs w0 .ret s Q := fun a w hR => wp_ret ⟨s, h, hR⟩
theorem W_block {id : Nat} {c : Code} (h : W P N bs w0 c s (blockQ id Q)) : W P N bs w0 (.block id c) s Q := by
 intro a w hR
 refine wp_block (Go.wp_mono (h a w hR) fun e a' w' ⟨s', hq, hr⟩ => ?_)
 cases e with
 | exit j =>
  simp only [Exit.inBlock]
  by_cases hj : j = id
  ·subst hj
   rw [if_pos rfl]
   simp only [blockQ, Nat.beq_refl] at hq
   exact ⟨s', hq, hr⟩
  ·rw [if_neg hj]
   have : Nat.beq j id = false := by
    cases hb : Nat.beq j id
    ·rfl
    ·exact absurd (Nat.eq_of_beq_eq_true hb) hj
   simp only [blockQ, this] at hq
   exact ⟨s', hq, hr⟩
 | _ => exact ⟨s', hq, hr⟩
theorem W_cond {t : Nat} {x y : Code} {b : Bool} (hb : s.fr.lookup t = some (.c (.s (.b b)))) (hx : b = true → W P N bs w0 x s Q) (hy : b = false → W P N bs w0 y s Q) : W P N bs w0 (.cond (.tmp t) x y) s Q := by
 intro a w hR
 obtain ⟨r1, r2, ρ, r3⟩ := hR
 have hv : a.eval (.tmp t) = .bool b := r3.fr t _ hb
 exact wp_cond_split hv (fun h => hx h a w ⟨r1, r2, ρ, r3⟩) (fun h => hy h a w ⟨r1, r2, ρ, r3⟩)
theorem W_loop {c : Code} (n : Nat) (h : WL P N bs w0 n c s Q) : W P N bs w0 (.loop c) s Q := fun a w hR => wp_loop_rounds n (h a w hR)
theorem WL_succ {c : Code} {n : Nat} (h : W P N bs w0 c s (thenQ (fun s' => WL P N bs w0 n c s' Q) Q)) : WL P N bs w0 (n + 1) c s Q := by
 intro a w hR
 rw [rounds_succ]
 refine Go.wp_mono (h a w hR) fun e a' w' ⟨s', hq, hr⟩ => ?_
 cases e with
 | normal => exact hq a' w' hr
 | _ => exact ⟨s', hq, hr⟩
def after (cs : List Co) (live objs : List Nat) (s : S) : Option S := match coS cs s with | some s1 => keep live objs s1 | none => none
theorem after_ok {cs : List Co} {live objs : List Nat} (h : after cs live objs s = some s') (hR : Rel N bs w0 s a w) : Rel N bs w0 s' a w := by
 unfold after at h
 split at h
 ·rename_i s1 h1; exact keep_ok h (coS_ok h1 hR)
 ·cases h
def reg (T : Tab) (ft : Nat → FT) (N : Nat) (asm : List (Nat × Bool)) (cs : List Co) (live objs : List Nat) (ops : List Oper) (s : S) : Option (List Prop × S) :=
 match exR T ft N ops.toArray asm 0 ops s with
 | some (g, s1) => (match after cs live objs s1 with | some s2 => some (g, s2) | none => none)
 | none => none
theorem W_reg (hT : TabOk P T) (hF : ∀ i, FtOk P (Kp bs w0) (ft i)) {id : Nat} {l : List Oper} (asm : List (Nat × Bool)) (cs : List Co) (live objs : List Nat) {g : List Prop} {s' : S} (h : reg T ft N asm cs live objs l s = some (g, s')) (hg : allP g) (hQ : Q .normal s') :
  W P N bs w0 (.region id l.toArray false) s Q := by
 intro a w hR
 unfold reg at h
 split at h
 ·rename_i g1 s1 h1
  split at h
  ·rename_i s2 h2
   injection h with h; simp only [Prod.mk.injEq] at h; obtain ⟨rfl, rfl⟩ := h
   exact wp_region_lit (exR_ok hT hF l 0 g1 s a w h1 hg hR (fun a' w' hr => ⟨s2, hQ, after_ok h2 hr⟩))
  ·cases h
 ·cases h
theorem W_co {c : Code} (cs : List Co) (live objs : List Nat) {s' : S} (h : after cs live objs s = some s') (hW : W P N bs w0 c s' Q) : W P N bs w0 c s Q := fun a w hR => hW a w (after_ok h hR)
theorem W_join {x y : Code} (J : S → Prop) (hJ : ∀ s', J s' → W P N bs w0 y s' Q) (hx : W P N bs w0 x s (thenQ J Q)) : W P N bs w0 (.seq x y) s Q := by
 refine W_seq fun a w hR => Go.wp_mono (hx a w hR) fun e a' w' ⟨s', hq, hr⟩ => ⟨s', ?_, hr⟩
 cases e with
 | normal => exact hJ s' hq
 | _ => exact hq
theorem WL_all {c : Code} (L : Nat → S → Prop) (hs : ∀ n s', L n s' → ∃ m, n = m + 1 ∧ W P N bs w0 c s' (thenQ (L m) Q)) : ∀ n s', L n s' → WL P N bs w0 n c s' Q := by
 intro n
 induction n with
 | zero => intro s' h; obtain ⟨m, hm, _⟩ := hs 0 s' h; cases hm
 | succ n ih =>
  intro s' h
  obtain ⟨m, hm, hw⟩ := hs (n + 1) s' h
  injection hm with hm; subst hm
  refine WL_succ fun a w hR => Go.wp_mono (hw a w hR) fun e a' w' ⟨s2, hq, hr⟩ => ⟨s2, ?_, hr⟩
  cases e with
  | normal => exact ih s2 hq
  | _ => exact hq
theorem W_lp {c : Code} (L : Nat → S → Prop) (n : Nat) (h0 : L n s) (hs : ∀ n s', L n s' → ∃ m, n = m + 1 ∧ W P N bs w0 c s' (thenQ (L m) Q)) : W P N bs w0 (.loop c) s Q :=
 W_loop n (WL_all L hs n s h0)
def gd (p : Prop) [Decidable p] {α : Type} (x : Option α) : Option α := if p then x else none
theorem gd_some {p : Prop} [Decidable p] {α : Type} {x : Option α} {r : α} (h : gd p x = some r) : p ∧ x = some r := by
 unfold gd at h; split at h
 ·exact ⟨by assumption, h⟩
 ·cases h
theorem gd_pos {p : Prop} [Decidable p] {α : Type} {x : Option α} (h : p) : gd p x = x := if_pos h
theorem bif_t {b : Bool} {α : Type} {x y : Option α} {r : α} (h : (bif b then x else y) = some r) (hb : b = true) : x = some r := by subst hb; exact h
theorem bif_f {b : Bool} {α : Type} {x y : Option α} {r : α} (h : (bif b then x else y) = some r) (hb : b = false) : y = some r := by subst hb; exact h
def args0 : Nat → List AV → Fr
 | _, [] => []
 | k, x :: xs => (k, x) :: args0 (k + 1) xs
theorem rel0 {gv : Nat → Value} {args : List AV} {H : Hp} {gl : Fr} {vals : List Value} {n : Nat} (hp : HpR ρ w H) (hro : ∀ (i : Nat) (o : Oj), H[i]? = some o → (∃ b, o.kd = .ro b ∧ b = false) ∨ o.kd = .dp false) (hv : F2 (avR ρ) args vals) (hgl : GlR (noB gv) ρ gl) (hn : vals.length ≤ n) :
  Rel n (noB gv) w ⟨args0 0 args, gl, H⟩ { tmps := vals.toArray ++ Array.replicate (n - vals.toArray.size) undef, defers := [] } w := by
 refine ⟨rfl, by simp; omega, ρ, ?_, hgl, hp, fun i j x y g _ hx _ hox _ => ?_, fun i x g hx hox _ => ?_, Kp.refl _ _⟩
 ·have key : ∀ (k : Nat) (xs : List AV) (t : Nat) (x : AV), (args0 k xs).lookup t = some x → k ≤ t ∧ xs[t - k]? = some x := by
   intro k xs
   induction xs generalizing k with
   | nil => intro t x h; simp [args0] at h
   | cons y ys ih =>
    intro t x h
    simp only [args0, List.lookup_cons] at h
    split at h
    ·rename_i e
     have : t = k := by simpa using e
     subst this
     injection h with h; subst h
     exact ⟨Nat.le_refl _, by simp⟩
    ·obtain ⟨h1, h2⟩ := ih (k + 1) t x h
     refine ⟨by omega, ?_⟩
     rw [show t - k = (t - (k + 1)) + 1 by omega]
     simpa using h2
  intro t x hx
  obtain ⟨_, h1⟩ := key 0 args t x hx
  obtain ⟨v, hv1, hv2⟩ := hv.at (show args[t]? = some x by simpa using h1)
  have hlt := (List.getElem?_eq_some_iff.1 hv1).1
  have : (vals.toArray ++ Array.replicate (n - vals.toArray.size) undef).getD t undef = v := by
   rw [Array.getD_eq_getD_getElem?, Array.getElem?_append_left (by simpa using hlt)]
   simp [hv1]
  rw [this]; exact hv2
 ·rcases hro i x hx with ⟨b, hb, _⟩ | hb
  ·unfold Oj.own at hox; rw [hb] at hox; cases hox
  ·unfold Oj.own at hox; rw [hb] at hox; cases hox
 ·rcases hro i x hx with ⟨b, hb, hb2⟩ | hb
  ·subst hb2
   unfold Oj.fsh at hox; rw [hb] at hox; cases hox
  ·unfold Oj.fsh at hox; rw [hb] at hox; cases hox
theorem calls_W {gv : Nat → Value} {f : FuncId} {fn : Func} {c : Code} {vals : List Value} {s0 : S} {n : Nat} (hf : P.funcs[f]? = some fn) (hb : fn.body = some c) (hn : fn.ntmps = n)
  (h0 : Rel n (noB gv) w s0 { tmps := vals.toArray ++ Array.replicate (n - vals.toArray.size) undef, defers := [] } w) {Q : Exit → S → Prop} (hW : W P n (noB gv) w c s0 Q) {R : Value → World → Prop}
  (hQ : ∀ e s', Q e s' → (e = .ret ∨ e = .normal) ∧ ∀ a' w', Rel n (noB gv) w s' a' w' → ∃ v, (results fn a'.tmps).run P w' = .ok v w' ∧ R v w') : Calls P f vals.toArray w (Ret R) := by
 refine calls_of_wp hf hb ?_
 rw [hn]
 refine Go.wp_mono (hW _ _ h0) fun e a' w' ⟨s', hq, hr⟩ => ?_
 obtain ⟨he, hv⟩ := hQ e s' hq
 obtain ⟨v, h1, h2⟩ := hv a' w' hr
 rcases he with rfl | rfl
 ·exact ⟨hr.dfr, v, h1, v, rfl, h2⟩
 ·exact ⟨hr.dfr, v, h1, v, rfl, h2⟩
structure FnOk (P : Program) (I : World → Prop) (f : FuncId) (F : Ct) : Prop where
 ct : CtOk P I f F
 fn : ∃ fn, P.funcs[f]? = some fn ∧ (fn.name == "runtime.NumGoroutine") = false ∧ fn.body.isNone = false
structure FnMOk (P : Program) (f : FuncId) (F : CtM) : Prop where
 ct : CtMOk P f F
 fn : ∃ fn, P.funcs[f]? = some fn ∧ (fn.name == "runtime.NumGoroutine") = false ∧ fn.body.isNone = false
structure FnVOk (P : Program) (I : World → Prop) (f : FuncId) (F : Ct) : Prop where
 ct : CtVOk P I f F
 fn : ∃ fn, P.funcs[f]? = some fn ∧ (fn.name == "runtime.NumGoroutine") = false ∧ fn.body.isNone = false
def ftL : List (Nat × FuncId × CtS) → Nat → FT
 | [], _, _ => none
 | (k, f, F) :: l, i, g => match Nat.beq k i, Nat.beq f g with | true, true => some F | _, _ => ftL l i g
def Tr : World → Prop := fun _ => True
theorem Tr.keep {w w' : World} (_ : Ext w w') (_ : Tr w) : Tr w' := True.intro
theorem ftL_nil {J : World → Prop} : ∀ i, FtOk P J (ftL [] i) := fun i f F h => by cases h
theorem ftL_cons {I J : World → Prop} {k : Nat} {f : FuncId} {F : Ct} {l : List (Nat × FuncId × CtS)} (h : FnOk P I f F) (hI : ∀ w, J w → I w) (hl : ∀ i, FtOk P J (ftL l i)) : ∀ i, FtOk P J (ftL ((k, f, .p F) :: l) i) := by
 intro i g G hG
 simp only [ftL] at hG
 split at hG
 ·rename_i hk hf
  have := Nat.eq_of_beq_eq_true hf
  subst this
  injection hG with hG; subst hG
  exact ⟨fun args H g av objs h1 h2 ρ w vals h3 => h.ct args H g av objs h1 h2 ρ w vals (hI w h3), h.fn⟩
 ·exact hl i g G hG
theorem ftL_consM {J : World → Prop} {k : Nat} {f : FuncId} {F : CtM} {l : List (Nat × FuncId × CtS)} (h : FnMOk P f F) (hl : ∀ i, FtOk P J (ftL l i)) : ∀ i, FtOk P J (ftL ((k, f, .m F) :: l) i) := by
 intro i g G hG
 simp only [ftL] at hG
 split at hG
 ·rename_i hk hf
  have := Nat.eq_of_beq_eq_true hf
  subst this
  injection hG with hG; subst hG
  exact ⟨h.ct, h.fn⟩
 ·exact hl i g G hG
theorem bind_some' {α β : Type} {x : Option α} {k : α → Option β} {r : β} (h : x.bind k = some r) : ∃ y, x = some y ∧ k y = some r := by
 cases x with
 | none => cases h
 | some y => exact ⟨y, rfl, h⟩
end
end Go.Sx
end
section
namespace Go.Sx
open Go.RowKit Go.Ch
section
variable {P : Program} {T : Tab} {ρ ρ' : Pls} {w w' : World} {bs : Bs} {w0 : World} {s s' : S} {a : Act} {N : Nat}
def shC (m : Nat) : Cl → Cl
 | .wh i => .wh (m + i)
 | .sl i lo n => .sl (m + i) lo n
 | .pt i off => .pt (m + i) off
 | .dv i p => .dv (m + i) p
 | .dq i p k f sz => .dq (m + i) p k f sz
 | .fp f i off => .fp f (m + i) off
 | .pre i n => .pre (m + i) n
 | .gh i p => .gh (m + i) p
 | .gi i k => .gi (m + i) k
 | c => c
def shL (m : Nat) : List Cl → List Cl
 | [] => []
 | c :: l => shC m c :: shL m l
def shX (m : Nat) : Cs → Cs
 | .c l => .c (shL m l)
 | .g j n sz tl => .g (m + j) n sz (shL m tl)
 | .p j js => .p (m + j) js
 | cs => cs
def sh1 (m : Nat) : A1 → A1
 | .c x => .c (shC m x)
 | .g n cs => .g n (shX m cs)
def sh1s (m : Nat) : List A1 → List A1
 | [] => []
 | c :: l => sh1 m c :: sh1s m l
def shA (m : Nat) : AV → AV
 | .c x => .c (shC m x)
 | .g n cs => .g n (shX m cs)
 | .t xs => .t (sh1s m xs)
def shH (m : Nat) : Hp → Hp
 | [] => []
 | o :: l => ⟨o.kd, o.e, o.sz, o.n, shX m o.cs⟩ :: shH m l
theorem shC_ok {m k : Nat} (hρ : ∀ i, i < k → ρ' (m + i) = ρ i) {c : Cl} (h : ltC k c = true) {v : Value} (hv : clR ρ c v) : clR ρ' (shC m c) v := by
 cases c with
 | wh i => simp only [ltC, decide_eq_true_eq] at h; simp only [shC, clR, hρ i h] at hv ⊢; exact hv
 | sl i lo n => simp only [ltC, decide_eq_true_eq] at h; simp only [shC, clR, hρ i h] at hv ⊢; exact hv
 | pt i off => simp only [ltC, decide_eq_true_eq] at h; simp only [shC, clR, hρ i h] at hv ⊢; exact hv
 | dv i p => simp only [ltC, decide_eq_true_eq] at h; simp only [shC, clR, hρ i h] at hv ⊢; exact hv
 | dq i p q f sz => simp only [ltC, decide_eq_true_eq] at h; simp only [shC, clR, hρ i h] at hv ⊢; exact hv
 | fp f i off => simp only [ltC, decide_eq_true_eq] at h; simp only [shC, clR, hρ i h] at hv ⊢; exact hv
 | pre i n => simp only [ltC, decide_eq_true_eq] at h; simp only [shC, clR, hρ i h] at hv ⊢; exact hv
 | gh i p => simp only [ltC, decide_eq_true_eq] at h; simp only [shC, clR, hρ i h] at hv ⊢; exact hv
 | gi i k => simp only [ltC, decide_eq_true_eq] at h; simp only [shC, clR, hρ i h] at hv ⊢; exact hv
 | s x => exact hv
 | nils => exact hv
 | junk => exact hv
theorem shL_ok {m k : Nat} (hρ : ∀ i, i < k → ρ' (m + i) = ρ i) : ∀ {l : List Cl}, ltL k l = true → ∀ {vs : List Value}, F2 (clR ρ) l vs → F2 (clR ρ') (shL m l) vs
 | [], _, vs, hv => by have := hv.1; simp at this; rw [List.eq_nil_of_length_eq_zero this.symm]; exact F2.nil
 | c :: l, h, vs, hv => by
  simp only [ltL, Bool.and_eq_true] at h
  cases vs with
  | nil => exact absurd hv.1 (by simp)
  | cons v vs =>
   have h3 := hv.2 0 c v rfl rfl
   have h4 : F2 (clR ρ) l vs := ⟨by have := hv.1; simpa using this, fun j a b ha hb => hv.2 (j + 1) a b (by simpa using ha) (by simpa using hb)⟩
   exact F2.cons (shC_ok hρ h.1 h3) (shL_ok hρ h.2 h4)
theorem shX_ok {m k : Nat} (hρ : ∀ i, i < k → ρ' (m + i) = ρ i) {cs : Cs} (h : ltX k cs = true) {vs : List Value} (hv : csR ρ cs vs) : csR ρ' (shX m cs) vs := by
 cases cs with
 | c l => exact shL_ok hρ h hv
 | b l => exact csR_b.2 (csR_b.1 hv)
 | w l => exact csR_w.2 (csR_w.1 hv)
 | q l => exact csR_q.2 (csR_q.1 hv)
 | z l => exact csR_z.2 (csR_z.1 hv)
 | d x l => exact csR_d.2 (csR_d.1 hv)
 | g j n sz tl =>
  simp only [ltX, Bool.and_eq_true, decide_eq_true_eq] at h
  have hv' : F2 (clR ρ) (ghc j n sz ++ tl) vs := hv
  have h1 := hv'.take (n * sz)
  have h2 := hv'.drop (n * sz)
  rw [List.take_left' (ghc_len j n sz)] at h1
  rw [List.drop_left' (ghc_len j n sz)] at h2
  have h3 : F2 (clR ρ') (ghc (m + j) n sz) (vs.take (n * sz)) := by
   refine ⟨by rw [ghc_len, ← h1.1, ghc_len], fun q x y hx hy => ?_⟩
   unfold ghc at hx
   rw [List.getElem?_map] at hx
   obtain ⟨z, hz, rfl⟩ := Option.map_eq_some_iff.1 hx
   have := h1.2 q (.gh j [(z / sz, z % sz)]) y (by unfold ghc; rw [List.getElem?_map, hz]; rfl) hy
   simp only [clR, hρ j h.1] at this ⊢
   exact this
  have := F2.append h3 (shL_ok hρ h.2 h2)
  rw [List.take_append_drop] at this
  exact this
 | p j js =>
  simp only [ltX, decide_eq_true_eq] at h
  exact gi_mono (hρ j h) hv
theorem sh1_ok {m k : Nat} (hρ : ∀ i, i < k → ρ' (m + i) = ρ i) {x : A1} (h : lt1 k x = true) {v : Value} (hv : a1R ρ x v) : a1R ρ' (sh1 m x) v := by
 cases x with
 | c x => exact shC_ok hρ h hv
 | g n cs => obtain ⟨vs, hc, hn, he⟩ := hv; exact ⟨vs, shX_ok hρ h hc, hn, he⟩
theorem sh1s_ok {m k : Nat} (hρ : ∀ i, i < k → ρ' (m + i) = ρ i) : ∀ {l : List A1}, lt1s k l = true → ∀ {vs : List Value}, F2 (a1R ρ) l vs → F2 (a1R ρ') (sh1s m l) vs
 | [], _, vs, hv => by have := hv.1; simp at this; rw [List.eq_nil_of_length_eq_zero this.symm]; exact F2.nil
 | c :: l, h, vs, hv => by
  simp only [lt1s, Bool.and_eq_true] at h
  cases vs with
  | nil => exact absurd hv.1 (by simp)
  | cons v vs =>
   have h3 := hv.2 0 c v rfl rfl
   have h4 : F2 (a1R ρ) l vs := ⟨by have := hv.1; simpa using this, fun j a b ha hb => hv.2 (j + 1) a b (by simpa using ha) (by simpa using hb)⟩
   exact F2.cons (sh1_ok hρ h.1 h3) (sh1s_ok hρ h.2 h4)
theorem shA_ok {m k : Nat} (hρ : ∀ i, i < k → ρ' (m + i) = ρ i) {x : AV} (h : ltA k x = true) {v : Value} (hv : avR ρ x v) : avR ρ' (shA m x) v := by
 cases x with
 | c x => exact shC_ok hρ h hv
 | g n cs => obtain ⟨vs, hc, hn, he⟩ := hv; exact ⟨vs, shX_ok hρ h hc, hn, he⟩
 | t xs => obtain ⟨vs, hc, he⟩ := hv; exact ⟨vs, sh1s_ok hρ h hc, he⟩
theorem shX_len (m : Nat) (cs : Cs) : (shX m cs).cl.length = cs.cl.length := by
 cases cs with
 | c l =>
  show (shL m l).length = l.length
  induction l with
  | nil => rfl
  | cons c l ih => simp [shL, ih]
 | g j n sz tl =>
  show (ghc _ _ _ ++ shL m tl).length = (ghc _ _ _ ++ tl).length
  rw [List.length_append, List.length_append, ghc_len, ghc_len]
  congr 1
  induction tl with
  | nil => rfl
  | cons c l ih => simp [shL, ih]
 | p j js => show (js.map _).length = (js.map _).length; rw [List.length_map, List.length_map]
 | _ => rfl
theorem shH_at : ∀ {m : Nat} {H : Hp} {k : Nat} {o : Oj}, (shH m H)[k]? = some o → ∃ o', H[k]? = some o' ∧ o = ⟨o'.kd, o'.e, o'.sz, o'.n, shX m o'.cs⟩
 | m, [], k, o, h => by simp [shH] at h
 | m, x :: H, k, o, h => by
  cases k with
  | zero => simp [shH] at h; exact ⟨x, rfl, h.symm⟩
  | succ k => simpa [shH] using shH_at (m := m) (H := H) (k := k) (by simpa [shH] using h)
theorem shH_len (m : Nat) : ∀ (H : Hp), (shH m H).length = H.length
 | [] => rfl
 | x :: H => by simp [shH, shH_len m H]
def noDp : Hp → Bool
 | [] => true
 | o :: l => (match o.kd with | .gs _ => false | _ => true) && noDp l
theorem noDp_ok : ∀ {H : Hp}, noDp H = true → ∀ (i : Nat) (o : Oj), H[i]? = some o → ∀ b, o.kd ≠ .gs b
 | [], _, i, o, h => by simp at h
 | x :: l, h, i, o, ho => by
  simp only [noDp, Bool.and_eq_true] at h
  cases i with
  | zero => simp at ho; subst ho; intro b e; rw [e] at h; cases h.1
  | succ i => exact noDp_ok h.2 i o (by simpa using ho)
theorem left_of {gv : Nat → Value} {fr gl : Fr} {objs H : Hp} {a' : Act} {ρ0 : Pls} (hr : RelA ρ (noB gv) w ⟨fr, gl, objs⟩ a' w') {av : AV} {v : Value} (hv : avR ρ av v) (h1 : ltA objs.length av = true) (h2 : ltH objs.length objs = true) (h3 : noDp objs = true) :
  ∃ ps, Left ρ0 w H (shA H.length av) (shH H.length objs) v w' ps := by
 have hat : ∀ (k : Nat), k < objs.length → ((List.range objs.length).map ρ)[k]? = some (ρ k) := fun k hk => by simp [hk]
 have hρ : ∀ i, i < objs.length → updL ρ0 H.length ((List.range objs.length).map ρ) (H.length + i) = ρ i := fun i hi => updL_at (hat i hi)
 have hps : ∀ (k : Nat) (p : Pl), ((List.range objs.length).map ρ)[k]? = some p → p = ρ k := fun k p hp => by
  have hk := (List.getElem?_eq_some_iff.1 hp).1
  rw [hat k (by simpa using hk)] at hp
  injection hp with hp; exact hp.symm
 refine ⟨(List.range objs.length).map ρ, by simp [shH_len], fun k o p ho hp => ?_, shA_ok hρ h1 hv, fun k o p g ho hp hat => ?_, fun k l o o' p p' g hkl ho ho' hp hp' hown hat hat2 => ?_⟩
 ·obtain ⟨x, hx, rfl⟩ := shH_at ho
  obtain rfl := hps k p hp
  have hro := hr.hp k x hx
  have hl := shX_len H.length x.cs
  unfold objR at hro ⊢
  cases hk : x.kd with
  | dead => exact True.intro
  | ro fs => simp only [hk] at hro ⊢; obtain ⟨⟨e1, e2, e3⟩, g1, vs, hc, hA⟩ := hro; exact ⟨⟨e1, e2, by rw [hl]; exact e3⟩, g1, vs, shX_ok hρ (ltH_ok h2 k x hx (by rw [hk]; simp)) hc, hA⟩
  | row => simp only [hk] at hro ⊢; obtain ⟨⟨e1, e2, e3⟩, vs, hc, hA⟩ := hro; exact ⟨⟨e1, e2, by rw [hl]; exact e3⟩, vs, shX_ok hρ (ltH_ok h2 k x hx (by rw [hk]; simp)) hc, hA⟩
  | blk => simp only [hk] at hro ⊢; obtain ⟨⟨e1, e2, e3⟩, b, vs, hA, hc, hB⟩ := hro; exact ⟨⟨e1, e2, by rw [hl]; exact e3⟩, b, vs, hA, shX_ok hρ (ltH_ok h2 k x hx (by rw [hk]; simp)) hc, hB⟩
  | gs fs => exact absurd hk (noDp_ok h3 k x hx fs)
  | od =>
   simp only [hk] at hro ⊢
   unfold OdR at hro ⊢
   split at hro
   ·rename_i hc
    rw [hc]
    exact hro
   ·exact hro.elim
  | og =>
   simp only [hk] at hro ⊢
   unfold OgR at hro ⊢
   refine ⟨hro.1, ?_⟩
   have hro := hro.2
   split at hro
   ·rename_i hc
    rw [hc]
    exact hro
   ·exact hro.elim
  | dp fs =>
   simp only [hk] at hro ⊢
   unfold DpR at hro ⊢
   split at hro
   ·rename_i hc
    rw [hc]
    exact hro
   ·exact hro.elim
 ·obtain ⟨x, hx, rfl⟩ := shH_at ho
  obtain rfl := hps k p hp
  by_cases hf : x.fsh = true
  ·rcases hr.own k x g hx hf hat with h3 | h3
   ·exact .inl h3
   ·exact (h3.elim (fun h => h) (fun h => h.2) : False).elim
  ·right
   unfold Oj.fsh at hf
   unfold objAt at hat
   cases hk : x.kd with
   | dead => simp only [hk] at hat
   | ro fs => cases fs with
    | false => exact .inl rfl
    | true => rw [hk] at hf; exact absurd rfl hf
   | row => rw [hk] at hf; exact absurd rfl hf
   | blk => rw [hk] at hf; exact absurd rfl hf
   | od => rw [hk] at hf; exact absurd rfl hf
   | og => rw [hk] at hf; exact absurd rfl hf
   | gs fs => exact absurd hk (noDp_ok h3 k x hx fs)
   | dp fs => cases fs with
    | false => exact .inr rfl
    | true => rw [hk] at hf; exact absurd rfl hf
 ·obtain ⟨x, hx, rfl⟩ := shH_at ho
  obtain ⟨y, hy, rfl⟩ := shH_at ho'
  obtain rfl := hps k p hp
  obtain rfl := hps l p' hp'
  exact hr.sep k l x y g hkl hx hy hown hat hat2
def aB (H : Hp) : AV → Option (List UInt8) | .c x => viewB H x | _ => none
def aI : AV → Option Int | .c (.s (.k .i64 n)) => some n | _ => none
def aU8 : AV → Option UInt8 | .c (.s (.u8 n)) => some n | _ => none
def viewW (H : Hp) (x : Cl) : Option (List UInt32) := match vcs H x with | some (1, _, .w l) => some l | _ => (match x with | .nils => some [] | _ => none)
def aW (H : Hp) : AV → Option (List UInt32) | .c x => viewW H x | _ => none
theorem aI_ok {x : AV} {n : Int} (h : aI x = some n) {v : Value} (hv : avR ρ x v) : v = .int .i64 n := by
 unfold aI at h; split at h
 ·injection h with h; subst h; exact hv
 ·cases h
theorem aU8_ok {x : AV} {n : UInt8} (h : aU8 x = some n) {v : Value} (hv : avR ρ x v) : v = bU n := by
 unfold aU8 at h; split at h
 ·injection h with h; subst h; exact hv
 ·cases h
def InSl (w : World) (e : TypeId) (n : Nat) (cs : Cs) (v : Value) (p : Pl) : Prop := v = .slice p.A p.n p.cap ∧ ∀ ρ, objR ρ w p ⟨.ro false, e, 1, n, cs⟩
theorem in_sl {v : Value} {n : Nat} {vs : List Value} (h : SlR w v n 1 vs) {cs : Cs} (hc : ∀ ρ, csR ρ cs vs) (e : TypeId) : ∃ p, InSl w e n cs v p := by
 obtain ⟨hl, A, c, rfl, h1, h2, h3, h4⟩ := h
 exact ⟨(pl4 A n c 1), rfl, fun ρ => ⟨⟨rfl, rfl, by rw [← (hc ρ).len]; exact hl⟩, ⟨h1, h2, h3⟩, vs, hc ρ, h4⟩⟩
theorem sl_slr {B : Nat} {v : Value} {vs : List Value} (h : Sl w B v vs) : SlR w v vs.length 1 vs := by
 obtain ⟨_, A, c, rfl, h1, h2, h3, h4⟩ := h
 exact ⟨by simp, A, c, rfl, h1, h2, h3, fun ad had j u hu => (h4 ad had j u hu).2⟩
theorem aB_ok {H : Hp} (hp : HpR ρ w H) {x : AV} {l : List UInt8} (h : aB H x = some l) {v : Value} (hv : avR ρ x v) (e : TypeId) : ∃ p, InSl w e l.length (.b l) v p := by
 cases x with
 | c c =>
  have h1 := viewB_ok hp h hv
  have := sl_slr h1
  rw [List.length_map] at this
  exact in_sl this (fun ρ => csR_b.2 rfl) e
 | _ => cases h
theorem nil_slr : SlR w (.slice none 0 0) 0 1 [] := ⟨rfl, none, 0, rfl, Nat.le_refl _, by simp [maxLen], fun _ => rfl, fun _ h => by cases h⟩
theorem aW_ok {H : Hp} (hp : HpR ρ w H) {x : AV} {l : List UInt32} (h : aW H x = some l) {v : Value} (hv : avR ρ x v) (e : TypeId) : ∃ p, InSl w e l.length (.w l) v p := by
 cases x with
 | c c =>
  simp only [aW, viewW] at h
  split at h
  ·rename_i n l' hvc
   injection h with h; subst h
   obtain ⟨vs, hc, hS⟩ := vcs_ok hp hvc hv
   have hvs := csR_w.1 hc
   subst hvs
   have hn : n = l'.length := by have := hS.len; simpa using this.symm
   subst hn
   exact in_sl hS (fun ρ => csR_w.2 rfl) e
  ·split at h
   ·injection h with h; subst h
    rw [show v = .slice none 0 0 from hv]
    exact in_sl nil_slr (fun ρ => csR_w.2 rfl) e
   ·cases h
 | _ => cases h
def plL (ps : List Pl) : Pls := fun i => match ps[i]? with | some p => p | none => (pl4 none 0 0 1)
theorem hpL {os : Hp} {ps : List Pl} (h : F2 (fun o p => ∀ ρ, objR ρ w p o) os ps) : HpR (plL ps) w os := by
 intro i o ho
 obtain ⟨p, hp, hr⟩ := h.at ho
 unfold plL; rw [hp]; exact hr _
def allRo : Hp → Bool
 | [] => true
 | o :: l => (match o.kd with | .ro false => true | .dp false => true | _ => false) && allRo l
theorem allRo_ok : ∀ {H : Hp}, allRo H = true → ∀ (i : Nat) (o : Oj), H[i]? = some o → (∃ b, o.kd = .ro b ∧ b = false) ∨ o.kd = .dp false
 | [], _, i, o, h => by simp at h
 | x :: l, h, i, o, ho => by
  simp only [allRo, Bool.and_eq_true] at h
  cases i with
  | zero =>
   simp at ho; subst ho
   have := h.1
   cases hk : x.kd with
   | ro b => cases b with
    | false => exact .inl ⟨false, rfl, rfl⟩
    | true => rw [hk] at this; cases this
   | dp b => cases b with
    | false => exact .inr rfl
    | true => rw [hk] at this; cases this
   | _ => rw [hk] at this; cases this
  | succ i => exact allRo_ok h.2 i o (by simpa using ho)
theorem F2.inv {α β : Type} {R : α → β → Prop} {x : α} {xs : List α} {ys : List β} (h : F2 R (x :: xs) ys) : ∃ y ys', ys = y :: ys' ∧ R x y ∧ F2 R xs ys' := by
 cases ys with
 | nil => exact absurd h.1 (by simp)
 | cons y ys => exact ⟨y, ys, rfl, h.2 0 x y rfl rfl, by have := h.1; simpa using this, fun j a b ha hb => h.2 (j + 1) a b (by simpa using ha) (by simpa using hb)⟩
theorem F2.inv0 {α β : Type} {R : α → β → Prop} {ys : List β} (h : F2 R ([] : List α) ys) : ys = [] := by
 have := h.1; simp at this; exact List.eq_nil_of_length_eq_zero this.symm
theorem GlR.nil : GlR bs ρ [] := fun t x h => by simp at h
theorem Rel.at {fr gl : Fr} {H : Hp} (h : Rel N bs w0 ⟨fr, gl, H⟩ a w) : ∃ ρ, RelA ρ bs w0 ⟨fr, gl, H⟩ a w := h.ex
theorem tab_of' : ∀ {L : List (TypeId × Ti)}, (L.map fun p => tiOf P p.1) = (L.map fun p => some p.2) → ∀ t ti, L.lookup t = some ti → tiOf P t = some ti
 | [], _, t, ti, ht => by simp at ht
 | (t0, ti0) :: L, h, t, ti, ht => by
  simp only [List.map_cons, List.cons.injEq] at h
  rw [List.lookup_cons] at ht
  split at ht
  ·rename_i e
   have : t = t0 := by simpa using e
   subst this
   injection ht with ht; subst ht; exact h.1
  ·exact tab_of' h.2 t ti ht
theorem tab_of {L : List (TypeId × Ti)} (h : (L.map fun p => tiOf P p.1) = L.map fun p => some p.2) : TabOk P (fun t => L.lookup t) := fun t ti ht => tab_of' h t ti ht
theorem allP_nil : allP [] := True.intro
end
end Go.Sx
end
section
namespace Go.Sx
open Go.RowKit Go.Ch
section
variable {P : Program} {T : Tab} {ft : Nat → FT} {ρ ρ' : Pls} {w w' : World} {bs : Bs} {w0 : World} {s s' : S} {a : Act} {N m : Nat}
def pC (q : Nat → Bool) : Cl → Bool
 | .wh i => q i
 | .sl i _ _ => q i
 | .pt i _ => q i
 | .dv i _ => q i
 | .dq i _ _ _ _ => q i
 | .fp _ i _ => q i
 | .pre i _ => q i
 | .gh i _ => q i
 | .gi i _ => q i
 | _ => true
def pL (q : Nat → Bool) : List Cl → Bool
 | [] => true
 | c :: l => pC q c && pL q l
def pX (q : Nat → Bool) : Cs → Bool
 | .c l => pL q l
 | .g j _ _ tl => q j && pL q tl
 | .p j _ => q j
 | _ => true
def p1 (q : Nat → Bool) : A1 → Bool
 | .c x => pC q x
 | .g _ cs => pX q cs
def p1s (q : Nat → Bool) : List A1 → Bool
 | [] => true
 | x :: l => p1 q x && p1s q l
def pA (q : Nat → Bool) : AV → Bool
 | .c x => pC q x
 | .g _ cs => pX q cs
 | .t xs => p1s q xs
variable {q : Nat → Bool}
theorem pC_ok (hρ : ∀ i, q i = true → ρ' i = ρ i) {c : Cl} (h : pC q c = true) {v : Value} (hv : clR ρ c v) : clR ρ' c v := by
 cases c with
 | wh i => simp only [pC] at h; simp only [clR, hρ i h] at hv ⊢; exact hv
 | sl i lo n => simp only [pC] at h; simp only [clR, hρ i h] at hv ⊢; exact hv
 | pt i off => simp only [pC] at h; simp only [clR, hρ i h] at hv ⊢; exact hv
 | dv i p => simp only [pC] at h; simp only [clR, hρ i h] at hv ⊢; exact hv
 | dq i p k f sz => simp only [pC] at h; simp only [clR, hρ i h] at hv ⊢; exact hv
 | fp f i off => simp only [pC] at h; simp only [clR, hρ i h] at hv ⊢; exact hv
 | pre i n => simp only [pC] at h; simp only [clR, hρ i h] at hv ⊢; exact hv
 | gh i p => simp only [pC] at h; simp only [clR, hρ i h] at hv ⊢; exact hv
 | gi i k => simp only [pC] at h; simp only [clR, hρ i h] at hv ⊢; exact hv
 | s x => exact hv
 | nils => exact hv
 | junk => exact hv
theorem pL_mem : ∀ {l : List Cl}, pL q l = true → ∀ c ∈ l, pC q c = true
 | [], _, c, hc => by cases hc
 | x :: l, h, c, hc => by
  simp only [pL, Bool.and_eq_true] at h
  rcases List.mem_cons.1 hc with rfl | hc
  ·exact h.1
  ·exact pL_mem h.2 c hc
theorem pX_ok (hρ : ∀ i, q i = true → ρ' i = ρ i) {cs : Cs} (h : pX q cs = true) {vs : List Value} (hv : csR ρ cs vs) : csR ρ' cs vs := by
 cases cs with
 | c l => exact F2.mono hv (fun c hc v hr => pC_ok hρ (pL_mem h c hc) hr)
 | b l => exact csR_b.2 (csR_b.1 hv)
 | w l => exact csR_w.2 (csR_w.1 hv)
 | q l => exact csR_q.2 (csR_q.1 hv)
 | z l => exact csR_z.2 (csR_z.1 hv)
 | d x l => exact csR_d.2 (csR_d.1 hv)
 | g j n sz tl =>
  simp only [pX, Bool.and_eq_true] at h
  refine F2.mono hv (fun c hc v hr => ?_)
  rcases List.mem_append.1 (show c ∈ ghc j n sz ++ tl from hc) with hc | hc
  ·obtain ⟨z, _, rfl⟩ := List.mem_map.1 hc
   exact pC_ok hρ (by simpa [pC] using h.1) hr
  ·exact pC_ok hρ (pL_mem h.2 c hc) hr
 | p j js => exact gi_mono (hρ j h) hv
theorem p1_ok (hρ : ∀ i, q i = true → ρ' i = ρ i) {x : A1} (h : p1 q x = true) {v : Value} (hv : a1R ρ x v) : a1R ρ' x v := by
 cases x with
 | c x => exact pC_ok hρ h hv
 | g n cs => obtain ⟨vs, hc, hn, he⟩ := hv; exact ⟨vs, pX_ok hρ h hc, hn, he⟩
theorem p1s_mem : ∀ {l : List A1}, p1s q l = true → ∀ c ∈ l, p1 q c = true
 | [], _, c, hc => by cases hc
 | x :: l, h, c, hc => by
  simp only [p1s, Bool.and_eq_true] at h
  rcases List.mem_cons.1 hc with rfl | hc
  ·exact h.1
  ·exact p1s_mem h.2 c hc
theorem pA_ok (hρ : ∀ i, q i = true → ρ' i = ρ i) {x : AV} (h : pA q x = true) {v : Value} (hv : avR ρ x v) : avR ρ' x v := by
 cases x with
 | c x => exact pC_ok hρ h hv
 | g n cs => obtain ⟨vs, hc, hn, he⟩ := hv; exact ⟨vs, pX_ok hρ h hc, hn, he⟩
 | t xs => obtain ⟨vs, hc, he⟩ := hv; exact ⟨vs, F2.mono hc (fun c hc v hr => p1_ok hρ (p1s_mem h c hc) hr), he⟩
theorem objR_p (hρ : ∀ i, q i = true → ρ' i = ρ i) {p : Pl} {o : Oj} (h : pX q o.cs = true) (hv : objR ρ w p o) : objR ρ' w p o := by
 unfold objR at hv ⊢
 cases hk : o.kd with
 | dead => exact True.intro
 | ro fs => simp only [hk] at hv ⊢; obtain ⟨h0, h1, vs, hc, hA⟩ := hv; exact ⟨h0, h1, vs, pX_ok hρ h hc, hA⟩
 | row => simp only [hk] at hv ⊢; obtain ⟨h0, vs, hc, hA⟩ := hv; exact ⟨h0, vs, pX_ok hρ h hc, hA⟩
 | blk => simp only [hk] at hv ⊢; obtain ⟨h0, b, vs, hA, hc, hB⟩ := hv; exact ⟨h0, b, vs, hA, pX_ok hρ h hc, hB⟩
 | dp fs => simp only [hk] at hv ⊢; exact hv
 | gs fs => simp only [hk] at hv ⊢; exact hv
 | od => simp only [hk] at hv ⊢; exact hv
 | og => simp only [hk] at hv ⊢; exact hv
def ltq (m : Nat) : Nat → Bool := fun j => decide (j < m)
def ltq1 (m i : Nat) : Nat → Bool := fun j => decide (j < m) || Nat.beq j i
structure Fe where
 av : AV
 nw : Option (Nat × Oj)
def feR (ρ : Pls) (w0 : World) (x : Fe) (v : Value) (w : World) : Prop := match x.nw with
 | none => avR ρ x.av v
 | some (i, o) => ∃ p, objR ρ w p o ∧ (∀ g, objAt p o g → w0.heap.size ≤ g ∨ o.kd = .ro false) ∧ avR (upd ρ i p) x.av v
theorem objR_ext {p : Pl} {o : Oj} (h : objR ρ w p o) (hx : Ext w w') : objR ρ w' p o := h.keep fun g hlt _ => hx.block g hlt
theorem feR_ext {x : Fe} {v : Value} (hx : Ext w w') (h : feR ρ w0 x v w) : feR ρ w0 x v w' := by
 unfold feR at h ⊢
 cases hn : x.nw with
 | none => simp only [hn] at h ⊢; exact h
 | some io => obtain ⟨i, o⟩ := io; simp only [hn] at h ⊢; obtain ⟨p, h1, h2, h3⟩ := h; exact ⟨p, objR_ext h1 hx, h2, h3⟩
abbrev FrN := List (Nat × Fe)
def aeN (fr : FrN) (gl : Fr) : Operand → Option AV
 | .tmp t => match fr.lookup t with | some x => some x.av | none => none
 | .const v => cv v
 | .global g => glk gl g
 | .func f => some (.c (.s (.v (.func (.func f) #[] #[]))))
def nws (fr : FrN) : List Operand → List (Nat × Nat × Oj)
 | [] => []
 | .tmp t :: l => (match fr.lookup t with
  | some x => (match x.nw with
   | some (i, o) => (match (nws fr l).any (fun y => Nat.beq y.1 t) with | true => nws fr l | false => (t, i, o) :: nws fr l)
   | none => nws fr l)
  | none => nws fr l)
 | _ :: l => nws fr l
def atN (acc : List (Nat × Nat × Oj)) (i : Nat) : Oj := match acc.find? (fun y => Nat.beq y.2.1 i) with | some y => y.2.2 | none => ⟨.dead, 0, 0, 0, .b []⟩
def padN (acc : List (Nat × Nat × Oj)) (m : Nat) : Nat → Hp
 | 0 => []
 | k + 1 => padN acc m k ++ [atN acc (m + k)]
theorem padN_len (acc : List (Nat × Nat × Oj)) (m : Nat) : ∀ k, (padN acc m k).length = k
 | 0 => rfl
 | k + 1 => by simp [padN, padN_len acc m k]
theorem padN_at (acc : List (Nat × Nat × Oj)) (m : Nat) : ∀ {k j : Nat} {o : Oj}, (padN acc m k)[j]? = some o → o = atN acc (m + j)
 | 0, j, o, h => by simp [padN] at h
 | k + 1, j, o, h => by
  simp only [padN] at h
  by_cases hj : j < k
  ·rw [List.getElem?_append_left (by rw [padN_len]; exact hj)] at h
   exact padN_at acc m h
  ·rw [List.getElem?_append_right (by rw [padN_len]; omega), padN_len] at h
   cases hk : j - k with
   | zero => rw [hk] at h; simp at h; rw [← h, show j = k by omega]
   | succ z => rw [hk] at h; simp at h
structure Ns where
 fr : FrN
 cnt : Nat
 dm : Bool
def putN (fr : FrN) (d : Option Nat) (x : Fe) : FrN := match d with
 | some d => (d, x) :: fr.filter (fun p => !(p.1 == d))
 | none => fr
def idsN (acc : List (Nat × Nat × Oj)) : List Nat := acc.map fun y => y.2.1
def newOf (m : Nat) (z : AV) : List (Nat × Nat × Oj) → Option (Option (Nat × Oj))
 | [] => match pA (ltq m) z with | true => some none | false => none
 | y :: l => match pA (ltq m) z with
  | true => some none
  | false => match pA (ltq1 m y.2.1) z with | true => some (some (y.2.1, y.2.2)) | false => newOf m z l
def okOb (m : Nat) (o : Oj) : Bool := pX (ltq m) o.cs && (match o.kd with | .dead | .dp _ | .gs _ | .od | .og => false | _ => true)
def opF (l : List Operand) (fr : FrN) : FrN := fr.filter fun p => l.any fun x => match x with | .tmp t => Nat.beq t p.1 | _ => false
theorem opF_lk {l : List Operand} {fr : FrN} {t : Nat} {x : Fe} (h : (opF l fr).lookup t = some x) : fr.lookup t = some x ∧ Operand.tmp t ∈ l := by
 unfold opF at h
 induction fr with
 | nil => simp at h
 | cons p fr ih =>
  obtain ⟨k, z⟩ := p
  rw [List.filter_cons] at h
  split at h
  ·rename_i hk
   rw [List.lookup_cons] at h ⊢
   split at h
   ·rename_i e
    have e2 : t = k := by simpa using e
    subst e2
    obtain ⟨y, hy, hy2⟩ := List.any_eq_true.1 hk
    cases y with
    | tmp t2 => have := Nat.eq_of_beq_eq_true hy2; simp only at this; subst this; exact ⟨h, hy⟩
    | _ => cases hy2
   ·exact ih h
  ·rename_i hk
   obtain ⟨h1, h2⟩ := ih h
   refine ⟨?_, h2⟩
   rw [List.lookup_cons]
   split
   ·rename_i e
    have e2 : t = k := by simpa using e
    subst e2
    exact absurd (List.any_eq_true.2 ⟨_, h2, Nat.beq_refl t⟩) hk
   ·exact h1
def stN (T : Tab) (ft : FT) (s0 : S) (st : Ns) (o : Oper) : Option (List Prop × Fe × Nat × Bool) :=
 let m := s0.H.length
 let fr := opF o.op.operands.toList st.fr
 let ae := aeN fr s0.gl
 let acc := nws fr o.op.operands.toList
 let H := s0.H ++ padN acc m (st.cnt - m)
 match nodup (idsN acc) && decide (m ≤ st.cnt) with
 | false => none
 | true => match vop T H ae o.op with
  | some (g, z) => (match newOf m z acc with | some nw => some (g, ⟨z, nw⟩, st.cnt, st.dm) | none => none)
  | none => match aop T ae o.op o.type with
   | some (g, b, ob) => (match okOb m ob with | true => some (g, ⟨if b then .c (.pt st.cnt 0) else .c (.wh st.cnt), some (st.cnt, ob)⟩, st.cnt + 1, st.dm) | false => none)
   | none => match o.op with
    | .call c => (match c.callee with
     | .value (.func f) => (match ftP ft f, evs ae c.args.toList with
      | some F, some vs => (match F vs H with
       | some (g, av, objs) => (match objs with
        | [] => (match pA (ltq m) av with | true => some (g, ⟨av, none⟩, st.cnt, st.dm) | false => none)
        | [ob] => (match okOb m ob && pA (ltq1 m st.cnt) av with | true => some (g, ⟨av, some (st.cnt, ob)⟩, st.cnt + 1, st.dm || hasRo [ob]) | false => none)
        | _ => none)
       | none => none)
      | _, _ => none)
     | _ => none)
    | _ => none
def OkN (m : Nat) (st : Ns) : Prop := m ≤ st.cnt ∧ ∀ t x, st.fr.lookup t = some x → match x.nw with
 | none => pA (ltq m) x.av = true
 | some (i, o) => m ≤ i ∧ i < st.cnt ∧ okOb m o = true ∧ pA (ltq1 m i) x.av = true ∧ (o.kd = .ro false → st.dm = true)
theorem nws_mem {fr : FrN} : ∀ {l : List Operand} {y : Nat × Nat × Oj}, y ∈ nws fr l → ∃ x, Operand.tmp y.1 ∈ l ∧ fr.lookup y.1 = some x ∧ x.nw = some (y.2.1, y.2.2)
 | [], y, h => by simp [nws] at h
 | .tmp t :: l, y, h => by
  have rec_ : y ∈ nws fr l → ∃ x, Operand.tmp y.1 ∈ Operand.tmp t :: l ∧ fr.lookup y.1 = some x ∧ x.nw = some (y.2.1, y.2.2) := fun h => by
   obtain ⟨x, h1, h2, h3⟩ := nws_mem h; exact ⟨x, List.mem_cons_of_mem _ h1, h2, h3⟩
  simp only [nws] at h
  split at h
  ·rename_i x hx
   split at h
   ·rename_i i o hio
    split at h
    ·exact rec_ h
    ·rcases List.mem_cons.1 h with rfl | h
     ·exact ⟨x, by simp, hx, hio⟩
     ·exact rec_ h
   ·exact rec_ h
  ·exact rec_ h
 | .const c :: l, y, h => by obtain ⟨x, h1, h2, h3⟩ := nws_mem (l := l) (by simpa [nws] using h); exact ⟨x, List.mem_cons_of_mem _ h1, h2, h3⟩
 | .global c :: l, y, h => by obtain ⟨x, h1, h2, h3⟩ := nws_mem (l := l) (by simpa [nws] using h); exact ⟨x, List.mem_cons_of_mem _ h1, h2, h3⟩
 | .func c :: l, y, h => by obtain ⟨x, h1, h2, h3⟩ := nws_mem (l := l) (by simpa [nws] using h); exact ⟨x, List.mem_cons_of_mem _ h1, h2, h3⟩
theorem nws_has {fr : FrN} {t i : Nat} {o : Oj} {x : Fe} (hx : fr.lookup t = some x) (hn : x.nw = some (i, o)) (l : List Operand) (h : Operand.tmp t ∈ l) : (t, i, o) ∈ nws fr l := by
 induction l with
 | nil => cases h
 | cons y l ih =>
  cases y with
  | const c => simp only [List.mem_cons, reduceCtorEq, false_or] at h; exact ih h
  | global c => simp only [List.mem_cons, reduceCtorEq, false_or] at h; exact ih h
  | func c => simp only [List.mem_cons, reduceCtorEq, false_or] at h; exact ih h
  | tmp t' =>
   by_cases e : t = t'
   ·subst e
    simp only [nws, hx, hn]
    split
    ·rename_i hany
     obtain ⟨y, hy, hy1⟩ := List.any_eq_true.1 hany
     have e := Nat.eq_of_beq_eq_true hy1
     obtain ⟨x', _, hx', hn'⟩ := nws_mem hy
     rw [e, hx] at hx'; injection hx' with hx'; subst hx'
     rw [hn] at hn'; injection hn' with hn'
     obtain ⟨y1, y2, y3⟩ := y
     simp only [Prod.mk.injEq] at hn' e
     obtain ⟨rfl, rfl⟩ := hn'
     subst e; exact hy
    ·exact List.mem_cons_self
   ·have h' : Operand.tmp t ∈ l := by
     rcases List.mem_cons.1 h with e2 | h2
     ·injection e2 with e2; exact absurd e2 e
     ·exact h2
    have h3 := ih h'
    simp only [nws]
    split
    ·split
     ·split
      ·exact h3
      ·exact List.mem_cons_of_mem _ h3
     ·exact h3
    ·exact h3
theorem find_ids {acc : List (Nat × Nat × Oj)} (hnd : nodup (idsN acc) = true) {y : Nat × Nat × Oj} (hy : y ∈ acc) : acc.find? (fun z => Nat.beq z.2.1 y.2.1) = some y := by
 induction acc with
 | nil => cases hy
 | cons z acc ih =>
  simp only [idsN, List.map_cons, nodup, Bool.and_eq_true] at hnd
  rw [List.find?_cons]
  rcases List.mem_cons.1 hy with rfl | hy
  ·rw [Nat.beq_refl]
  ·split
   ·rename_i hb
    have e := Nat.eq_of_beq_eq_true hb
    have hnone : rnI (acc.map fun y => y.2.1) z.2.1 = none := by
     cases hh : rnI (acc.map fun y => y.2.1) z.2.1 with
     | none => rfl
     | some _ => rw [hh] at hnd; cases hnd.1
    obtain ⟨k, hk⟩ := List.getElem?_of_mem hy
    exact absurd (show (acc.map fun y => y.2.1)[k]? = some z.2.1 by simp [hk, e]) (rnI_none hnone k)
   ·exact ih hnd.2 hy
theorem aop_kd {ae : Operand → Option AV} {op : Op} {ty : TypeId} {g : List Prop} {b : Bool} {ob : Oj} (ha : aop T ae op ty = some (g, b, ob)) : ob.kd ≠ .ro false := by
 have key : ∀ k : Kd, (k = .row ∨ k = .blk) → k ≠ .ro false := by rintro k (rfl | rfl) <;> exact fun e => Kd.noConfusion e
 apply key
 unfold aop at ha
 split at ha <;> (repeat' split at ha) <;> first
  | (injection ha with ha; simp only [Prod.mk.injEq] at ha; obtain ⟨_, _, rfl⟩ := ha; first | exact .inl rfl | exact .inr rfl)
  | cases ha
theorem grown_ext (hg : w.grownBy w' none) : Ext w w' := ⟨hg.os, hg.tape, hg.output, hg.size, fun k hk => hg.block k hk (by simp)⟩
theorem stN_ok {s0 : S} {wB : World} (hT : TabOk P T) {ft : FT} (hF : FtOk P (Ext wB) ft) (hs : okS s0 = true) (hgl : GlR bs ρ s0.gl) (hhp : HpR ρ wB s0.H) {st : Ns} (hok : OkN s0.H.length st) {o : Oper} {g : List Prop} {x : Fe} {cnt' : Nat} {dm' : Bool} (h : stN T ft s0 st o = some (g, x, cnt', dm')) (hg : allP g) :
  (st.cnt ≤ cnt' ∧ (st.dm = true → dm' = true) ∧ (match x.nw with | none => pA (ltq s0.H.length) x.av = true | some (i, ob) => s0.H.length ≤ i ∧ i < cnt' ∧ okOb s0.H.length ob = true ∧ pA (ltq1 s0.H.length i) x.av = true ∧ (ob.kd = .ro false → dm' = true))) ∧
  ∀ (a : Act) (w : World), Ext wB w → (∀ t y, Operand.tmp t ∈ o.op.operands.toList → st.fr.lookup t = some y → feR ρ wB y (a.tmps.getD t undef) w) →
   o.wp P a w (fun a' w' => ∃ v, a' = a.put o.dst v ∧ Ext w w' ∧ feR ρ wB x v w') (fun _ _ _ => False) := by
 obtain ⟨dst, op, ty, pos, aft, gd⟩ := o
 have hq : ∀ {p : Pl} {i : Nat}, s0.H.length ≤ i → ∀ j, ltq s0.H.length j = true → upd ρ i p j = ρ j := fun hi j hj => by
  unfold ltq at hj; simp only [decide_eq_true_eq] at hj; exact upd_lt j (by omega)
 unfold stN at h
 simp only at h
 split at h
 ·cases h
 ·rename_i hnd
  simp only [Bool.and_eq_true, decide_eq_true_eq] at hnd
  obtain ⟨hnd, hmc⟩ := hnd
  generalize hacc : nws (opF op.operands.toList st.fr) op.operands.toList = acc at h hnd
  have hHl : (s0.H ++ padN acc s0.H.length (st.cnt - s0.H.length)).length = st.cnt := by rw [List.length_append, padN_len]; omega
  -- what holds once operands' new objects are placed
  have place : ∀ (a : Act) (w : World), Ext wB w → (∀ t y, Operand.tmp t ∈ op.operands.toList → st.fr.lookup t = some y → feR ρ wB y (a.tmps.getD t undef) w) →
    ∃ ρ1 : Pls, (∀ j, j < s0.H.length → ρ1 j = ρ j) ∧ HpR ρ1 w (s0.H ++ padN acc s0.H.length (st.cnt - s0.H.length)) ∧ (∀ x av, aeN (opF op.operands.toList st.fr) s0.gl x = some av → avR ρ1 av (a.eval x)) ∧
     (∀ y ∈ acc, objR ρ w (ρ1 y.2.1) y.2.2 ∧ (∀ g, objAt (ρ1 y.2.1) y.2.2 g → wB.heap.size ≤ g ∨ y.2.2.kd = .ro false)) := by
   intro a w hX hE
   have hy : ∀ y ∈ acc, ∃ p, objR ρ w p y.2.2 ∧ (∀ g, objAt p y.2.2 g → wB.heap.size ≤ g ∨ y.2.2.kd = .ro false) ∧ ∀ x, st.fr.lookup y.1 = some x → avR (upd ρ y.2.1 p) x.av (a.tmps.getD y.1 undef) := by
    intro y hy
    rw [← hacc] at hy
    obtain ⟨x, h1, h2, h3⟩ := nws_mem hy
    obtain ⟨h4, h5⟩ := opF_lk h2
    have := hE y.1 x h5 h4
    unfold feR at this
    rw [h3] at this
    obtain ⟨p, g1, g2, g3⟩ := this
    exact ⟨p, g1, g2, fun x' hx' => by rw [h4] at hx'; injection hx' with hx'; subst hx'; exact g3⟩
   have hch : ∃ f : Nat × Nat × Oj → Pl, ∀ y ∈ acc, objR ρ w (f y) y.2.2 ∧ (∀ g, objAt (f y) y.2.2 g → wB.heap.size ≤ g ∨ y.2.2.kd = .ro false) ∧ ∀ x, st.fr.lookup y.1 = some x → avR (upd ρ y.2.1 (f y)) x.av (a.tmps.getD y.1 undef) :=
    by classical exact ⟨fun y => if hy' : y ∈ acc then (hy y hy').choose else (pl4 none 0 0 0), fun y hy' => by simp only [dif_pos hy']; exact (hy y hy').choose_spec⟩
   obtain ⟨f, hf⟩ := hch
   let ρ1 : Pls := fun j => if j < s0.H.length then ρ j else match acc.find? (fun z => Nat.beq z.2.1 j) with | some y => f y | none => ρ j
   have h1 : ∀ j, j < s0.H.length → ρ1 j = ρ j := fun j hj => if_pos hj
   have hge : ∀ y ∈ acc, s0.H.length ≤ y.2.1 ∧ y.2.1 < st.cnt ∧ okOb s0.H.length y.2.2 = true := by
    intro y hy'
    rw [← hacc] at hy'
    obtain ⟨x, _, h2, h3⟩ := nws_mem hy'
    obtain ⟨h4, _⟩ := opF_lk h2
    have := hok.2 y.1 x h4
    rw [h3] at this
    exact ⟨this.1, this.2.1, this.2.2.1⟩
   have h2 : ∀ y ∈ acc, ρ1 y.2.1 = f y := fun y hy' => by
    show (if y.2.1 < s0.H.length then _ else _) = _
    rw [if_neg (by have := (hge y hy').1; omega), find_ids hnd hy']
   refine ⟨ρ1, h1, fun j ob hj => ?_, fun x av hx => ?_, fun y hy' => by rw [h2 y hy']; exact ⟨(hf y hy').1, (hf y hy').2.1⟩⟩
   ·by_cases hlt : j < s0.H.length
    ·rw [List.getElem?_append_left hlt] at hj
     rw [h1 j hlt]
     exact objR_lt h1 (fun hk => ltH_ok (okS_ok hs).2.2 j ob hj hk) (objR_ext (hhp j ob hj) hX)
    ·rw [List.getElem?_append_right (by omega)] at hj
     have := padN_at acc s0.H.length hj
     rw [show s0.H.length + (j - s0.H.length) = j by omega] at this
     unfold atN at this
     split at this
     ·rename_i y hfy
      have hmem := List.mem_of_find?_eq_some hfy
      have hb := List.find?_some hfy
      have e := Nat.eq_of_beq_eq_true hb
      subst this
      rw [← e, h2 y hmem]
      have hob := (hge y hmem).2.2
      unfold okOb at hob
      simp only [Bool.and_eq_true] at hob
      exact objR_p (q := ltq s0.H.length) (fun i hi => h1 i (by unfold ltq at hi; simpa using hi)) hob.1 (hf y hmem).1
     ·subst this; exact True.intro
   ·cases x with
    | const c => exact cv_ok hx _
    | func f => injection hx with hx; subst hx; rfl
    | global gg => exact ltA_ok (m := s0.H.length) h1 (ltF_ok (okS_ok hs).2.1 gg av (glk_ok hx hgl).1) (glk_ok hx hgl).2
    | tmp t =>
     simp only [aeN] at hx
     split at hx
     ·rename_i y hy'
      injection hx with hx; subst hx
      obtain ⟨h4, h5⟩ := opF_lk hy'
      have he := hE t y h5 h4
      have hk := hok.2 t y h4
      show avR ρ1 y.av (a.tmps.getD t undef)
      unfold feR at he
      cases hn : y.nw with
      | none =>
       rw [hn] at he hk
       exact pA_ok (q := ltq s0.H.length) (fun i hi => h1 i (by unfold ltq at hi; simpa using hi)) hk he
      | some io =>
       obtain ⟨i, ob⟩ := io
       rw [hn] at hk
       have hm : (t, i, ob) ∈ acc := by rw [← hacc]; exact nws_has hy' hn _ h5
       have h6 := (hf _ hm).2.2 y h4
       refine pA_ok (q := ltq1 s0.H.length i) (fun j hj => ?_) hk.2.2.2.1 h6
       unfold ltq1 at hj
       simp only [Bool.or_eq_true, decide_eq_true_eq] at hj
       rcases hj with hj | hj
       ·rw [h1 j hj]; exact (upd_lt (ρ := ρ) (m := i) j (by have := hk.1; omega)).symm
       ·have e := Nat.eq_of_beq_eq_true hj
        subst e
        rw [h2 _ hm]; exact upd_at.symm
     ·cases hx
  have hlow : ∀ {ρ1 : Pls}, (∀ j, j < s0.H.length → ρ1 j = ρ j) → ∀ j, ltq s0.H.length j = true → ρ j = ρ1 j := fun h1 j hj => (h1 j (by unfold ltq at hj; simpa using hj)).symm
  have h1q : ∀ {i : Nat} {ρ1 : Pls} {p : Pl}, s0.H.length ≤ i → (∀ j, j < s0.H.length → ρ1 j = ρ j) → ρ1 i = p → ∀ j, ltq1 s0.H.length i j = true → upd ρ i p j = ρ1 j := fun hi h1 hp j hj => by
   unfold ltq1 at hj
   simp only [Bool.or_eq_true, decide_eq_true_eq] at hj
   rcases hj with hj | hj
   ·rw [h1 j hj, upd_lt j (by omega)]
   ·have e := Nat.eq_of_beq_eq_true hj
    subst e; rw [upd_at, hp]
  have accOk : ∀ y ∈ acc, s0.H.length ≤ y.2.1 ∧ y.2.1 < st.cnt ∧ okOb s0.H.length y.2.2 = true ∧ (y.2.2.kd = .ro false → st.dm = true) := by
   intro y hy'
   rw [← hacc] at hy'
   obtain ⟨x, _, h2, h3⟩ := nws_mem hy'
   obtain ⟨h4, _⟩ := opF_lk h2
   have := hok.2 y.1 x h4
   rw [h3] at this
   exact ⟨this.1, this.2.1, this.2.2.1, this.2.2.2.2⟩
  have newOk : ∀ (z : AV) (l : List (Nat × Nat × Oj)) (nw : Option (Nat × Oj)), newOf s0.H.length z l = some nw → match nw with | none => pA (ltq s0.H.length) z = true | some (i, ob) => pA (ltq1 s0.H.length i) z = true ∧ ∃ t, (t, i, ob) ∈ l := by
   intro z l
   induction l with
   | nil =>
    intro nw hn
    simp only [newOf] at hn
    split at hn
    ·injection hn with hn; subst hn; assumption
    ·cases hn
   | cons y l ih =>
    intro nw hn
    simp only [newOf] at hn
    split at hn
    ·injection hn with hn; subst hn; assumption
    ·split at hn
     ·rename_i hp
      injection hn with hn; subst hn
      exact ⟨hp, y.1, List.mem_cons_self⟩
     ·have := ih nw hn
      cases nw with
      | none => exact this
      | some io => obtain ⟨i, ob⟩ := io; exact ⟨this.1, this.2.imp fun t ht => List.mem_cons_of_mem _ ht⟩
  split at h
  ·rename_i g' z hv
   split at h
   ·rename_i nw hnw
    injection h with h; simp only [Prod.mk.injEq] at h; obtain ⟨rfl, rfl, rfl, rfl⟩ := h
    have hno := newOk z acc nw hnw
    refine ⟨⟨Nat.le_refl _, fun h => h, ?_⟩, fun a w hX hE => ?_⟩
    ·cases nw with
     | none => exact hno
     | some io =>
      obtain ⟨i, ob⟩ := io
      obtain ⟨h1, t, ht⟩ := hno
      obtain ⟨k1, k2, k3, k4⟩ := accOk _ ht
      exact ⟨k1, k2, k3, h1, k4⟩
    ·obtain ⟨ρ1, h1, hH, hae, hal⟩ := place a w hX hE
     obtain ⟨u, hr, hu⟩ := vop_ok hT hH hae hv hg dst ty pos aft gd
     unfold Oper.wp
     rw [hr]
     refine ⟨u, rfl, Below.refl _ _, ?_⟩
     unfold feR
     cases nw with
     | none => exact pA_ok (hlow h1) hno hu
     | some io =>
      obtain ⟨i, ob⟩ := io
      obtain ⟨h3, t, ht⟩ := hno
      obtain ⟨k1, k2, k3, k4⟩ := accOk _ ht
      exact ⟨ρ1 i, (hal _ ht).1, (hal _ ht).2, pA_ok (h1q k1 h1 rfl) h3 hu⟩
   ·cases h
  ·split at h
   ·rename_i g' b ob ha
    split at h
    ·rename_i hob
     injection h with h; simp only [Prod.mk.injEq] at h; obtain ⟨rfl, rfl, rfl, rfl⟩ := h
     have hob' := hob
     unfold okOb at hob'
     simp only [Bool.and_eq_true] at hob'
     have hkr : ob.kd ≠ .ro false := aop_kd ha
     refine ⟨⟨Nat.le_succ _, fun h => h, hmc, Nat.lt_succ_self _, hob, ?_, fun e => absurd e hkr⟩, fun a w hX hE => ?_⟩
     ·cases b <;> simp [pA, pC, ltq1]
     ·obtain ⟨ρ1, h1, hH, hae, hal⟩ := place a w hX hE
      obtain ⟨u, w', p, hr, hgr, hn1, hn2, hn3, hn4⟩ := aop_ok (w := w) hT hae ha hg dst pos aft gd
      unfold Oper.wp
      rw [hr]
      refine ⟨u, rfl, grown_ext hgr, p, objR_p (hlow h1) hob'.1 hn1, fun g hat => .inl (Nat.le_trans hX.size (hn2 g hat)), ?_⟩
      cases b with
      | true =>
       obtain ⟨k1, ad, k2, rfl⟩ := hn3 rfl
       show clR _ (.pt _ 0) _
       exact ⟨by rw [upd_at]; exact k1, ad, by rw [upd_at]; exact k2, by simp [Addr.add]⟩
      | false =>
       show clR _ (.wh _) _
       simp only [clR, upd_at]
       exact hn4 rfl
    ·cases h
   ·rename_i hv1 _ hv2
    clear hv1 hv2
    cases op with
    | call c =>
     obtain ⟨callee, args, argTypes⟩ := c
     cases callee with
     | value fo =>
      cases fo with
      | func f =>
       simp only at h
       split at h
       ·rename_i F vs hf hvs
        obtain ⟨hct, fn, hfn, hname, hbody⟩ := hF.p hf
        split at h
        ·rename_i g' av objs hFr
         have hrun : ∀ (a : Act) (w : World), (execOp a.eval ⟨dst, .call { callee := .value (.func f), args := args, argTypes := argTypes }, ty, pos, aft, gd⟩).run P w = .ok (.enter f (args.toList.map a.eval).toArray) w := by
          intro a w
          have hname' : ¬ fn.name = "runtime.NumGoroutine" := by simpa using hname
          have hb' : ¬ fn.body = none := fun h0 => by rw [h0] at hbody; cases hbody
          have e : (args.toList.map a.eval).toArray = args.map a.eval := by apply Array.ext'; simp
          rw [e]
          simp [execOp, resolve, invoke, callFunc, Deferred.ofValue, Act.eval, hfn, hname', hb']
         split at h
         ·split at h
          ·rename_i hp
           injection h with h; simp only [Prod.mk.injEq] at h; obtain ⟨rfl, rfl, rfl, rfl⟩ := h
           refine ⟨⟨Nat.le_refl _, fun h => h, hp⟩, fun a w hX hE => ?_⟩
           obtain ⟨ρ1, h1, hH, hae, hal⟩ := place a w hX hE
           have hc := hct vs _ _ av [] hFr hg ρ1 w (args.toList.map a.eval) hX hH (evs_ok hae hvs)
           unfold Oper.wp
           rw [hrun]
           refine hc.mono fun e w' ⟨v, he, hx, ps, hL⟩ => ?_
           subst he
           refine ⟨v, rfl, hx, ?_⟩
           show avR ρ av v
           refine pA_ok (q := ltq s0.H.length) (fun j hj => ?_) hp hL.val
           unfold ltq at hj
           simp only [decide_eq_true_eq] at hj
           rw [updL_lt j (by rw [hHl]; omega), h1 j hj]
          ·cases h
         ·rename_i ob
          split at h
          ·rename_i hp
           simp only [Bool.and_eq_true] at hp
           have hob := hp.1
           unfold okOb at hob
           simp only [Bool.and_eq_true] at hob
           injection h with h; simp only [Prod.mk.injEq] at h; obtain ⟨rfl, rfl, rfl, rfl⟩ := h
           refine ⟨⟨Nat.le_succ _, fun h => by rw [h]; rfl, hmc, Nat.lt_succ_self _, hp.1, hp.2, fun e => by simp [hasRo, e]⟩, fun a w hX hE => ?_⟩
           obtain ⟨ρ1, h1, hH, hae, hal⟩ := place a w hX hE
           have hc := hct vs _ _ av [ob] hFr hg ρ1 w (args.toList.map a.eval) hX hH (evs_ok hae hvs)
           unfold Oper.wp
           rw [hrun]
           refine hc.mono fun e w' ⟨v, he, hx, ps, hL⟩ => ?_
           subst he
           obtain ⟨p, rfl⟩ : ∃ p, ps = [p] := by
            have := hL.len
            cases ps with
            | nil => simp at this
            | cons p l => cases l with
             | nil => exact ⟨p, rfl⟩
             | cons _ _ => simp at this
           have hU : ∀ j, j < s0.H.length → updL ρ1 (s0.H ++ padN acc s0.H.length (st.cnt - s0.H.length)).length [p] j = ρ j := fun j hj => by
            rw [updL_lt j (by rw [hHl]; omega), h1 j hj]
           refine ⟨v, rfl, hx, p, objR_p (hlow hU) hob.1 (hL.obj 0 ob p rfl rfl), fun g hat => ?_, ?_⟩
           ·rcases hL.place 0 ob p g rfl rfl hat with h5 | h5
            ·exact .inl (Nat.le_trans hX.size h5)
            ·rcases h5 with h5 | h5
             ·exact .inr h5
             ·rw [h5] at hob; exact absurd hob.2 Bool.false_ne_true
           ·refine pA_ok (h1q hmc hU ?_) hp.2 hL.val
            have := updL_at (ρ := ρ1) (m := (s0.H ++ padN acc s0.H.length (st.cnt - s0.H.length)).length) (ps := [p]) (k := 0) (p := p) rfl
            rw [Nat.add_zero, hHl] at this
            rw [hHl]; exact this
          ·cases h
         ·cases h
        ·cases h
       ·cases h
      | _ => simp at h
     | _ => simp at h
    | _ => simp at h
end
end Go.Sx
end
section
namespace Go.Sx
open Go.RowKit Go.Ch
section
variable {P : Program} {T : Tab} {ft : Nat → FT} {ρ ρ' : Pls} {w w' : World} {bs : Bs} {w0 wB : World} {s s' : S} {a : Act} {N m : Nat}
def stA2 (T : Tab) (ft : Nat → FT) (N : Nat) (asm : List (Nat × Bool)) (s0 : S) (i : Nat) (o : Oper) (st : Ns) : Option (List Prop × Fe × Nat × Bool) := match dOk N o.dst, stN T (ft i) s0 st o with
 | true, some (g, x, c, d) => (match asm.lookup i with
  | none => some (g, x, c, d)
  | some bv => match x with
   | ⟨.c (.s (.b e)), none⟩ => some (g ++ [e = bv], ⟨.c (.s (.b bv)), none⟩, c, d)
   | _ => none)
 | _, _ => none
def bOf : AV → Option (Option Bool)
 | .c c => (match c with | .s x => (match x with | .b b => some (some b) | _ => none) | _ => none)
 | .t xs => (match xs with | [] => some none | _ => none)
 | .g _ _ => none
def feB (x : Fe) : Option (Option Bool) := match x.nw with | some _ => none | none => bOf x.av
theorem feB_b {x : Fe} {b : Bool} (h : feB x = some (some b)) : x = ⟨.c (.s (.b b)), none⟩ := by
 obtain ⟨av, nw⟩ := x
 cases nw with
 | some _ => cases h
 | none =>
  have h' : bOf av = some (some b) := h
  cases av with
  | c c => cases c with
   | s x => cases x with
    | b b' => injection h' with h'; injection h' with h'; subst h'; rfl
    | _ => cases h'
   | _ => cases h'
  | g n cs => cases h'
  | t xs => cases xs with
   | nil => injection h' with h'; cases h'
   | cons y ys => cases h'
theorem feB_u {x : Fe} (h : feB x = some none) : x = ⟨.t [], none⟩ := by
 obtain ⟨av, nw⟩ := x
 cases nw with
 | some _ => cases h
 | none =>
  have h' : bOf av = some none := h
  cases av with
  | c c => cases c with
   | s x => cases x with
    | b b' => injection h' with h'; cases h'
    | _ => cases h'
   | _ => cases h'
  | g n cs => cases h'
  | t xs => cases xs with
   | nil => rfl
   | cons y ys => cases h'
def stG2 (T : Tab) (ft : Nat → FT) (N : Nat) (ops : Array Oper) (asm : List (Nat × Bool)) (s0 : S) (i : Nat) (o : Oper) (st : Ns) : Option (Option (List Prop × Fe × Nat × Bool)) := match o.guard with
 | none => (match stA2 T ft N asm s0 i o st with | some r => some (some r) | none => none)
 | some (j, want) => match (ops[j]?).bind (·.dst) with
  | none => none
  | some dj => match st.fr.lookup dj with
   | some x => (match feB x with
    | some (some b) => (match b == want with
     | true => (match stA2 T ft N asm s0 i o st with | some r => some (some r) | none => none)
     | false => some none)
    | some none => some none
    | none => none)
   | none => none
def frN (T : Tab) (ft : Nat → FT) (N : Nat) (ops : Array Oper) (asm : List (Nat × Bool)) (s0 : S) : Nat → List Oper → Ns → Option (List Prop × Ns)
 | _, [], st => some ([], st)
 | i, o :: rest, st => match stG2 T ft N ops asm s0 i o st with
  | none => none
  | some none => (match dOk N o.dst with | true => frN T ft N ops asm s0 (i + 1) rest ⟨putN st.fr o.dst ⟨.t [], none⟩, st.cnt, st.dm⟩ | false => none)
  | some (some (g, x, c, d)) => match frN T ft N ops asm s0 (i + 1) rest ⟨putN st.fr o.dst x, c, d⟩ with
   | none => none
   | some (g2, st2) => some (g ++ g2, st2)
def FrE (ρ : Pls) (wB : World) (st : Ns) (a : Act) (w : World) : Prop := ∀ t x, st.fr.lookup t = some x → feR ρ wB x (a.tmps.getD t undef) w
theorem lkF {fr : FrN} {d t : Nat} {x : Fe} (h : (fr.filter (fun p => !(p.1 == d))).lookup t = some x) : fr.lookup t = some x ∧ t ≠ d := by
 induction fr with
 | nil => simp at h
 | cons q fr ih =>
  obtain ⟨k, z⟩ := q
  rw [List.filter_cons] at h
  split at h
  ·rename_i hk
   have hkd : k ≠ d := by simpa using hk
   rw [List.lookup_cons] at h ⊢
   split at h
   ·rename_i e
    have : t = k := by simpa using e
    subst this
    exact ⟨h, hkd⟩
   ·exact ih h
  ·rename_i hk
   have hkd : k = d := by simpa using hk
   obtain ⟨h1, h2⟩ := ih h
   refine ⟨?_, h2⟩
   rw [List.lookup_cons]
   split
   ·rename_i e
    have : t = k := by simpa using e
    subst this; exact absurd hkd h2
   ·exact h1
theorem lkPut {fr : FrN} {d : Option Nat} {t : Nat} {x y : Fe} (h : (putN fr d x).lookup t = some y) : (d = some t ∧ y = x) ∨ (d ≠ some t ∧ fr.lookup t = some y) := by
 cases d with
 | none => exact .inr ⟨by simp, h⟩
 | some d =>
  simp only [putN, List.lookup_cons] at h
  split at h
  ·rename_i e
   have : t = d := by simpa using e
   subst this
   injection h with h; exact .inl ⟨rfl, h.symm⟩
  ·obtain ⟨h1, h2⟩ := lkF h
   exact .inr ⟨by simpa using fun e => h2 e.symm, h1⟩
theorem stA2_ok (hT : TabOk P T) (hF : ∀ i, FtOk P (Ext wB) (ft i)) {asm : List (Nat × Bool)} {s0 : S} (hs : okS s0 = true) (hgl : GlR bs ρ s0.gl) (hhp : HpR ρ wB s0.H) {st : Ns} (hok : OkN s0.H.length st) {i : Nat} {o : Oper} {g : List Prop} {x : Fe} {c : Nat} {d : Bool} (h : stA2 T ft N asm s0 i o st = some (g, x, c, d)) (hg : allP g) :
  dOk N o.dst = true ∧ (st.cnt ≤ c ∧ (st.dm = true → d = true) ∧ (match x.nw with | none => pA (ltq s0.H.length) x.av = true | some (i, ob) => s0.H.length ≤ i ∧ i < c ∧ okOb s0.H.length ob = true ∧ pA (ltq1 s0.H.length i) x.av = true ∧ (ob.kd = .ro false → d = true))) ∧
  ∀ (a : Act) (w : World), Ext wB w → (∀ t y, Operand.tmp t ∈ o.op.operands.toList → st.fr.lookup t = some y → feR ρ wB y (a.tmps.getD t undef) w) →
   o.wp P a w (fun a' w' => ∃ v, a' = a.put o.dst v ∧ Ext w w' ∧ feR ρ wB x v w') (fun _ _ _ => False) := by
 unfold stA2 at h
 split at h
 ·rename_i g1 x1 c1 d1 hd h1
  refine ⟨hd, ?_⟩
  split at h
  ·injection h with h; simp only [Prod.mk.injEq] at h; obtain ⟨rfl, rfl, rfl, rfl⟩ := h
   exact stN_ok hT (hF i) hs hgl hhp hok h1 hg
  ·split at h
   ·rename_i bv _ e
    injection h with h; simp only [Prod.mk.injEq] at h; obtain ⟨rfl, rfl, rfl, rfl⟩ := h
    obtain ⟨ga, gb⟩ := allP_append.1 hg
    simp only [allP] at gb
    have := stN_ok hT (hF i) hs hgl hhp hok h1 ga
    rw [gb] at this
    exact this
   ·cases h
 ·cases h
def frI (fr : Fr) : FrN := fr.map fun p => (p.1, ⟨p.2, none⟩)
theorem frI_lk {fr : Fr} {t : Nat} {x : Fe} (h : (frI fr).lookup t = some x) : x.nw = none ∧ fr.lookup t = some x.av := by
 induction fr with
 | nil => simp [frI] at h
 | cons q fr ih =>
  obtain ⟨k, z⟩ := q
  simp only [frI, List.map_cons, List.lookup_cons] at h ⊢
  split at h
  ·injection h with h; subst h; exact ⟨rfl, rfl⟩
  ·exact ih h
theorem RW_fr (hT : TabOk P T) (hF : ∀ i, FtOk P (Ext wB) (ft i)) {asm : List (Nat × Bool)} {s0 : S} (hs : okS s0 = true) (hgl : GlR bs ρ s0.gl) (hhp : HpR ρ wB s0.H) {ops : Array Oper} {Q' : Act → World → Prop} {st' : Ns} (l : List Oper) :
  ∀ (i : Nat) (st : Ns) (E : Nat → Pred) (K : List (Option Tmp × Pred) → Prop) (g : List Prop), frN T ft N ops asm s0 i l st = some (g, st') → allP g → OkN s0.H.length st →
   (∀ t x, st.fr.lookup t = some x → ∀ v w, Ext wB w → E t v w → feR ρ wB x v w) →
   (∀ a w, Ext wB w → a.tmps.size = N → a.defers = [] → OkN s0.H.length st' → FrE ρ wB st' a w → Q' a w) →
   (∀ L, (∀ a w, Ext wB w → a.tmps.size = N → a.defers = [] → FrE ρ wB st a w → Fin Q' L a w) → K L) → RW P ops Ext wB l E K := by
 induction l with
 | nil =>
  intro i st E K g h hg hok _ hQ hK
  injection h with h; simp only [Prod.mk.injEq] at h; obtain ⟨rfl, rfl⟩ := h
  exact hK [] fun a w h1 h2 h3 h4 => hQ a w h1 h2 h3 hok h4
 | cons o rest ih =>
  intro i st E K g h hg hok hE hQ hK
  simp only [frN] at h
  have look : ∀ {t : Nat} {x : Fe}, st.fr.lookup t = some x → ∀ {a : Act} {w : World}, Ext wB w → t ∈ o.looksAt ops → (∀ t ∈ o.looksAt ops, E t (a.tmps.getD t undef) w) → feR ρ wB x (a.tmps.getD t undef) w :=
   fun hx _ _ hX ht hEa => hE _ _ hx _ _ hX (hEa _ ht)
  have opLook : ∀ {t : Nat}, Operand.tmp t ∈ o.op.operands.toList → t ∈ o.looksAt ops := fun hx => List.mem_append_left _ (List.mem_filterMap.2 ⟨.tmp _, by simpa using hx, rfl⟩)
  have gLook : ∀ {j : Nat} {want : Bool} {dj : Nat}, o.guard = some (j, want) → (ops[j]?).bind (·.dst) = some dj → dj ∈ o.looksAt ops := fun hgd hd => by
   unfold Oper.looksAt; rw [hgd]; simp [hd]
  have wnt : ∀ {j : Nat} {want b : Bool} {dj : Nat}, o.guard = some (j, want) → (ops[j]?).bind (·.dst) = some dj → st.fr.lookup dj = some ⟨.c (.s (.b b)), none⟩ → ∀ {a : Act} {w : World}, Ext wB w → (∀ t ∈ o.looksAt ops, E t (a.tmps.getD t undef) w) → Region.wanted o (yielded ops a.tmps) = (b == want) := fun hgd hd hb _ _ hX hEa =>
   wanted_b hgd hd (look hb hX (gLook hgd hd) hEa)
  have skipC : dOk N o.dst = true → (∀ (a : Act) (w : World), Ext wB w → (∀ t ∈ o.looksAt ops, E t (a.tmps.getD t undef) w) → Region.wanted o (yielded ops a.tmps) = false) →
    frN T ft N ops asm s0 (i + 1) rest ⟨putN st.fr o.dst ⟨.t [], none⟩, st.cnt, st.dm⟩ = some (g, st') → RW P ops Ext wB (o :: rest) E K := fun hdk hw h1 => by
   refine ⟨fun v _ => v = undef, fun _ _ _ _ h => h, fun a w hX _ hEa => ?_, ih (i + 1) _ _ _ _ h1 hg ⟨hok.1, fun t x hx => ?_⟩ (fun t x hx v w hX hv => ?_) hQ (fun L hL => hK _ fun a w hX hn hd hFr => fun v hv => hL _ w hX (by rw [put_size]; exact hn) (by rw [put_defers]; exact hd) fun t x hx => ?_)⟩
   ·rw [hw a w hX hEa]
    have e : ¬ (false = true) := fun h => Bool.noConfusion h
    rw [if_neg e]
   ·rcases lkPut hx with ⟨_, rfl⟩ | ⟨_, h2⟩
    ·rfl
    ·exact hok.2 t x h2
   ·unfold Go.Ch.upd at hv
    rcases lkPut hx with ⟨hd, rfl⟩ | ⟨h2, h3⟩
    ·rw [hd] at hv
     have e : (if t = t then (fun v _ => v = undef) else E t) v w := hv
     rw [if_pos rfl] at e
     exact ⟨[], F2.nil, e⟩
    ·refine hE t x h3 v w hX ?_
     cases hd : o.dst with
     | none => rw [hd] at hv; exact hv
     | some d => rw [hd] at hv h2; have e : (if t = d then (fun v _ => v = undef) else E t) v w := hv; rw [if_neg (fun e => h2 (by rw [e]))] at e; exact e
   ·rcases lkPut hx with ⟨hd2, rfl⟩ | ⟨h2, h3⟩
    ·rw [hd2] at hdk ⊢
     rw [getD_put_same a v t (by have := dOk_ok hdk hn t rfl; exact this)]
     exact ⟨[], F2.nil, hv⟩
    ·rw [getD_put_other a o.dst v t h2]
     exact hFr t x h3
  have doC : ∀ {g1 g2 : List Prop} {x1 : Fe} {c1 : Nat} {d1 : Bool}, stA2 T ft N asm s0 i o st = some (g1, x1, c1, d1) → g = g1 ++ g2 → (∀ (a : Act) (w : World), Ext wB w → (∀ t ∈ o.looksAt ops, E t (a.tmps.getD t undef) w) → Region.wanted o (yielded ops a.tmps) = true) →
    frN T ft N ops asm s0 (i + 1) rest ⟨putN st.fr o.dst x1, c1, d1⟩ = some (g2, st') → RW P ops Ext wB (o :: rest) E K := fun {g1 g2 x1 c1 d1} hA hge hw h1 => by
   subst hge
   obtain ⟨ga, gb⟩ := allP_append.1 hg
   obtain ⟨hdk, ⟨k1, k2, k3⟩, hwp⟩ := stA2_ok hT hF hs hgl hhp hok hA ga
   refine ⟨fun v w => feR ρ wB x1 v w, fun _ _ _ hX h => feR_ext hX h, fun a w hX _ hEa => ?_, ih (i + 1) _ _ _ _ h1 gb ⟨Nat.le_trans hok.1 k1, fun t x hx => ?_⟩ (fun t x hx v w hX hv => ?_) hQ (fun L hL => hK _ fun a w hX hn hd hFr => fun v hv => hL _ w hX (by rw [put_size]; exact hn) (by rw [put_defers]; exact hd) fun t x hx => ?_)⟩
   ·rw [hw a w hX hEa]
    rw [if_pos rfl]; exact hwp a w hX (fun t y hop hy => look hy hX (opLook hop) hEa)
   ·rcases lkPut hx with ⟨_, rfl⟩ | ⟨_, h2⟩
    ·exact k3
    ·have := hok.2 t x h2
     cases hn : x.nw with
     | none => rw [hn] at this; exact this
     | some io => obtain ⟨i', ob⟩ := io; rw [hn] at this; exact ⟨this.1, Nat.lt_of_lt_of_le this.2.1 k1, this.2.2.1, this.2.2.2.1, fun e => k2 (this.2.2.2.2 e)⟩
   ·unfold Go.Ch.upd at hv
    rcases lkPut hx with ⟨hd, rfl⟩ | ⟨hd, h2⟩
    ·rw [hd] at hv
     have e : (if t = t then (fun v w => feR ρ wB x v w) else E t) v w := hv
     rw [if_pos rfl] at e
     exact e
    ·refine hE t x h2 v w hX ?_
     cases hd2 : o.dst with
     | none => rw [hd2] at hv; exact hv
     | some d => rw [hd2] at hv hd; have e : (if t = d then (fun v w => feR ρ wB x1 v w) else E t) v w := hv; rw [if_neg (fun e => hd (by rw [e]))] at e; exact e
   ·rcases lkPut hx with ⟨hd2, rfl⟩ | ⟨hd2, h2⟩
    ·rw [hd2] at hdk ⊢
     rw [getD_put_same a v t (by have := dOk_ok hdk hn t rfl; exact this)]
     exact hv
    ·rw [getD_put_other a o.dst v t hd2]
     exact hFr t x h2
  split at h
  ·cases h
  ·rename_i hG
   split at h
   ·rename_i hdk
    unfold stG2 at hG
    split at hG
    ·split at hG <;> cases hG
    ·rename_i j want hgd
     split at hG
     ·cases hG
     ·rename_i dj hdj
      split at hG
      ·rename_i xq hxq
       split at hG
       ·rename_i b hb0
        have hb := hxq
        rw [feB_b hb0] at hb
        split at hG
        ·split at hG <;> cases hG
        ·rename_i hbw
         exact skipC hdk (fun a w hX hEa => by rw [wnt hgd hdj hb hX hEa]; exact hbw) h
       ·rename_i hb0
        have hb := hxq
        rw [feB_u hb0] at hb
        exact skipC hdk (fun a w hX hEa => wanted_u hgd hdj (undef_of (look hb hX (gLook hgd hdj) hEa))) h
       ·cases hG
      ·cases hG
   ·cases h
  ·rename_i g1 x1 c1 d1 hG
   split at h
   ·cases h
   ·rename_i g2 st2 h2
    injection h with h; simp only [Prod.mk.injEq] at h; obtain ⟨rfl, rfl⟩ := h
    unfold stG2 at hG
    split at hG
    ·rename_i hgd
     split at hG
     ·rename_i r hr
      injection hG with hG; injection hG with hG; subst hG
      exact doC hr rfl (fun a w _ _ => by unfold Region.wanted; rw [hgd]) h2
     ·cases hG
    ·rename_i j want hgd
     split at hG
     ·cases hG
     ·rename_i dj hdj
      split at hG
      ·rename_i xq hxq
       split at hG
       ·rename_i b hb0
        have hb := hxq
        rw [feB_b hb0] at hb
        split at hG
        ·rename_i hbw
         split at hG
         ·rename_i r hr
          injection hG with hG; injection hG with hG; subst hG
          exact doC hr rfl (fun a w hX hEa => by rw [wnt hgd hdj hb hX hEa]; exact hbw) h2
         ·cases hG
        ·cases hG
       ·cases hG
       ·cases hG
      ·cases hG
def ap2 (o o' : Oj) : Bool := (!o.own && !o'.own) || (o.wr && o'.wr && !(Nat.beq o.e o'.e))
def ap1 (o : Oj) : List Oj → Bool
 | [] => true
 | x :: l => ap2 o x && ap1 o l
def apL : List Oj → Bool
 | [] => true
 | o :: l => ap1 o l && apL l
theorem ap1_ok {o : Oj} : ∀ {l : List Oj}, ap1 o l = true → ∀ (k : Nat) (x : Oj), l[k]? = some x → ap2 o x = true
 | [], _, k, x, h => by simp at h
 | y :: l, h, k, x, hx => by
  simp only [ap1, Bool.and_eq_true] at h
  cases k with
  | zero => simp at hx; subst hx; exact h.1
  | succ k => exact ap1_ok h.2 k x (by simpa using hx)
theorem apL_ok : ∀ {l : List Oj}, apL l = true → ∀ (i j : Nat) (x y : Oj), i < j → l[i]? = some x → l[j]? = some y → ap2 x y = true
 | [], _, i, j, x, y, _, h, _ => by simp at h
 | z :: l, h, i, j, x, y, hij, hx, hy => by
  simp only [apL, Bool.and_eq_true] at h
  cases j with
  | zero => omega
  | succ j =>
   cases i with
   | zero => simp at hx; subst hx; exact ap1_ok h.1 j y (by simpa using hy)
   | succ i => exact apL_ok h.2 i j x y (by omega) (by simpa using hx) (by simpa using hy)
theorem ap_sep {p p' : Pl} {o o' : Oj} {g : Nat} (h : ap2 o o' = true) (h1 : objR ρ w p o) (h2 : objR ρ' w p' o') (ho : o.own = true ∨ o'.own = true) (hat : objAt p o g) (hat' : objAt p' o' g) : False := by
 unfold ap2 at h
 simp only [Bool.or_eq_true, Bool.and_eq_true, Bool.not_eq_true'] at h
 rcases h with ⟨ha, hb⟩ | ⟨⟨ha, hb⟩, hc⟩
 ·rcases ho with e | e
  ·rw [e] at ha; cases ha
  ·rw [e] at hb; cases hb
 ·have blk : ∀ {ρ : Pls} {p : Pl} {o : Oj}, objR ρ w p o → o.wr = true → objAt p o g → ∃ cur, w.heap[g]? = some (.cells cur o.e (0, 0)) := by
   intro ρ p o hr hown hat
   obtain ⟨ad, hA, hg⟩ : ∃ ad, p.A = some ad ∧ ad.block = g := by
    unfold objAt at hat
    unfold Oj.wr at hown
    cases hk : o.kd with
    | dead => rw [hk] at hown; cases hown
    | ro _ => rw [hk] at hown; cases hown
    | od => rw [hk] at hown; cases hown
    | og => rw [hk] at hown; cases hown
    | row => simpa [hk] using hat
    | blk => simpa [hk] using hat
    | dp fs => rw [hk] at hown; cases hown
    | gs fs => rw [hk] at hown; cases hown
   obtain ⟨vs, g', cur, _, rfl, hh, _⟩ := own_block hr hown hA
   simp only at hg
   subst hg
   exact ⟨cur, hh⟩
  obtain ⟨c1, e1⟩ := blk h1 ha hat
  obtain ⟨c2, e2⟩ := blk h2 hb hat'
  rw [e1] at e2
  injection e2 with e2
  injection e2 with _ e3
  rw [e3, Nat.beq_refl] at hc
  cases hc
def demK (b : Bool) (o : Oj) : Oj := match b, o.kd with
 | true, .row => ⟨.ro true, o.e, o.sz, o.n, o.cs⟩
 | true, .blk => ⟨.dead, o.e, o.sz, o.n, o.cs⟩
 | _, _ => o
theorem demK_cs (b : Bool) (o : Oj) : (demK b o).cs = o.cs := by unfold demK; split <;> rfl
theorem demK_ok {b : Bool} {o : Oj} {p : Pl} (h : objR ρ w p o) : objR ρ w p (demK b o) := by
 unfold demK
 split
 ·rename_i hk
  have h1 := h.slc (.inr (.inl hk))
  obtain ⟨h2, h3⟩ := h.read (by rw [hk]; simp)
  exact ⟨h2, h1, h3⟩
 ·exact True.intro
 ·exact h
theorem demK_at {b : Bool} {o : Oj} {p : Pl} {g : Nat} (h : objAt p (demK b o) g) : objAt p o g := by
 unfold demK at h
 split at h
 ·rename_i hk
  unfold objAt at h ⊢
  simp only [hk] at h ⊢
  exact h.2
 ·exact absurd h (fun e => e)
 ·exact h
theorem demK_ro {b : Bool} {o : Oj} (h : (demK b o).kd = .ro false) : o.kd = .ro false := by
 unfold demK at h
 split at h
 ·cases h
 ·cases h
 ·exact h
def objsN (m j i : Nat) : List Nat := List.range m ++ List.replicate j (i + 1) ++ [i]
theorem objsN_lt {m j i k : Nat} (h : k < m) : (objsN m j i)[k]? = some k := by
 unfold objsN
 rw [List.getElem?_append_left (by simp; omega), List.getElem?_append_left (by simpa using h)]
 simp [h]
theorem objsN_at {m j i : Nat} : (objsN m j i)[m + j]? = some i := by
 unfold objsN
 rw [List.getElem?_append_right (by simp)]
 simp
def asmN (m : Nat) (fr : FrN) : Nat → List (Nat × Bool) → Option (Fr × List Oj)
 | _, [] => some ([], [])
 | j, (t, dmt) :: ks => match fr.lookup t with
  | some ⟨av, some (i, o)⟩ => (match rnA (objsN m j i) av, asmN m fr (j + 1) ks with
   | some y, some (r, os) => (match pA (ltq1 m (m + j)) y with | true => some ((t, y) :: r, demK dmt o :: os) | false => none)
   | _, _ => none)
  | some ⟨av, none⟩ => (match asmN m fr j ks with | some (r, os) => some ((t, av) :: r, os) | none => none)
  | none => none
theorem asmN_ok {st : Ns} {a : Act} {w : World} (hok : OkN m st) : ∀ (ks : List (Nat × Bool)) (j : Nat) (fr : Fr) (os : List Oj), (∀ t x, t ∈ ks.map Prod.fst → st.fr.lookup t = some x → feR ρ wB x (a.tmps.getD t undef) w) → asmN m st.fr j ks = some (fr, os) →
  ∃ ps : List Pl, ps.length = os.length ∧ (∀ (k : Nat) (o : Oj) (p : Pl), os[k]? = some o → ps[k]? = some p → (∀ ρ' : Pls, (∀ i, i < m → ρ' i = ρ i) → objR ρ' w p o) ∧ (∀ g, objAt p o g → wB.heap.size ≤ g ∨ o.kd = .ro false) ∧ (o.kd = .ro false → st.dm = true)) ∧
   ∀ ρ' : Pls, (∀ i, i < m → ρ' i = ρ i) → (∀ (k : Nat) (p : Pl), ps[k]? = some p → ρ' (m + j + k) = p) → FrR ρ' fr a
 | [], j, fr, os, _, h => by
  injection h with h; simp only [Prod.mk.injEq] at h; obtain ⟨rfl, rfl⟩ := h
  exact ⟨[], rfl, fun k o p ho => by simp at ho, fun _ _ _ t x hx => by simp at hx⟩
 | (t, dmt) :: ks, j, fr, os, hE, h => by
  have hE' : ∀ t x, t ∈ ks.map Prod.fst → st.fr.lookup t = some x → feR ρ wB x (a.tmps.getD t undef) w := fun t x ht => hE t x (List.mem_cons_of_mem _ ht)
  simp only [asmN] at h
  split at h
  ·rename_i av i o ht
   split at h
   ·rename_i y r os' hy hr
    split at h
    ·rename_i hp
     injection h with h; simp only [Prod.mk.injEq] at h; obtain ⟨rfl, rfl⟩ := h
     obtain ⟨ps, h1, h2, h3⟩ := asmN_ok hok ks (j + 1) r os' hE' hr
     have hk := hok.2 t _ ht
     simp only at hk
     obtain ⟨k1, k2, k3, k4, k5⟩ := hk
     have he := hE t _ (by simp) ht
     unfold feR at he
     simp only at he
     obtain ⟨p, e1, e2, e3⟩ := he
     have hob := k3
     unfold okOb at hob
     simp only [Bool.and_eq_true] at hob
     refine ⟨p :: ps, by simp [h1], fun k ob q ho hq => ?_, fun ρ' hρ hat t' x hx => ?_⟩
     ·cases k with
      | zero =>
       simp at ho hq; subst ho; subst hq
       refine ⟨fun ρ' hρ => ?_, fun g hg => ?_, fun e => k5 (demK_ro e)⟩
       ·refine objR_p (q := ltq m) (fun i hi => ?_) (by rw [demK_cs]; exact hob.1) (demK_ok e1)
        unfold ltq at hi; simp only [decide_eq_true_eq] at hi; exact hρ i hi
       ·rcases e2 g (demK_at hg) with h5 | h5
        ·exact .inl h5
        ·refine .inr ?_
         unfold demK
         rw [h5]; simp
         exact h5
      | succ k => exact h2 k ob q (by simpa using ho) (by simpa using hq)
     ·rw [List.lookup_cons] at hx
      split at hx
      ·rename_i et
       have : t' = t := by simpa using et
       subst this
       injection hx with hx; subst hx
       refine pA_ok (q := ltq1 m (m + j)) (fun i' hi => ?_) hp (rnA_ok hy e3)
       unfold ltq1 at hi
       simp only [Bool.or_eq_true, decide_eq_true_eq] at hi
       rcases hi with hi | hi
       ·rw [hρ i' hi, plK_at (objsN_lt hi)]
        exact (upd_lt (ρ := ρ) (m := i) i' (by omega)).symm
       ·have e := Nat.eq_of_beq_eq_true hi
        subst e
        rw [plK_at objsN_at, upd_at]
        have := hat 0 p rfl
        simpa using this
      ·exact h3 ρ' hρ (fun k q hq => by have := hat (k + 1) q (by simpa using hq); rw [← this]; congr 1; omega) t' x hx
    ·cases h
   ·cases h
  ·rename_i av ht
   split at h
   ·rename_i r os' hr
    injection h with h; simp only [Prod.mk.injEq] at h; obtain ⟨rfl, rfl⟩ := h
    obtain ⟨ps, h1, h2, h3⟩ := asmN_ok hok ks j r os' hE' hr
    refine ⟨ps, h1, h2, fun ρ' hρ hat t' x hx => ?_⟩
    rw [List.lookup_cons] at hx
    split at hx
    ·rename_i et
     have : t' = t := by simpa using et
     subst this
     injection hx with hx; subst hx
     have hk := hok.2 t' _ ht
     have he := hE t' _ (by simp) ht
     unfold feR at he
     simp only at hk he
     refine pA_ok (q := ltq m) (fun i hi => ?_) hk he
     unfold ltq at hi; simp only [decide_eq_true_eq] at hi; exact hρ i hi
    ·exact h3 ρ' hρ hat t' x hx
   ·cases h
  ·cases h
def freeS (T : Tab) (ft : Nat → FT) (N k : Nat) (asm : List (Nat × Bool)) (ks : List (Nat × Bool)) (ops : List Oper) (s : S) : Option (List Prop × S) :=
 match okS s, frN T ft N ops.toArray asm s 0 (ops.take k) ⟨frI s.fr, s.H.length, false⟩ with
 | true, some (g, st) => (match asmN s.H.length st.fr 0 ks with
  | some (fr, os) => (match okS ⟨s.fr, s.gl, demI st.dm s.H⟩, apL os with
   | true, true => some (g, ⟨fr, s.gl, demI st.dm s.H ++ os⟩)
   | _, _ => none)
  | none => none)
 | _, _ => none
def regD (T : Tab) (ft : Nat → FT) (N k : Nat) (asm : List (Nat × Bool)) (ks : List (Nat × Bool)) (cs : List Co) (live objs : List Nat) (ops : List Oper) (s : S) : Option (List Prop × S) :=
 match freeS T ft N k asm ks ops s with
 | some (g, s1) => (match exR T ft N ops.toArray asm k (ops.drop k) s1 with
  | some (g2, s2) => (match after cs live objs s2 with | some s3 => some (g ++ g2, s3) | none => none)
  | none => none)
 | none => none
theorem ltC_p {c : Cl} (h : ltC m c = true) : pC (ltq m) c = true := by cases c <;> first | rfl | exact h
theorem ltL_p : ∀ {l : List Cl}, ltL m l = true → pL (ltq m) l = true
 | [], _ => rfl
 | c :: l, h => by
  simp only [ltL, Bool.and_eq_true] at h
  simp only [pL, Bool.and_eq_true]
  exact ⟨ltC_p h.1, ltL_p h.2⟩
theorem ltX_p {cs : Cs} (h : ltX m cs = true) : pX (ltq m) cs = true := by
 cases cs with
 | g j n sz tl => simp only [ltX, Bool.and_eq_true] at h; simp only [pX, Bool.and_eq_true]; exact ⟨h.1, ltL_p h.2⟩
 | c l => exact ltL_p h
 | p j js => exact h
 | _ => rfl
theorem lt1_p {x : A1} (h : lt1 m x = true) : p1 (ltq m) x = true := by
 cases x with
 | c x => exact ltC_p h
 | g n cs => exact ltX_p h
theorem lt1s_p : ∀ {l : List A1}, lt1s m l = true → p1s (ltq m) l = true
 | [], _ => rfl
 | c :: l, h => by
  simp only [lt1s, Bool.and_eq_true] at h
  simp only [p1s, Bool.and_eq_true]
  exact ⟨lt1_p h.1, lt1s_p h.2⟩
theorem ltA_p {x : AV} (h : ltA m x = true) : pA (ltq m) x = true := by
 cases x with
 | c x => exact ltC_p h
 | g n cs => exact ltX_p h
 | t xs => exact lt1s_p h
theorem W_regD (hT : TabOk P T) (hF : ∀ i, FtOk P (Kp bs w0) (ft i)) (hm : P.follows .mixedOrders = true) {id : Nat} {l : List Oper} (k : Nat) (asm ks : List (Nat × Bool)) (cs : List Co) (live objs : List Nat) {g : List Prop} {s' : S}
  (hr : (okRegion l.toArray k N && decide (k ≤ l.length)) = true) (h : regD T ft N k asm ks cs live objs l s = some (g, s')) (hg : allP g) {Q : Exit → S → Prop} (hQ : Q .normal s') :
  W P N bs w0 (.region id l.toArray true) s Q := by
 intro a w hR
 simp only [Bool.and_eq_true] at hr
 obtain ⟨hreg, hkl⟩ := hr
 unfold regD at h
 split at h
 ·rename_i g1 s1 h1
  split at h
  ·rename_i g2 s2 h2
   split at h
   ·rename_i s3 h3
    injection h with h; simp only [Prod.mk.injEq] at h; obtain ⟨rfl, rfl⟩ := h
    obtain ⟨ga, gb⟩ := allP_append.1 hg
    unfold freeS at h1
    split at h1
    ·rename_i g' st hs hfr
     split at h1
     ·rename_i fr os has
      split at h1
      ·rename_i hsI hap
       injection h1 with h1; simp only [Prod.mk.injEq] at h1; obtain ⟨rfl, rfl⟩ := h1
       obtain ⟨r1, r2, ρ, r3⟩ := hR
       have hxd : ∀ {w' : World}, Ext w.drew w' → Kp bs w0 w' := fun hx => (r3.kp.drew).ext hx
       have hhp : HpR ρ w.drew s.H := fun i o ho => (r3.hp i o ho).keep fun _ _ _ => rfl
       refine wp_region_rel k N Ext hm hreg hkl r2 r1 (fun w => Below.refl _ _) (fun _ _ _ h1 h2 => Ext.tr h1 h2) ?_
       refine RW_fr hT (fun i => FtOk.weak (hF i) fun w' h3 => hxd h3) hs r3.gl hhp (Q' := fun a' w' => wpList P l.toArray (fun ex a' w' => ∃ s', Q ex s' ∧ Rel N bs w0 s' a' w') (l.drop k) a' w') (l.take k) 0 _ _ _ _ hfr ga ?_ ?_ ?_ ?_
       ·exact ⟨Nat.le_refl _, fun t x hx => by
         obtain ⟨e1, e2⟩ := frI_lk hx
         rw [e1]
         exact ltA_p (ltF_ok (okS_ok hs).1 t _ e2)⟩
       ·intro t x hx v w' hX hv
        obtain ⟨e1, e2⟩ := frI_lk hx
        unfold feR
        rw [e1]
        have hv' : v = a.tmps.getD t undef := hv
        subst hv'
        exact r3.fr t _ e2
       ·intro a' w' hX hn hd hok hE
        obtain ⟨ps, hl, hps, hfin⟩ := asmN_ok hok ks 0 fr os (fun t x _ hx => hE t x hx) has
        have hlenI : (demI st.dm s.H).length = s.H.length := by unfold demI; split; exact demO_len _; rfl
        have hRI : RelA ρ bs w0 ⟨s.fr, s.gl, demI st.dm s.H⟩ a w := by
         unfold demI; split
         ·exact r3.dem
         ·exact r3
        refine exR_ok hT hF _ k g2 _ a' w' h2 gb ⟨hd, hn, updL ρ s.H.length ps, ?_⟩ (fun a2 w2 hr => ⟨_, hQ, after_ok h3 hr⟩)
        have hsep := apL_ok hap
        have hU : ∀ i, i < s.H.length → updL ρ s.H.length ps i = ρ i := updL_lt
        have hUat : ∀ (k : Nat) (p : Pl), ps[k]? = some p → updL ρ s.H.length ps (s.H.length + k) = p := fun k p hp => updL_at hp
        have hold : ∀ {j : Nat} {x : Oj} {g : Nat}, (demI st.dm s.H)[j]? = some x → objAt (ρ j) x g → g < w.heap.size := fun hj hat => objAt_lt (hRI.hp _ _ hj) hat
        have e : updL ρ s.H.length ps = updL ρ (demI st.dm s.H).length ps := by rw [hlenI]
        have hobj : ∀ (k : Nat) (o : Oj) (p : Pl), os[k]? = some o → ps[k]? = some p → objR (updL ρ s.H.length ps) w' p o := fun k o p ho hp => (hps k o p ho hp).1 _ hU
        have sep2 : ∀ (k l : Nat) (o o' : Oj) (p p' : Pl) (g : Nat), k ≠ l → os[k]? = some o → os[l]? = some o' → ps[k]? = some p → ps[l]? = some p' → o.own = true → objAt p o g → ¬ objAt p' o' g := by
         intro k l o o' p p' g hkl ho ho' hp hp' hown hat hat'
         rcases Nat.lt_or_gt_of_ne hkl with hlt | hlt
         ·exact ap_sep (hsep k l o o' hlt ho ho') (hobj k o p ho hp) (hobj l o' p' ho' hp') (.inl hown) hat hat'
         ·exact ap_sep (hsep l k o' o hlt ho' ho) (hobj l o' p' ho' hp') (hobj k o p ho hp) (.inr hown) hat' hat
        have place : ∀ (k : Nat) (o : Oj) (p : Pl) (g : Nat), os[k]? = some o → ps[k]? = some p → objAt p o g → w.heap.size ≤ g ∨ o.kd = .ro false := fun k o p g ho hp hat => (hps k o p ho hp).2.1 g hat
        have hfr := hfin _ hU (fun k p hp => by have := hUat k p hp; simpa using this)
        rw [e] at hobj hfr ⊢
        refine RelA.news (w := w) (s := ⟨s.fr, s.gl, demI st.dm s.H⟩) hRI hsI hl rfl (fun j x hj => .inr ⟨hj, (hRI.hp j x hj).keep fun g hlt _ => hX.block g hlt⟩) (hxd hX) hobj (fun k o p j x g ho hp hj hxk hat hor hat2 => ?_) sep2 (fun k o p ho hp hfs g hat => ?_) _ _ hfr
        ·rcases place k o p g ho hp hat with hge | hro
         ·have := hold hj hat2
          omega
         ·have hyes := (hps k o p ho hp).2.2 hro
          have hj2 : (demO s.H)[j]? = some x := by rw [hyes] at hj; exact hj
          obtain ⟨_, _, hno, _⟩ := demO_at hj2
          rcases hor with h1 | h1
          ·rw [hno] at h1; cases h1
          ·unfold Oj.own at h1; rw [hro] at h1; cases h1
        ·rcases place k o p g ho hp hat with hge | hro
         ·exact .inl (Nat.le_trans r3.kp.size hge)
         ·unfold Oj.fsh at hfs; rw [hro] at hfs; cases hfs
       ·intro L hL w' hX
        exact hL a w' hX r2 r1 (fun t x hx => by
         obtain ⟨e1, e2⟩ := frI_lk hx
         unfold feR
         rw [e1]
         exact r3.fr t _ e2)
      ·cases h1
     ·cases h1
    ·cases h1
   ·cases h
  ·cases h
 ·cases h
end
end Go.Sx
end
section
namespace Go.Sx
open Go.RowKit Go.Ch
section
variable {P : Program} {T : Tab} {ρ ρ' : Pls} {w w' : World} {bs : Bs} {w0 : World} {s s' : S} {a : Act} {N : Nat}
def rvA (T : Tab) (s : S) : ResultVar → Option AV
 | .tmp t => s.fr.lookup t
 | .cell p ty => match s.fr.lookup p with
  | some x => (match ldA T s.H ty x with | some ([], z) => some z | _ => none)
  | none => none
theorem loadAt_run {t : TypeId} {v u : Value} (h : (Instr.loadAt t v).run P w = .ok u w) : (do loadVar t (← asAddr v) : Sem Value).run P w = .ok u w := by
 unfold Instr.loadAt Instr.sureAddr at h
 cases v with
 | pointer a => cases a with
  | some a => simpa [asAddr] using h
  | none => simp at h
 | _ => simp at h
def rvM (tmps : Array Value) : ResultVar → Sem Value
 | .tmp t => pure (tmps.getD t undef)
 | .cell p ty => do loadVar ty (← asAddr (tmps.getD p undef))
theorem results_rv (fn : Func) (tmps : Array Value) : results fn tmps = (do
  let vs ← fn.results.mapM (rvM tmps)
  pure (if h : vs.size = 1 then vs[0] else .tuple vs)) := by
 unfold results
 have e : rvM tmps = fun r => (match r with | .tmp t => (pure (tmps.getD t undef) : Sem Value) | .cell p ty => (do loadVar ty (← asAddr (tmps.getD p undef)))) := by
  funext r; cases r <;> rfl
 rw [e]; rfl
theorem rvA_ok (hT : TabOk P T) (hr : RelA ρ bs w0 s a w) {r : ResultVar} {av : AV} (h : rvA T s r = some av) :
  ∃ v, (rvM a.tmps r).run P w = .ok v w ∧ avR ρ av v := by
 cases r with
 | tmp t => exact ⟨_, rfl, hr.fr t _ h⟩
 | cell p ty =>
  simp only [rvA] at h
  split at h
  ·rename_i x hx
   split at h
   ·rename_i z hz
    injection h with h; subst h
    obtain ⟨u, h1, h2⟩ := ldA_ok hT hr.hp hz allP_nil (hr.fr p x hx)
    exact ⟨u, loadAt_run h1, h2⟩
   ·cases h
  ·cases h
def a1Of : AV → Option A1
 | .c x => some (.c x)
 | .g n cs => some (.g n cs)
 | .t _ => none
theorem a1Of_ok {x : AV} {y : A1} (h : a1Of x = some y) {v : Value} (hv : avR ρ x v) : a1R ρ y v := by
 cases x <;> simp only [a1Of] at h <;> first | (injection h with h; subst h; exact hv) | cases h
def resA (T : Tab) (s : S) : List ResultVar → Option AV
 | [] => some (.t [])
 | [r] => rvA T s r
 | [r, r'] => (match rvA T s r, rvA T s r' with
  | some x, some y => (match a1Of x, a1Of y with | some x, some y => some (.t [x, y]) | _, _ => none)
  | _, _ => none)
 | [r, r', r''] => (match rvA T s r, rvA T s r', rvA T s r'' with
  | some x, some y, some z => (match a1Of x, a1Of y, a1Of z with | some x, some y, some z => some (.t [x, y, z]) | _, _, _ => none)
  | _, _, _ => none)
 | _ => none
theorem resA_ok (hT : TabOk P T) (hr : RelA ρ bs w0 s a w) {fn : Func} {rs : List ResultVar} (hf : fn.results = rs.toArray) {av : AV} (h : resA T s rs = some av) :
  ∃ v, (results fn a.tmps).run P w = .ok v w ∧ avR ρ av v := by
 unfold resA at h
 split at h
 ·injection h with h; subst h
  exact ⟨.tuple #[], by simp [results, hf], [], F2.nil, rfl⟩
 ·rename_i r
  obtain ⟨v, h1, h2⟩ := rvA_ok hT hr h
  refine ⟨v, ?_, h2⟩
  rw [results_rv, hf]; simp [h1]
 ·rename_i r r'
  split at h
  ·rename_i x y hx hy
   split at h
   ·rename_i x1 y1 hx1 hy1
    injection h with h; subst h
    obtain ⟨v, h1, h2⟩ := rvA_ok hT hr hx
    obtain ⟨u, h3, h4⟩ := rvA_ok hT hr hy
    refine ⟨.tuple #[v, u], ?_, [v, u], F2.cons (a1Of_ok hx1 h2) (F2.cons (a1Of_ok hy1 h4) F2.nil), rfl⟩
    rw [results_rv, hf]; simp [h1, h3]
   ·cases h
  ·cases h
 ·rename_i r r' r''
  split at h
  ·rename_i x y z hx hy hz
   split at h
   ·rename_i x1 y1 z1 hx1 hy1 hz1
    injection h with h; subst h
    obtain ⟨v, h1, h2⟩ := rvA_ok hT hr hx
    obtain ⟨u, h3, h4⟩ := rvA_ok hT hr hy
    obtain ⟨t, h5, h6⟩ := rvA_ok hT hr hz
    refine ⟨.tuple #[v, u, t], ?_, [v, u, t], F2.cons (a1Of_ok hx1 h2) (F2.cons (a1Of_ok hy1 h4) (F2.cons (a1Of_ok hz1 h6) F2.nil)), rfl⟩
    rw [results_rv, hf]; simp [h1, h3, h5]
   ·cases h
  ·cases h
 ·cases h
def retS (T : Tab) (s : S) (rs : List ResultVar) (objs : List Nat) : Option (AV × Hp) := match resA T s rs with
 | some av => (match keep [0] objs ⟨[(0, av)], [], s.H⟩ with
  | some ⟨[(0, x)], _, H⟩ => (match ltA H.length x && (ltH H.length H && noDp H) with | true => some (x, H) | false => none)
  | _ => none)
 | none => none
theorem retS_ok {gv : Nat → Value} (hT : TabOk P T) (hR : Rel N (noB gv) w s a w') {fn : Func} {rs : List ResultVar} (hf : fn.results = rs.toArray) {objs : List Nat} {av : AV} {H' : Hp} (h : retS T s rs objs = some (av, H')) {ρ0 : Pls} {H : Hp} :
  ∃ v, (results fn a.tmps).run P w' = .ok v w' ∧ Ext w w' ∧ ∃ ps, Left ρ0 w H (shA H.length av) (shH H.length H') v w' ps := by
 obtain ⟨_, _, ρ, hr⟩ := hR
 unfold retS at h
 split at h
 ·rename_i x hx
  obtain ⟨v, h1, h2⟩ := resA_ok hT hr hf hx
  split at h
  ·rename_i y gl H2 hk
   split at h
   ·rename_i hlt
    simp only [Bool.and_eq_true] at hlt
    injection h with h; simp only [Prod.mk.injEq] at h; obtain ⟨rfl, rfl⟩ := h
    have h0 : Rel 1 (noB gv) w ⟨[(0, x)], [], s.H⟩ { tmps := #[v], defers := [] } w' := ⟨rfl, rfl, ρ, fun t z hz => by
     rw [List.lookup_cons] at hz
     split at hz
     ·rename_i e
      have : t = 0 := by simpa using e
      subst this
      injection hz with hz; subst hz; exact h2
     ·simp at hz, GlR.nil, hr.hp, hr.sep, hr.own, hr.kp⟩
    obtain ⟨_, _, ρ2, hr2⟩ := keep_ok hk h0
    have hv := hr2.fr 0 y rfl
    exact ⟨v, h1, hr.kp.below, left_of hr2 hv hlt.1 hlt.2.1 hlt.2.2⟩
   ·cases h
  ·cases h
 ·cases h
theorem F2.getD {l : List Cl} {vs : List Value} (h : F2 (clR ρ) l vs) (i : Nat) (hi : i < vs.length) : avR ρ (.c (l.getD i .junk)) (vs.getD i undef) := by
 have hl : i < l.length := by have := h.1; omega
 have := h.2 i _ _ (List.getElem?_eq_getElem hl) (List.getElem?_eq_getElem hi)
 show clR ρ _ _
 rw [List.getD_eq_getElem?_getD, List.getD_eq_getElem?_getD, List.getElem?_eq_getElem hl, List.getElem?_eq_getElem hi]
 exact this
end
end Go.Sx
end
section
namespace Go.Sx
open Go.RowKit Go.Ch
section
variable {P : Program} {ρ : Pls} {w w' : World} {H : Hp}
theorem left_row {v : Value} {e : TypeId} {vs : List Value} {cs : Cs} {n : Nat} (h : Own w' w.heap.size e v vs) (hc : ∀ ρ, csR ρ cs vs) (hn : vs.length = n) :
  ∃ ps, Left ρ w H (.c (.wh H.length)) [⟨.row, e, 1, n, cs⟩] v w' ps := by
 obtain ⟨n', h1⟩ : ∃ n', w'.ownsRow w.heap.size e 1 v n' vs := ⟨_, h⟩
 have hl := h1.1
 rw [Nat.mul_one] at hl
 have hn' : n' = n := by omega
 subst hn'
 have hv : ∃ p : Pl, v = .slice p.A p.n p.cap ∧ p.sz = 1 ∧ p.n = n' ∧ ∀ g, (∃ ad, p.A = some ad ∧ ad.block = g) → w.heap.size ≤ g := by
  rcases h1.2 with ⟨hv, hn0⟩ | ⟨g, cap, cur, hv, hg, _⟩
  ·exact ⟨(pl4 none 0 0 1), hv, rfl, hn0.symm, fun g ⟨ad, had, _⟩ => by cases had⟩
  ·exact ⟨(pl4 (some ⟨g, 0, none⟩) n' cap 1), hv, rfl, rfl, fun g' ⟨ad, had, he⟩ => by injection had with had; subst had; subst he; exact hg⟩
 obtain ⟨p, rfl, e1, e2, hp⟩ := hv
 have hu : updL ρ H.length [p] (H.length + 0) = p := updL_at rfl
 rw [Nat.add_zero] at hu
 refine ⟨[p], rfl, fun k o q ho hq => ?_, ?_, fun k o q g ho hq hat => ?_, fun k l o o' q q' g hkl ho ho' => ?_⟩
 ·cases k with
  | zero =>
   simp at ho hq; subst ho; subst hq
   refine ⟨⟨e1, e2, by rw [← (hc (updL ρ H.length [p])).len, hl]; simp⟩, vs, hc _, ?_⟩
   rw [e2]
   refine ⟨h1.1, ?_⟩
   rcases h1.2 with h2 | ⟨g, cap, cur, hv, _, h2⟩
   ·rw [e2] at h2; exact .inl h2
   ·rw [e2] at hv; exact .inr ⟨g, cap, cur, hv, Nat.zero_le _, h2⟩
  | succ k => simp at ho
 ·show clR _ (.wh _) _
  simp only [clR, hu]
 ·cases k with
  | zero => simp at ho hq; subst ho; subst hq; exact .inl (hp g hat)
  | succ k => simp at ho
 ·cases k with
  | zero => cases l with
   | zero => exact absurd rfl hkl
   | succ l => simp at ho'
  | succ k => simp at ho
theorem calls_mono {f : FuncId} {args : Array Value} {R R' : Value → World → Prop} (h : Calls P f args w (Ret R)) (hR : ∀ v w', R v w' → R' v w') : Calls P f args w (Ret R') :=
 h.mono fun _ _ ⟨v, he, hr⟩ => ⟨v, he, hR v _ hr⟩
theorem InSl.sl {e : TypeId} {n : Nat} {cs : Cs} {v : Value} {p : Pl} (h : InSl w e n cs v p) {vs : List Value} (hc : ∀ ρ us, csR ρ cs us → us = vs) (hn : vs.length = n) : Sl w w.heap.size v vs := by
 obtain ⟨rfl, hr⟩ := h
 obtain ⟨⟨e1, e2, e3⟩, ⟨h1, h2, h3⟩, us, hcs, hA⟩ := hr (fun _ => p)
 obtain rfl := hc _ us hcs
 have e4 : p.n = us.length := by rw [hn]; exact e2
 refine ⟨Nat.le_refl _, p.A, p.cap, by rw [e4], by rw [← e4]; exact h1, h2, h3, fun ad had j u hu => ⟨?_, hA ad had j u hu⟩⟩
 have := World.block_lt_of_cell? _ _ (hA ad had j u hu)
 rwa [block_add] at this
end
end Go.Sx
end
section
namespace Go.Sx
open Go.RowKit Go.Ch
theorem okI64 {n : Int} (h0 : -9223372036854775808 ≤ n) (h1 : n < 9223372036854775808) : okI .i64 n := by
 unfold okI IntKind.wrap
 simp [IntKind.bits, IntKind.signed]
 omega
theorem getD_drop {α : Type} (z : α) (xs : List α) (i j : Nat) : (xs.drop i).getD j z = xs.getD (i + j) z := by
 rw [List.getD_eq_getElem?_getD, List.getD_eq_getElem?_getD, List.getElem?_drop]
theorem ite_t {α : Type} {b : Bool} {x y : α} (h : b = true) : (bif b then x else y) = x := by rw [h]; rfl
theorem ite_f {α : Type} {b : Bool} {x y : α} (h : b = false) : (bif b then x else y) = y := by rw [h]; rfl
theorem law_of {P : Program} {I : World → Prop} {f : FuncId} {F : Ct} {args : List AV} {H : Hp} {g : List Prop} {objs : List Oj} {ρ : Pls} {w : World} {vals : List Value} (h : FnOk P I f F) (hF : F args H = some (g, .c (.s (.b true)), objs)) (hg : allP g)
  (hI : I w) (hp : HpR ρ w H) (ha : F2 (avR ρ) args vals) : Calls P f vals.toArray w (Ret fun v w' => Ext w w' ∧ v = .bool true) :=
 calls_mono (h.ct args H g _ objs hF hg ρ w vals hI hp ha) fun _ _ ⟨hx, _, hL⟩ => ⟨hx, hL.val⟩
theorem in_b {w : World} {B : Nat} {v : Value} {l : List UInt8} (hv : Sl w B v (l.map bU)) (e : TypeId) : ∃ p, InSl w e l.length (.b l) v p := by
 have h := sl_slr hv
 rw [List.length_map] at h
 exact in_sl h (fun ρ => csR_b.2 rfl) e
end Go.Sx
end
section
namespace Go.Ch
open Go.ChangeShapes Go.WideShapes Go.RowKit
end Go.Ch
namespace Go.Proofs.Ytcdljciflkefaaa
open Go.ChangeShapes Go.WideShapes Go.ChangeAt Go.RowKit Go.Ch
theorem own : ownKnob Try.prog.godebug = none := by kernel_rfl
theorem laidOut : laidOutB Try.prog = true := by kernel_rfl
end Go.Proofs.Ytcdljciflkefaaa
end
section
namespace Go.Sx
open Go.RowKit Go.Ch
section
variable {P : Program} {T : Tab} {ft : Nat → FT} {ρ : Pls} {w w' : World} {bs : Bs} {w0 wB : World} {s s' : S} {a : Act} {N m : Nat}
def XS (wA wB : World) (a b : World) : Prop := a = b ∨ (a = wA ∧ b = wB)
theorem XS.tr {wA wB a b c : World} (h1 : XS wA wB a b) (h2 : XS wA wB b c) : XS wA wB a c := by
 rcases h1 with rfl | ⟨rfl, rfl⟩
 ·exact h2
 ·rcases h2 with rfl | ⟨_, rfl⟩
  ·exact .inr ⟨rfl, rfl⟩
  ·exact .inr ⟨rfl, rfl⟩
end
end Go.Sx
end
section
namespace Go.Sx
open Go.RowKit Go.Ch
section
variable {P : Program} {T : Tab} {ρ ρ' : Pls} {w w' : World} {bs : Bs} {w0 : World} {s s' : S} {a : Act} {N : Nat}
theorem GlR.cons {gl : Fr} {x : AV} (j : Nat) (hx : avR ρ x (bs.gv j)) (h : GlR bs ρ gl) : GlR bs ρ ((1000000 + j, x) :: gl) := by
 intro t y hy
 rw [List.lookup_cons] at hy
 split at hy
 ·rename_i e
  have e : t = 1000000 + j := by simpa using e
  subst e
  injection hy with hy; subst hy
  unfold gvOf
  rw [if_neg (by omega), Nat.add_sub_cancel_left]
  exact hx
 ·exact h t y hy
end
end Go.Sx
end
section
namespace Go.Sx
open Go.RowKit Go.Ch
section
variable {P : Program} {T : Tab} {ft : Nat → FT} {ρ : Pls} {w w' : World} {bs : Bs} {w0 : World} {s s' : S} {a a' : Act} {N : Nat} {ops : Array Oper} {asm : List (Nat × Bool)}
def vA (asm : List (Nat × Bool)) (i : Nat) (r : List Prop × AV) : Option (List Prop × AV) := match asm.lookup i with
 | none => some r
 | some bv => match r with
  | (g, .c (.s (.b e))) => some (g ++ [e = bv], .c (.s (.b bv)))
  | _ => none
def puV (T : Tab) (asm : List (Nat × Bool)) (i : Nat) (o : Oper) (s : S) : Option (List Prop × AV) := match vop T s.H (ev0 s.fr s.gl) o.op with
 | some r => vA asm i r
 | none => none
def puG (T : Tab) (ops : Array Oper) (asm : List (Nat × Bool)) (i : Nat) (o : Oper) (s : S) : Option (List Prop × AV) := match o.guard with
 | none => puV T asm i o s
 | some (j, want) => match (ops[j]?).bind (·.dst) with
  | none => none
  | some dj => match s.fr.lookup dj with
   | some (.c (.s (.b b))) => (match b, want with
    | true, true => puV T asm i o s
    | false, false => puV T asm i o s
    | true, false => some ([], .t [])
    | false, true => some ([], .t []))
   | some (.t []) => some ([], .t [])
   | _ => none
theorem get_look {x y : Array Value} (hs : x.size = y.size) {t : Nat} (h : x.getD t undef = y.getD t undef) : x[t]? = y[t]? := by
 by_cases ht : t < x.size
 ·have hy : t < y.size := by omega
  simp only [Array.getD_eq_getD_getElem?, Array.getElem?_eq_getElem ht, Array.getElem?_eq_getElem hy, Option.getD_some] at h
  rw [Array.getElem?_eq_getElem ht, Array.getElem?_eq_getElem hy, h]
 ·rw [Array.getElem?_eq_none (by omega), Array.getElem?_eq_none (by omega)]
theorem exec_look {o : Oper} (hs : ∀ cs b, o.op ≠ .select cs b) (hl : ∀ t ∈ o.looksAt ops, a.tmps.getD t undef = a'.tmps.getD t undef) : execOp a.eval o = execOp a'.eval o :=
 execOp_congr o hs fun x hx => by
  cases x with
  | tmp t => exact hl t (List.mem_append_left _ (List.mem_filterMap.2 ⟨.tmp t, by simpa using hx, rfl⟩))
  | _ => rfl
theorem wanted_look {o : Oper} (hs : a.tmps.size = a'.tmps.size) (hl : ∀ t ∈ o.looksAt ops, a.tmps.getD t undef = a'.tmps.getD t undef) : Region.wanted o (yielded ops a.tmps) = Region.wanted o (yielded ops a'.tmps) := by
 unfold Region.wanted
 cases hg : o.guard with
 | none => rfl
 | some gw =>
  obtain ⟨g, want⟩ := gw
  have hy : yielded ops a.tmps g = yielded ops a'.tmps g := by
   unfold yielded
   cases ht : (ops[g]?).bind (·.dst) with
   | none => rfl
   | some t =>
    have := get_look hs (hl t (by unfold Oper.looksAt; rw [hg]; simp [ht]))
    simp only [Option.bind_some, this]
  simp only [hy]
theorem wp_shift {o : Oper} {K : Act → World → Prop} {Q : Exit → Act → World → Prop} (he : execOp a.eval o = execOp a'.eval o) (hK : ∀ a w, K a w → a.defers = []) (h : o.wp P a' w K (fun _ _ _ => False)) :
  o.wp P a w (fun a1 w1 => ∃ v, a1 = a.put o.dst v ∧ K (a'.put o.dst v) w1) Q := by
 unfold Oper.wp at *
 rw [he]
 generalize (execOp a'.eval o).run P w = r at *
 cases r with
 | ok n w' =>
  cases n <;> simp only [Oper.upon] at h ⊢ <;>
  first
  | exact ⟨_, rfl, h⟩
  | exact Calls.mono h (fun e w'' he => by
    cases e with
    | returned v => exact ⟨v, rfl, he⟩
    | panicked c => exact he.elim
    | outgrown => obtain ⟨_, _, hf⟩ := he; exact hf.elim)
  | exact Rows.mono h (fun _ _ he => ⟨_, rfl, he⟩)
  | (have := hK _ _ h; rw [put_defers] at this; cases this)
 | halt x w' => cases x <;> simp only [Oper.upon] at h ⊢
theorem puV_ok (hT : TabOk P T) {i : Nat} {o : Oper} {g : List Prop} {z : AV} (h : puV T asm i o s = some (g, z)) (hg : allP g) (hR : RelA ρ bs w0 s a' w) :
  ∃ v, avR ρ z v ∧ (execOp a'.eval o).run P w = .ok (.value v) w := by
 obtain ⟨dst, op, ty, pos, aft, gd⟩ := o
 have hae := fun x av h => ev0_ok (ρ := ρ) (a := a') hR.fr hR.gl x av h
 unfold puV at h
 split at h
 ·rename_i r hv
  obtain ⟨g1, z1⟩ := r
  unfold vA at h
  split at h
  ·injection h with h; simp only [Prod.mk.injEq] at h; obtain ⟨rfl, rfl⟩ := h
   obtain ⟨u, hr, hu⟩ := vop_ok hT hR.hp hae hv hg dst ty pos aft gd
   exact ⟨u, hu, hr⟩
  ·split at h
   ·rename_i bv _ g2 e hge
    simp only [Prod.mk.injEq] at hge; obtain ⟨rfl, rfl⟩ := hge
    injection h with h; simp only [Prod.mk.injEq] at h; obtain ⟨rfl, rfl⟩ := h
    obtain ⟨ga, gb⟩ := allP_append.1 hg
    simp only [allP] at gb
    subst gb
    obtain ⟨u, hr, hu⟩ := vop_ok hT hR.hp hae hv ga dst ty pos aft gd
    exact ⟨u, hu, hr⟩
   ·cases h
 ·cases h
theorem puG_ok (hT : TabOk P T) {i : Nat} {o : Oper} (hs : ∀ cs b, o.op ≠ .select cs b) {g : List Prop} {z : AV} (h : puG T ops asm i o s = some (g, z)) (hg : allP g) (hR : RelA ρ bs w0 s a' w) :
  ∃ v, avR ρ z v ∧ ∀ (a : Act), a.tmps.size = a'.tmps.size → (∀ t ∈ o.looksAt ops, a.tmps.getD t undef = a'.tmps.getD t undef) → ∀ (K : Act → World → Prop) (Q : Exit → Act → World → Prop), K (a.put o.dst v) w →
   if Region.wanted o (yielded ops a.tmps) = true then o.wp P a w K Q ∨ (o.asks P a w ∧ LetsOut Q) else K (a.put o.dst undef) w := by
 have go : puV T asm i o s = some (g, z) → Region.wanted o (yielded ops a'.tmps) = true → ∃ v, avR ρ z v ∧ ∀ (a : Act), a.tmps.size = a'.tmps.size → (∀ t ∈ o.looksAt ops, a.tmps.getD t undef = a'.tmps.getD t undef) → ∀ (K : Act → World → Prop) (Q : Exit → Act → World → Prop), K (a.put o.dst v) w →
   if Region.wanted o (yielded ops a.tmps) = true then o.wp P a w K Q ∨ (o.asks P a w ∧ LetsOut Q) else K (a.put o.dst undef) w := fun h1 hw => by
  obtain ⟨v, hv, hr⟩ := puV_ok hT h1 hg hR
  refine ⟨v, hv, fun a hsz hl K Q hK => ?_⟩
  rw [wanted_look hsz hl, if_pos hw]
  refine .inl ?_
  unfold Oper.wp
  rw [exec_look hs hl, hr]
  exact hK
 have skip : (some (([] : List Prop), AV.t []) : Option (List Prop × AV)) = some (g, z) → Region.wanted o (yielded ops a'.tmps) = false → ∃ v, avR ρ z v ∧ ∀ (a : Act), a.tmps.size = a'.tmps.size → (∀ t ∈ o.looksAt ops, a.tmps.getD t undef = a'.tmps.getD t undef) → ∀ (K : Act → World → Prop) (Q : Exit → Act → World → Prop), K (a.put o.dst v) w →
   if Region.wanted o (yielded ops a.tmps) = true then o.wp P a w K Q ∨ (o.asks P a w ∧ LetsOut Q) else K (a.put o.dst undef) w := fun h1 hw => by
  injection h1 with h1; simp only [Prod.mk.injEq] at h1; obtain ⟨rfl, rfl⟩ := h1
  refine ⟨undef, ⟨[], F2.nil, rfl⟩, fun a hsz hl K Q hK => ?_⟩
  rw [wanted_look hsz hl, hw]
  exact hK
 unfold puG at h
 split at h
 ·rename_i hgd
  exact go h (by unfold Region.wanted; rw [hgd])
 ·rename_i j want hgd
  split at h
  ·cases h
  ·rename_i dj hdj
   split at h
   ·rename_i b hb
    have hv : a'.tmps.getD dj undef = .bool b := hR.fr dj _ hb
    have hw := wanted_b hgd hdj hv
    split at h
    ·exact go h hw
    ·exact go h hw
    ·exact skip h hw
    ·exact skip h hw
   ·rename_i hb
    have hv : avR ρ (.t []) (a'.tmps.getD dj undef) := hR.fr dj _ hb
    exact skip h (wanted_u hgd hdj (undef_of hv))
   ·cases h
def runP (T : Tab) (N : Nat) (ops : Array Oper) (asm : List (Nat × Bool)) : List Nat → S → Option (List Prop × S)
 | [], s => some ([], s)
 | i :: is, s => match ops[i]? with
  | none => none
  | some o => match dOk N o.dst, puG T ops asm i o s with
   | true, some (g, z) => (match runP T N ops asm is ⟨putF s.fr o.dst z, s.gl, s.H⟩ with
    | some (g2, s2) => some (g ++ g2, s2)
    | none => none)
   | _, _ => none
theorem runP_ok (hT : TabOk P T) (hs : ∀ (i : Nat) (o : Oper), ops[i]? = some o → ∀ cs b, o.op ≠ .select cs b) (is : List Nat) : ∀ (g : List Prop) (s : S) (a : Act), runP T N ops asm is s = some (g, s') → allP g → Rel N bs w0 s a w →
  ∃ a', Rel N bs w0 s' a' w ∧ ∀ t, (∀ i ∈ is, ∀ o, ops[i]? = some o → o.dst ≠ some t) → a'.tmps.getD t undef = a.tmps.getD t undef := by
 induction is with
 | nil =>
  intro g s a h hg hR
  injection h with h; simp only [Prod.mk.injEq] at h; obtain ⟨rfl, rfl⟩ := h
  exact ⟨a, hR, fun _ _ => rfl⟩
 | cons i is ih =>
  intro g s a h hg hR
  simp only [runP] at h
  split at h
  ·cases h
  ·rename_i o ho
   split at h
   ·rename_i g1 z hdk hp
    split at h
    ·rename_i g2 s2 h2
     injection h with h; simp only [Prod.mk.injEq] at h; obtain ⟨rfl, rfl⟩ := h
     obtain ⟨ga, gb⟩ := allP_append.1 hg
     obtain ⟨r1, r2, ρ, r3⟩ := hR
     obtain ⟨v, hv, _⟩ := puG_ok hT (hs i o ho) hp ga r3
     obtain ⟨a2, hR2, hl⟩ := ih g2 _ (a.put o.dst v) h2 gb ⟨by rw [put_defers]; exact r1, by rw [put_size]; exact r2, ρ, r3.put hv (dOk_ok hdk r2)⟩
     refine ⟨a2, hR2, fun t ht => ?_⟩
     rw [hl t (fun j hj => ht j (List.mem_cons_of_mem _ hj)), getD_put_other _ _ _ _ (ht i List.mem_cons_self o ho)]
    ·cases h
   ·cases h
structure Ed where
 n : Nat
 m : Nat
 t : Nat
 ps : List Nat
 cs : List Co
 live : List Nat
 objs : List Nat
def stE (T : Tab) (ft : Nat → FT) (N : Nat) (ops : Array Oper) (asm : List (Nat × Bool)) (e : Ed) (s : S) : Option (List Prop × S) := match ops[e.m]? with
 | none => none
 | some o => match stG T ft N ops asm e.m o s with
  | none => none
  | some (g1, s1) => match runP T N ops asm e.ps s1 with
   | none => none
   | some (g2, s2) => match after e.cs e.live e.objs s2 with
    | none => none
    | some s3 => some (g1 ++ g2, s3)
def st0 (T : Tab) (N : Nat) (ops : Array Oper) (asm : List (Nat × Bool)) (ps : List Nat) (cs : List Co) (live objs : List Nat) (s : S) : Option (List Prop × S) := match runP T N ops asm ps s with
 | none => none
 | some (g, s1) => match after cs live objs s1 with
  | none => none
  | some s2 => some (g, s2)
def rdL (T : Tab) (ops : Array Oper) (asm : List (Nat × Bool)) (p : Nat) (s : S) : Option (Option (List Prop × AV)) := match ops[p]? with
 | some o => some (puG T ops asm p o s)
 | none => none
def rdR (ops : Array Oper) (g : List Prop) (p : Nat) (s : S) : Option (Option (List Prop × AV)) := match (ops[p]?).bind (·.dst) with
 | some d => (match s.fr.lookup d with | some z => some (some (g, z)) | none => none)
 | none => none
inductive AllE (T : Tab) (ft : Nat → FT) (N : Nat) (ops : Array Oper) (asm : List (Nat × Bool)) (sts : List S) (s : S) : List Ed → Prop
 | nil : AllE T ft N ops asm sts s []
 | cons {e : Ed} {l : List Ed} : (∃ g, stE T ft N ops asm e (sts.getD e.n s) = some (g, sts.getD e.t s) ∧ allP g) → AllE T ft N ops asm sts s l → AllE T ft N ops asm sts s (e :: l)
inductive AllR (T : Tab) (ops : Array Oper) (asm : List (Nat × Bool)) (sts : List S) (s : S) : List (Nat × Nat) → Prop
 | nil : AllR T ops asm sts s []
 | cons {k p : Nat} {l : List (Nat × Nat)} : (∃ g, rdL T ops asm p (sts.getD k s) = rdR ops g p (sts.getD k s) ∧ allP g) → AllR T ops asm sts s l → AllR T ops asm sts s ((k, p) :: l)
theorem AllE.mem {sts : List S} {l : List Ed} (h : AllE T ft N ops asm sts s l) : ∀ e ∈ l, ∃ g, stE T ft N ops asm e (sts.getD e.n s) = some (g, sts.getD e.t s) ∧ allP g := by
 induction h with
 | nil => intro e he; cases he
 | cons h1 _ ih =>
  intro e he
  rcases List.mem_cons.1 he with rfl | he
  ·exact h1
  ·exact ih e he
theorem AllR.mem {sts : List S} {l : List (Nat × Nat)} (h : AllR T ops asm sts s l) : ∀ e ∈ l, ∃ g, rdL T ops asm e.2 (sts.getD e.1 s) = rdR ops g e.2 (sts.getD e.1 s) ∧ allP g := by
 induction h with
 | nil => intro e he; cases he
 | cons h1 _ ih =>
  intro e he
  rcases List.mem_cons.1 he with rfl | he
  ·exact h1
  ·exact ih e he
def okOps (ops : Array Oper) (N : Nat) (pu : List Nat) : Bool :=
 (List.range ops.size).all fun i => match ops[i]? with
  | none => false
  | some o => okEdges o (fun j => decide (j < i)) && ((match o.op with | .select _ _ => false | _ => true) &&
    (((o.looksAt ops).all fun t => pu.all fun p => match ops[p]? with | some q => q.dst != some t || inC ops i ops.size p | none => true) &&
    (!pu.contains i || (match o.dst with | some d => decide (d < N) | none => false))))
def okNode (ops : Array Oper) (pu : List Nat) (es : List Ed) (rd : List (Nat × Nat)) (k : Nat) (dn : List Nat) : Bool :=
 (List.range ops.size).all fun i => match dn.contains i with
  | true => !pu.contains i || (rd.contains (k, i) || dn.any fun m => !pu.contains m && (decide (m < ops.size) && inC ops m ops.size i))
  | false => (!pu.contains i && es.any fun e => Nat.beq e.n k && Nat.beq e.m i) || (List.range ops.size).any fun j => hasE ops i j && !dn.contains j
def okEdge (pu : List Nat) (nodes : List (List Nat)) (e : Ed) : Bool := match nodes[e.n]?, nodes[e.t]? with
 | some dn, some dt => !pu.contains e.m && (!dn.contains e.m && (e.ps.all (fun p => pu.contains p && !dn.contains p) && (dt.all (fun i => Nat.beq i e.m || (e.ps.contains i || dn.contains i)) && (dn.all (fun i => dt.contains i) && dt.contains e.m))))
 | _, _ => false
def okPlan (ops : Array Oper) (N : Nat) (pu : List Nat) (nodes : List (List Nat)) (ps0 : List Nat) (es : List Ed) (rd : List (Nat × Nat)) (fin : Nat) : Bool :=
 okOps ops N pu && (((List.range nodes.length).all fun k => okNode ops pu es rd k (nodes.getD k [])) && (es.all (okEdge pu nodes) &&
  ((ps0.all fun p => pu.contains p) && (((nodes.getD 0 []).all fun p => pu.contains p) && (decide (0 < nodes.length) &&
   ((List.range nodes.length).all fun k => Nat.beq k fin || (List.range ops.size).any fun i => !(nodes.getD k []).contains i))))))
structure Pln (ops : Array Oper) (N : Nat) (pu : List Nat) (nodes : List (List Nat)) (ps0 : List Nat) (es : List Ed) (rd : List (Nat × Nat)) (fin : Nat) : Prop where
 edges : ∀ (i : Nat) (o : Oper), ops[i]? = some o → okEdges o (fun j => decide (j < i)) = true
 nosel : ∀ (i : Nat) (o : Oper), ops[i]? = some o → ∀ cs b, o.op ≠ .select cs b
 look : ∀ (i : Nat) (o : Oper), ops[i]? = some o → ∀ t ∈ o.looksAt ops, ∀ p, p ∈ pu → ∀ (q : Oper), ops[p]? = some q → q.dst = some t → inC ops i ops.size p = true
 pdst : ∀ (p : Nat) (o : Oper), p ∈ pu → ops[p]? = some o → ∃ d, o.dst = some d ∧ d < N
 nin : ∀ k dn, nodes[k]? = some dn → ∀ i, i < ops.size → i ∈ dn → i ∈ pu → (k, i) ∈ rd ∨ ∃ m ∈ dn, m ∉ pu ∧ m < ops.size ∧ inC ops m ops.size i = true
 nout : ∀ k dn, nodes[k]? = some dn → ∀ i, i < ops.size → i ∉ dn → (i ∉ pu ∧ ∃ e ∈ es, e.n = k ∧ e.m = i) ∨ ∃ j, hasE ops i j = true ∧ j ∉ dn
 edge : ∀ e ∈ es, ∃ dn dt, nodes[e.n]? = some dn ∧ nodes[e.t]? = some dt ∧ e.m ∉ pu ∧ e.m ∉ dn ∧ (∀ p ∈ e.ps, p ∈ pu ∧ p ∉ dn) ∧ (∀ i ∈ dt, i = e.m ∨ i ∈ e.ps ∨ i ∈ dn) ∧ (∀ i ∈ dn, i ∈ dt) ∧ e.m ∈ dt
 start : ∀ p ∈ ps0, p ∈ pu
 zero : ∃ dn, nodes[0]? = some dn ∧ ∀ p ∈ dn, p ∈ pu
 last : ∀ k dn, nodes[k]? = some dn → (∀ i, i < ops.size → i ∈ dn) → k = fin
theorem Pln.of {pu : List Nat} {nodes : List (List Nat)} {ps0 : List Nat} {es : List Ed} {rd : List (Nat × Nat)} {fin : Nat} (h : okPlan ops N pu nodes ps0 es rd fin = true) : Pln ops N pu nodes ps0 es rd fin := by
 unfold okPlan at h
 simp only [Bool.and_eq_true] at h
 obtain ⟨h1, h2, h3, h4, h5, h6, h7⟩ := h
 have H : ∀ (i : Nat) (o : Oper), ops[i]? = some o → _ := fun i o ho => by
  have hi := (Array.getElem?_eq_some_iff.1 ho).1
  have := List.all_eq_true.1 h1 i (List.mem_range.2 hi)
  rw [ho] at this
  simp only [Bool.and_eq_true] at this
  exact this
 have nd : ∀ k dn, nodes[k]? = some dn → k < nodes.length ∧ nodes.getD k [] = dn := fun k dn hk => ⟨(List.getElem?_eq_some_iff.1 hk).1, by rw [List.getD_eq_getElem?_getD, hk]; rfl⟩
 refine ⟨fun i o ho => (H i o ho).1, fun i o ho cs b e => ?_, fun i o ho t ht p hp q hq hd => ?_, fun p o hp ho => ?_, fun k dn hk i hi hin hpu => ?_, fun k dn hk i hi hin => ?_, fun e he => ?_, fun p hp => ?_, ⟨nodes.getD 0 [], ?_, fun p hp => ?_⟩, fun k dn hk hall => ?_⟩
 ·have := (H i o ho).2.1
  rw [e] at this; cases this
 ·have := List.all_eq_true.1 (List.all_eq_true.1 (H i o ho).2.2.1 t ht) p hp
  rw [hq] at this
  simp only [hd, Bool.or_eq_true, bne_self_eq_false, Bool.false_eq_true, false_or] at this
  exact this
 ·have := (H p o ho).2.2.2
  rw [show pu.contains p = true by simpa using hp] at this
  simp only [Bool.not_true, Bool.false_or] at this
  cases hd : o.dst with
  | none => rw [hd] at this; cases this
  | some d => rw [hd] at this; exact ⟨d, rfl, by simpa using this⟩
 ·obtain ⟨hk1, hk2⟩ := nd k dn hk
  have := List.all_eq_true.1 (List.all_eq_true.1 h2 k (List.mem_range.2 hk1)) i (List.mem_range.2 hi)
  rw [hk2, show dn.contains i = true by simpa using hin, show pu.contains i = true by simpa using hpu] at this
  simp only [Bool.not_true, Bool.false_or, Bool.or_eq_true, List.any_eq_true, Bool.and_eq_true, decide_eq_true_eq, Bool.not_eq_true'] at this
  rcases this with h | ⟨m, hm, h1, h2, h3⟩
  ·exact .inl (by simpa using h)
  ·exact .inr ⟨m, hm, by simpa using h1, h2, h3⟩
 ·obtain ⟨hk1, hk2⟩ := nd k dn hk
  have := List.all_eq_true.1 (List.all_eq_true.1 h2 k (List.mem_range.2 hk1)) i (List.mem_range.2 hi)
  rw [hk2, show dn.contains i = false by simpa using hin] at this
  simp only [Bool.or_eq_true, List.any_eq_true, Bool.and_eq_true, Bool.not_eq_true'] at this
  rcases this with ⟨h, e, he, h1, h2⟩ | ⟨j, _, h1, h2⟩
  ·exact .inl ⟨by simpa using h, e, he, Nat.eq_of_beq_eq_true h1, Nat.eq_of_beq_eq_true h2⟩
  ·exact .inr ⟨j, h1, by simpa using h2⟩
 ·have := List.all_eq_true.1 h3 e he
  unfold okEdge at this
  split at this
  ·rename_i dn dt hn ht
   simp only [Bool.and_eq_true, List.all_eq_true, Bool.not_eq_true', Bool.or_eq_true] at this
   obtain ⟨g1, g2, g3, g4, g5, g6⟩ := this
   refine ⟨dn, dt, hn, ht, by simpa using g1, by simpa using g2, fun p hp => ?_, fun i hi => ?_, fun i hi => ?_, by simpa using g6⟩
   ·have := g3 p hp; exact ⟨by simpa using this.1, by simpa using this.2⟩
   ·rcases g4 i hi with h | h | h
    ·exact .inl (Nat.eq_of_beq_eq_true h)
    ·exact .inr (.inl (by simpa using h))
    ·exact .inr (.inr (by simpa using h))
   ·simpa using g5 i hi
  ·cases this
 ·simpa using List.all_eq_true.1 h4 p hp
 ·have h6' : 0 < nodes.length := by simpa using h6
  rw [List.getD_eq_getElem?_getD, List.getElem?_eq_getElem h6']; rfl
 ·simpa using List.all_eq_true.1 h5 p hp
 ·obtain ⟨hk1, hk2⟩ := nd k dn hk
  have := List.all_eq_true.1 h7 k (List.mem_range.2 hk1)
  simp only [Bool.or_eq_true, List.any_eq_true, List.mem_range, Bool.not_eq_true'] at this
  rcases this with h | ⟨i, hi, h⟩
  ·exact Nat.eq_of_beq_eq_true h
  ·rw [hk2] at h
   have := hall i hi
   simp only [List.contains_eq_mem, decide_eq_false_iff_not] at h
   exact absurd this h
theorem okEdges_has {o : Oper} {g : Nat → Bool} {j : Nat} (hg : okEdges o g = true) (he : hasEdge o j = true) : g j = true := by
 unfold okEdges at hg
 unfold hasEdge at he
 obtain ⟨x, hx, hb⟩ := Array.any_eq_true'.1 he
 have := Array.all_eq_true'.1 hg x hx
 simp only [Bool.and_eq_true, beq_iff_eq] at hb
 rw [hb.1, hb.2] at this
 simpa using this
theorem okEdges_mono {o : Oper} {f g : Nat → Bool} (hf : okEdges o f = true) (hfg : ∀ j, f j = true → g j = true) : okEdges o g = true := by
 unfold okEdges at *
 rw [Array.all_eq_true'] at *
 intro x hx
 have := hf x hx
 simp only [Bool.or_eq_true, Bool.not_eq_true'] at this ⊢
 exact this.imp id (hfg _)
theorem getD_any {l : Array Bool} {i : Nat} (h : i < l.size) {d d' : Bool} : l.getD i d = l.getD i d' := by
 simp only [Array.getD_eq_getD_getElem?, Array.getElem?_eq_getElem h, Option.getD_some]
theorem Act.same {a a' : Act} (h : a.tmps.size = a'.tmps.size) (hd : a.defers = a'.defers) (ht : ∀ t, a.tmps.getD t undef = a'.tmps.getD t undef) : a = a' := by
 obtain ⟨x, d⟩ := a; obtain ⟨y, d'⟩ := a'
 simp only at h hd ht
 subst hd
 have : x = y := by
  apply Array.ext h
  intro i h1 h2
  have := ht i
  simpa only [Array.getD_eq_getD_getElem?, Array.getElem?_eq_getElem h1, Array.getElem?_eq_getElem h2, Option.getD_some] using this
 rw [this]
set_option maxHeartbeats 1000000 in
theorem any_G (hT : TabOk P T) (hF : ∀ i, FtOk P (Kp bs w0) (ft i)) {pu : List Nat} {nodes : List (List Nat)} {ps0 : List Nat} {es : List Ed} {rd : List (Nat × Nat)} {fin : Nat} (hp : Pln ops N pu nodes ps0 es rd fin) {sts : List S}
  (hE : AllE T ft N ops asm sts s es) (hD : AllR T ops asm sts s rd) {Q : Exit → Act → World → Prop} (hQ : ∀ a w, Rel N bs w0 (sts.getD fin s) a w → Q .normal a w) :
  ∀ (f k : Nat) (dn : List Nat) (listed : Array Bool) (a a' : Act) (w : World), listed.size = ops.size → (∀ j o, ops[j]? = some o → listed.getD j true = true → okEdges o (fun e => listed.getD e false) = true) →
   nodes[k]? = some dn → (∀ i, listed.getD i false = true → i ∈ dn) → (∀ i ∈ dn, i < ops.size → i ∉ pu → listed.getD i false = true) → cnt (fun j => listed.getD j true) ops.size ≤ f →
   Rel N bs w0 (sts.getD k s) a' w → a.tmps.size = N → a.defers = [] → (∀ t, (∀ p o, p ∈ pu → ops[p]? = some o → o.dst = some t → listed.getD p false = true) → a.tmps.getD t undef = a'.tmps.getD t undef) →
   wpAny P .any ops Q f listed a w := by
 intro f
 have fini : ∀ (k : Nat) (dn : List Nat) (listed : Array Bool) (a a' : Act) (w : World), listed.size = ops.size → nodes[k]? = some dn → (∀ i, listed.getD i false = true → i ∈ dn) → cnt (fun j => listed.getD j true) ops.size = 0 →
   Rel N bs w0 (sts.getD k s) a' w → a.tmps.size = N → a.defers = [] → (∀ t, (∀ p o, p ∈ pu → ops[p]? = some o → o.dst = some t → listed.getD p false = true) → a.tmps.getD t undef = a'.tmps.getD t undef) → Q .normal a w := by
  intro k dn listed a a' w hs hk hsub hc hR hn hd hl
  have hall := cnt_zero _ _ hc
  have hall' : ∀ i, i < ops.size → listed.getD i false = true := fun i hi => by rw [getD_any (d' := true) (by omega)]; exact hall i hi
  have := hp.last k dn hk (fun i hi => hsub i (hall' i hi))
  subst this
  have e : a = a' := Act.same (by rw [hn, hR.size]) (by rw [hd, hR.dfr]) (fun t => hl t (fun p o _ ho _ => hall' p (Array.getElem?_eq_some_iff.1 ho).1))
  rw [e]; exact hQ a' w hR
 induction f with
 | zero =>
  intro k dn listed a a' w hs hcl hk hsub hmn hc hR hn hd hl
  have hc0 : cnt (fun j => listed.getD j true) ops.size = 0 := by omega
  have hall := cnt_zero _ _ hc0
  refine ⟨List.eq_nil_iff_forall_not_mem.2 fun i hi => ?_, fini k dn listed a a' w hs hk hsub hc0 hR hn hd hl⟩
  obtain ⟨o, ho, h1, _⟩ := Go.Ch.mem_ready.1 hi
  have := hall i (Array.getElem?_eq_some_iff.1 ho).1
  rw [this] at h1; cases h1
 | succ f ih =>
  intro k dn listed a a' w hs hcl hk hsub hmn hc hR hn hd hl
  refine ⟨fun h0 => ?_, fun i hi => ?_⟩
  ·refine fini k dn listed a a' w hs hk hsub ?_ hR hn hd hl
   -- all have come up, else the least that has not is ready
   have key : ∀ m, m ≤ ops.size → ∀ j < m, listed.getD j true = true := by
    intro m
    induction m with
    | zero => intro _ j hj; omega
    | succ m ihm =>
     intro hm j hj
     have hlt := ihm (by omega)
     by_cases e : j = m
     ·subst e
      cases hj' : listed.getD j true
      ·have hjs : j < ops.size := by omega
       have : j ∈ Region.ready .any ops listed := Go.Ch.mem_ready.2 ⟨_, Array.getElem?_eq_getElem hjs, hj', okEdges_mono (hp.edges j _ (Array.getElem?_eq_getElem hjs)) (fun q hq => by
        have hq' : q < j := by simpa using hq
        rw [getD_any (d' := true) (by omega)]; exact hlt q hq')⟩
       rw [h0] at this; cases this
      ·rfl
     ·exact hlt j (by omega)
   rw [cnt_congr ops.size (l' := fun _ => true) (fun j hj => key ops.size (Nat.le_refl _) j hj)]
   exact cnt_true _
  ·obtain ⟨o, ho, h1, h2⟩ := Go.Ch.mem_ready.1 hi
   have hin := (Array.getElem?_eq_some_iff.1 ho).1
   have hgs : ∀ j d, (listed.setIfInBounds i true).getD j d = if j = i then true else listed.getD j d := fun j d => getD_set listed i d j (by omega)
   have hcl' : ∀ j oj, ops[j]? = some oj → (listed.setIfInBounds i true).getD j true = true → okEdges oj (fun e => (listed.setIfInBounds i true).getD e false) = true := fun j oj hoj hlj => by
    by_cases e : j = i
    ·subst e
     rw [ho] at hoj; injection hoj with hoj; subst hoj
     exact okEdges_mono h2 (fun x hx => by rw [hgs]; split <;> simp_all)
    ·rw [hgs, if_neg e] at hlj
     exact okEdges_mono (hcl j oj hoj hlj) (fun x hx => by rw [hgs]; split <;> simp_all)
   have hcnt' : cnt (fun j => (listed.setIfInBounds i true).getD j true) ops.size ≤ f := by
    have := cnt_set (fun j => listed.getD j true) i ops.size hin h1
    rw [cnt_congr ops.size (l' := fun j => if j = i then true else listed.getD j true) (fun j _ => hgs j true)]
    omega
   have hlk : ∀ t ∈ o.looksAt ops, a.tmps.getD t undef = a'.tmps.getD t undef := fun t ht => hl t (fun p q hpp hq hdq => inC_ok hcl hs ho h2 _ _ (hp.look i o ho t ht p hpp q hq hdq))
   have hsz : a.tmps.size = a'.tmps.size := by rw [hn, hR.size]
   have hnot : listed.getD i false = false := by rw [getD_any (d' := true) (by omega)]; exact h1
   unfold wpOp
   rw [ho]
   show if Region.wanted o (yielded ops a.tmps) = true then _ else _
   by_cases hpu : i ∈ pu
   ·-- it leaves the world alone
    have hidn : i ∈ dn := by
     by_cases hdn : i ∈ dn
     ·exact hdn
     ·exfalso
      rcases hp.nout k dn hk i hin hdn with ⟨h, _⟩ | ⟨j, hj, hjn⟩
      ·exact h hpu
      ·unfold hasE at hj; rw [ho] at hj
       exact hjn (hsub j (okEdges_has h2 hj))
    have hrd : (k, i) ∈ rd := by
     rcases hp.nin k dn hk i hin hidn hpu with h | ⟨m, hm, hmp, hms, hmi⟩
     ·exact h
     ·exfalso
      have hml := hmn m hm hms hmp
      have hom : ops[m]? = some ops[m] := Array.getElem?_eq_getElem hms
      have := inC_ok hcl hs hom (hcl m _ hom (by rw [getD_any (d' := false) (by omega)]; exact hml)) _ _ hmi
      rw [this] at hnot; cases hnot
    obtain ⟨d, hdd, hdN⟩ := hp.pdst i o hpu ho
    obtain ⟨g, hg1, hg2⟩ := hD.mem _ hrd
    simp only [rdL, rdR, ho, Option.bind_some, hdd] at hg1
    split at hg1
    ·rename_i z hz
     injection hg1 with hg1
     obtain ⟨r1, r2, ρ, r3⟩ := hR
     obtain ⟨v, hv, hrun⟩ := puG_ok hT (hp.nosel i o ho) hg1 hg2 r3
     refine hrun a hsz hlk _ _ (ih k dn _ _ (a'.put o.dst v) w (by simpa using hs) hcl' hk (fun j hj => ?_) (fun j hj hjs hjp => ?_) hcnt' ⟨by rw [put_defers]; exact r1, by rw [put_size]; exact r2, ρ, ?_, r3.gl, r3.hp, r3.sep, r3.own, r3.kp⟩ (by rw [put_size]; exact hn) (by rw [put_defers]; exact hd) (fun t ht => ?_))
     ·rw [hgs] at hj
      split at hj
      ·rename_i e; rw [e]; exact hidn
      ·exact hsub j hj
     ·rw [hgs]; split
      ·rfl
      ·exact hmn j hj hjs hjp
     ·intro t x hx
      rw [hdd]
      by_cases e : d = t
      ·subst e
       rw [hz] at hx; injection hx with hx; subst hx
       rw [getD_put_same _ _ _ (by rw [r2]; exact hdN)]; exact hv
      ·rw [getD_put_other _ _ _ _ (by simpa using e)]; exact r3.fr t x hx
     ·rw [hdd]
      by_cases e : d = t
      ·subst e
       rw [getD_put_same _ _ _ (by rw [hn]; exact hdN), getD_put_same _ _ _ (by rw [r2]; exact hdN)]
      ·rw [getD_put_other _ _ _ _ (by simpa using e), getD_put_other _ _ _ _ (by simpa using e)]
       refine hl t (fun p q hpp hq hdq => ?_)
       have := ht p q hpp hq hdq
       rw [hgs] at this
       split at this
       ·rename_i e2; subst e2
        rw [ho] at hq; injection hq with hq; subst hq
        rw [hdd] at hdq; injection hdq with hdq; exact absurd hdq e
       ·exact this
    ·cases hg1
   ·-- it may change the world
    have hidn : i ∉ dn := fun h => by have := hmn i h hin hpu; rw [this] at hnot; cases hnot
    obtain ⟨e, he, rfl, rfl⟩ : ∃ e ∈ es, e.n = k ∧ e.m = i := by
     rcases hp.nout k dn hk i hin hidn with ⟨_, h⟩ | ⟨j, hj, hjn⟩
     ·exact h
     ·exfalso
      unfold hasE at hj; rw [ho] at hj
      exact hjn (hsub j (okEdges_has h2 hj))
    obtain ⟨dn', dt, hn1, ht1, _, _, hps, hdt, hsb, hmd⟩ := hp.edge e he
    rw [hk] at hn1; injection hn1 with hn1; subst hn1
    obtain ⟨g, hg1, hg2⟩ := hE.mem e he
    unfold stE at hg1
    rw [ho] at hg1
    simp only at hg1
    split at hg1
    ·cases hg1
    ·rename_i g1 s1 hst
     split at hg1
     ·cases hg1
     ·rename_i g2 s2 hrp
      split at hg1
      ·cases hg1
      ·rename_i s3 haf
       injection hg1 with hg1; simp only [Prod.mk.injEq] at hg1; obtain ⟨rfl, rfl⟩ := hg1
       obtain ⟨ga, gb⟩ := allP_append.1 hg2
       have next : ∀ v w1, Rel N bs w0 s1 (a'.put o.dst v) w1 → wpAny P .any ops Q f (listed.setIfInBounds e.m true) (a.put o.dst v) w1 := fun v w1 hR1 => by
        obtain ⟨a2, hR2, hl2⟩ := runP_ok hT hp.nosel e.ps g2 s1 _ hrp gb hR1
        refine ih e.t dt _ _ a2 w1 (by simpa using hs) hcl' ht1 (fun j hj => ?_) (fun j hj hjs hjp => ?_) hcnt' (after_ok haf hR2) (by rw [put_size]; exact hn) (by rw [put_defers]; exact hd) (fun t ht => ?_)
        ·rw [hgs] at hj
         split at hj
         ·rename_i e2; rw [e2]; exact hmd
         ·exact hsb j (hsub j hj)
        ·rw [hgs]; split
         ·rfl
         ·rename_i hne
          rcases hdt j hj with h | h | h
          ·exact absurd h hne
          ·exact absurd (hps j h).1 hjp
          ·exact hmn j h hjs hjp
        ·have hold : ∀ p q, p ∈ pu → ops[p]? = some q → q.dst = some t → listed.getD p false = true := fun p q hpp hq hdq => by
          have := ht p q hpp hq hdq
          rw [hgs] at this
          split at this
          ·rename_i e2; subst e2; exact absurd hpp hpu
          ·exact this
         rw [hl2 t (fun p hpp q hq hdq => by
          have h3 := hps p hpp
          exact h3.2 (hsub p (hold p q h3.1 hq hdq)))]
         by_cases e2 : o.dst = some t
         ·rw [e2]
          by_cases hlt : t < N
          ·rw [getD_put_same _ _ _ (by rw [hn]; exact hlt), getD_put_same _ _ _ (by rw [hR.size]; exact hlt)]
          ·have e3 : ∀ (x : Act), x.tmps.size = N → x.tmps.getD t undef = undef := fun x hx => by
            rw [Array.getD_eq_getD_getElem?, Array.getElem?_eq_none (by rw [hx]; exact Nat.le_of_not_lt hlt)]; rfl
           rw [e3 _ (by rw [put_size]; exact hn), e3 _ (by rw [put_size]; exact hR.size)]
         ·rw [getD_put_other _ _ _ _ e2, getD_put_other _ _ _ _ e2]
          exact hl t hold
       have hgo := stG_ok hT hF hst ga hR (Q := fun _ _ _ => False) (K := fun a1 w1 => Rel N bs w0 s1 a1 w1) (fun _ _ h => h)
       rw [wanted_look hsz hlk]
       split at hgo
       ·rename_i hw
        rw [if_pos hw]
        rcases hgo with hgo | ⟨_, _, _, hf⟩
        ·exact .inl (Oper.wp_mono (fun a1 w1 ⟨v, hv, hR1⟩ => by rw [hv]; exact next v w1 hR1) (wp_shift (exec_look (hp.nosel e.m o ho) hlk) (fun _ _ h => h.dfr) hgo))
        ·exact hf.elim
       ·rename_i hw
        rw [if_neg hw]
        exact next undef w hgo
theorem W_regG (hT : TabOk P T) (hF : ∀ i, FtOk P (Kp bs w0) (ft i)) (hm : P.follows .mixedOrders = true) {id : Nat} {l : List Oper} (asm : List (Nat × Bool)) (pu : List Nat) (nodes : List (List Nat)) (sts : List S) (ps0 : List Nat) (es : List Ed) (rd : List (Nat × Nat)) (fin : Nat) (live0 objs0 : List Nat) (cs : List Co) (live objs : List Nat) {s' : S}
  (hr : okPlan l.toArray N pu nodes ps0 es rd fin = true)
  (h0 : ∃ g, st0 T N l.toArray asm ps0 [] live0 objs0 s = some (g, sts.getD 0 s) ∧ allP g)
  (hE : AllE T ft N l.toArray asm sts s es) (hD : AllR T l.toArray asm sts s rd)
  (hf : after cs live objs (sts.getD fin s) = some s')
  {Q : Exit → S → Prop} (hQ : Q .normal s') : W P N bs w0 (.region id l.toArray true) s Q := by
 intro a w hR
 have hp := Pln.of hr
 obtain ⟨g, hg1, hg2⟩ := h0
 have hR' : Rel N bs w0 s a w.drew := by
  obtain ⟨r1, r2, ρ, r3⟩ := hR
  exact ⟨r1, r2, ρ, r3.fr, r3.gl, fun i o ho => (r3.hp i o ho).keep fun _ _ _ => rfl, r3.sep, r3.own, r3.kp.drew⟩
 unfold st0 at hg1
 split at hg1
 ·cases hg1
 rename_i g0 s1 hrun
 split at hg1
 ·cases hg1
 rename_i s2 haf
 injection hg1 with hg1; simp only [Prod.mk.injEq] at hg1; obtain ⟨rfl, rfl⟩ := hg1
 obtain ⟨a', hR1, hl⟩ := runP_ok hT hp.nosel ps0 g0 s a hrun hg2 hR'
 have hR2 := after_ok haf hR1
 obtain ⟨dn, hdn, hdp⟩ := hp.zero
 have none' : ∀ i d, (Array.replicate l.toArray.size false).getD i d = true → d = true := fun i d h => by
  simp only [Array.getD_eq_getD_getElem?, Array.getElem?_replicate] at h
  split at h
  ·cases h
  ·exact h
 refine wp_region_any hm (any_G hT hF hp hE hD (Q := fun ex a' w' => ∃ s', Q ex s' ∧ Rel N bs w0 s' a' w') (fun a w h => ⟨s', hQ, after_ok hf h⟩) _ 0 dn _ a a' w.drew (by simp) (fun j o ho hlj => ?_) hdn (fun i hi => ?_) (fun i hi _ hn => absurd (hdp i hi) hn) ?_ hR2 hR.size hR.dfr (fun t ht => ?_))
 ·have := (Array.getElem?_eq_some_iff.1 ho).1
  simp only [Array.getD_eq_getD_getElem?, Array.getElem?_replicate, if_pos this, Option.getD_some] at hlj
  cases hlj
 ·have := none' i false hi; cases this
 ·have : ∀ m, m ≤ l.toArray.size → cnt (fun j => (Array.replicate l.toArray.size false).getD j true) m ≤ m := by
   intro m
   induction m with
   | zero => intro _; exact Nat.le_refl _
   | succ m ih => intro hm; simp only [cnt]; have := ih (by omega); split <;> omega
  exact this _ (Nat.le_refl _)
 ·refine (hl t (fun i hi o ho hd => ?_)).symm
  have := none' i false (ht i o (hp.start i hi) ho hd); cases this
end
end Go.Sx
end
section
namespace Go.Sx
open Go.RowKit Go.Ch
abbrev kI (n : Int) : AV := .c (.s (.k .i64 n))
abbrev kB (b : Bool) : AV := .c (.s (.b b))
abbrev kH (i : Nat) : AV := .c (.wh i)
abbrev kU (x : UInt8) : AV := .c (.s (.u8 x))
abbrev kE (t : TypeId) (o : Option Int) : AV := .c (.s (.er t .i64 o))
abbrev kP (i off : Nat) : AV := .c (.pt i off)
abbrev ob (e : TypeId) (l : List UInt8) : Oj := ⟨.ro false, e, 1, l.length, .b l⟩
abbrev nb (e : TypeId) (l : List UInt8) : Oj := ⟨.row, e, 1, l.length, .b l⟩
abbrev nw (e : TypeId) (l : List UInt32) : Oj := ⟨.row, e, 1, l.length, .w l⟩
abbrev nz (e : TypeId) (l : List Int) : Oj := ⟨.row, e, 1, l.length, .z l⟩
theorem aP {p : Prop} {ps : List Prop} (h : p) (hs : allP ps) : allP (p :: ps) := allP_cons.2 ⟨h, hs⟩
theorem aN : allP [] := allP_nil
section
variable {P : Program} {T : Tab} {ρ : Pls} {w w' : World} {bs : Bs} {w0 : World} {s : S} {a : Act} {N : Nat} {ft : Nat → FT} {Q : Exit → S → Prop}
theorem fM (k : Nat) {J : World → Prop} {f : FuncId} {F : CtM} {l : List (Nat × FuncId × CtS)} (h : FnMOk P f F) (hl : ∀ i, FtOk P J (ftL l i)) : ∀ i, FtOk P J (ftL ((k, f, .m F) :: l) i) := ftL_consM h hl
theorem fT (k : Nat) {J : World → Prop} {f : FuncId} {F : Ct} {l : List (Nat × FuncId × CtS)} (h : FnOk P Tr f F) (hl : ∀ i, FtOk P J (ftL l i)) : ∀ i, FtOk P J (ftL ((k, f, .p F) :: l) i) := ftL_cons h (fun _ _ => True.intro) hl
theorem fN {J : World → Prop} : ∀ i, FtOk P J (ftL [] i) := ftL_nil
theorem Vr (hT : TabOk P T) {id : Nat} {l : List Oper} (objs : List Nat) (s' : S) (hQ : Q .normal s') (h : reg T (ftL []) N [] [] (s'.fr.map (·.1)) objs l s = some ([], s') := by kernel_rfl) :
  W P N bs w0 (.region id l.toArray false) s Q := W_reg hT ftL_nil [] [] _ objs h allP_nil hQ
theorem Vrs (hT : TabOk P T) {id : Nat} {l : List Oper} {y : Code} (objs : List Nat) (s' : S) (hQ : W P N bs w0 y s' Q) (h : reg T (ftL []) N [] [] (s'.fr.map (·.1)) objs l s = some ([], s') := by kernel_rfl) :
  W P N bs w0 (.seq (.region id l.toArray false) y) s Q := W_seq (Vr hT objs s' hQ h)
theorem Vg (hT : TabOk P T) (hF : ∀ i, FtOk P (Kp bs w0) (ft i)) {id : Nat} {l : List Oper} (asm : List (Nat × Bool)) (cs : List Co) (objs : List Nat) {g : List Prop} (s' : S) (hg : allP g) (hQ : Q .normal s') (h : reg T ft N asm cs (s'.fr.map (·.1)) objs l s = some (g, s') := by kernel_rfl) :
  W P N bs w0 (.region id l.toArray false) s Q := W_reg hT hF asm cs _ objs h hg hQ
theorem Vgs (hT : TabOk P T) (hF : ∀ i, FtOk P (Kp bs w0) (ft i)) {id : Nat} {l : List Oper} {y : Code} (asm : List (Nat × Bool)) (cs : List Co) (objs : List Nat) {g : List Prop} (s' : S) (hg : allP g) (hQ : W P N bs w0 y s' Q) (h : reg T ft N asm cs (s'.fr.map (·.1)) objs l s = some (g, s') := by kernel_rfl) :
  W P N bs w0 (.seq (.region id l.toArray false) y) s Q := W_seq (Vg hT hF asm cs objs s' hg hQ h)
theorem Vd (hT : TabOk P T) (hF : ∀ i, FtOk P (Kp bs w0) (ft i)) {id : Nat} {l : List Oper} (k : Nat) (asm ks : List (Nat × Bool)) (cs : List Co) (objs : List Nat) {g : List Prop} (s' : S) (hg : allP g) (hQ : Q .normal s')
  (hm : P.follows .mixedOrders = true := by kernel_rfl) (hr : (okRegion l.toArray k N && decide (k ≤ l.length)) = true := by kernel_rfl) (h : regD T ft N k asm ks cs (s'.fr.map (·.1)) objs l s = some (g, s') := by kernel_rfl) :
  W P N bs w0 (.region id l.toArray true) s Q := W_regD hT hF hm k asm ks cs _ objs hr h hg hQ
theorem Vds (hT : TabOk P T) (hF : ∀ i, FtOk P (Kp bs w0) (ft i)) {id : Nat} {l : List Oper} {y : Code} (k : Nat) (asm ks : List (Nat × Bool)) (cs : List Co) (objs : List Nat) {g : List Prop} (s' : S) (hg : allP g) (hQ : W P N bs w0 y s' Q)
  (hm : P.follows .mixedOrders = true := by kernel_rfl) (hr : (okRegion l.toArray k N && decide (k ≤ l.length)) = true := by kernel_rfl) (h : regD T ft N k asm ks cs (s'.fr.map (·.1)) objs l s = some (g, s') := by kernel_rfl) :
  W P N bs w0 (.seq (.region id l.toArray true) y) s Q := W_seq (Vd hT hF k asm ks cs objs s' hg hQ hm hr h)
theorem Vc {c : Code} (cs : List Co) (objs : List Nat) (s' : S) (hW : W P N bs w0 c s' Q) (h : after cs (s'.fr.map (·.1)) objs s = some s' := by kernel_rfl) : W P N bs w0 c s Q := W_co cs _ objs h hW
theorem Vi {t : Nat} {x y : Code} (b : Bool) (hx : b = true → W P N bs w0 x s Q) (hy : b = false → W P N bs w0 y s Q) (hb : s.fr.lookup t = some (.c (.s (.b b))) := by kernel_rfl) : W P N bs w0 (.cond (.tmp t) x y) s Q := W_cond hb hx hy
end
theorem gd2 {α : Type} {p q : Prop} [Decidable p] [Decidable q] {x : Option α} {r : α} (h : gd p (gd q x) = some r) : p ∧ q ∧ x = some r := ⟨(gd_some h).1, gd_some (gd_some h).2⟩
theorem gd3 {α : Type} {p q p3 : Prop} [Decidable p] [Decidable q] [Decidable p3] {x : Option α} {r : α} (h : gd p (gd q (gd p3 x)) = some r) : p ∧ q ∧ p3 ∧ x = some r := ⟨(gd_some h).1, gd2 (gd_some h).2⟩
theorem gd4 {α : Type} {p q p3 p4 : Prop} [Decidable p] [Decidable q] [Decidable p3] [Decidable p4] {x : Option α} {r : α} (h : gd p (gd q (gd p3 (gd p4 x))) = some r) : p ∧ q ∧ p3 ∧ p4 ∧ x = some r := ⟨(gd_some h).1, gd3 (gd_some h).2⟩
theorem gd5 {α : Type} {p q p3 p4 p5 : Prop} [Decidable p] [Decidable q] [Decidable p3] [Decidable p4] [Decidable p5] {x : Option α} {r : α} (h : gd p (gd q (gd p3 (gd p4 (gd p5 x)))) = some r) : p ∧ q ∧ p3 ∧ p4 ∧ p5 ∧ x = some r := ⟨(gd_some h).1, gd4 (gd_some h).2⟩
def ct0 (k : Hp → List Prop × AV × List Oj) : Ct := fun args H => match args with | [] => some (k H) | _ => none
def ctc {α : Type} (rd : Hp → AV → Option α) (k : AV → α → Ct) : Ct := fun args H => match args with | x :: xs => (match rd H x with | some a => k x a xs H | none => none) | [] => none
theorem ct0_inv {k : Hp → List Prop × AV × List Oj} {args : List AV} {H : Hp} {g : List Prop} {av : AV} {os : List Oj} (h : ct0 k args H = some (g, av, os)) : args = [] ∧ (k H).1 = g ∧ (k H).2.1 = av ∧ (k H).2.2 = os := by
 unfold ct0 at h
 split at h
 ·injection h with h; rw [h]; exact ⟨rfl, rfl, rfl, rfl⟩
 ·cases h
theorem ctc_inv {α : Type} {rd : Hp → AV → Option α} {k : AV → α → Ct} {args : List AV} {H : Hp} {y : List Prop × AV × List Oj} (h : ctc rd k args H = some y) : ∃ x xs a, args = x :: xs ∧ rd H x = some a ∧ k x a xs H = some y := by
 cases args with
 | nil => cases h
 | cons x xs =>
  simp only [ctc] at h
  split at h
  ·rename_i a ha; exact ⟨x, xs, a, rfl, ha, h⟩
  ·cases h
end Go.Sx
end
section
namespace Go.Sx
open Go.RowKit Go.Ch
abbrev Pat (ps : List Pl) (k : Nat) (ρ' : Pls) : Prop := ∀ j p, ps[j]? = some p → ρ' (k + j) = p
structure Rd (α : Type) where
 rd : Hp → AV → Option α
 op : Nat → α → AV
 os : Nat → α → List Oj
 pr : α → Prop
 ok : ∀ {ρ : Pls} {w : World} {H : Hp} {x : AV} {a : α} {v : Value}, HpR ρ w H → rd H x = some a → avR ρ x v → pr a ∧ ∃ ps : List Pl, (∀ k, (os k a).length = ps.length ∧ allRo (os k a) = true) ∧ ∀ (k : Nat) (ρ' : Pls), Pat ps k ρ' → F2 (fun o p => objR ρ' w p o) (os k a) ps ∧ avR ρ' (op k a) v
structure RdL (α : Type) where
 n : Nat
 rd : Hp → List Cl → Option α
 op : Nat → α → List Cl
 os : Nat → α → List Oj
 ok : ∀ {ρ : Pls} {w : World} {H : Hp} {x : List Cl} {a : α} {v : List Value}, HpR ρ w H → rd H x = some a → F2 (clR ρ) x v → ∃ ps : List Pl, (∀ k, (os k a).length = ps.length ∧ allRo (os k a) = true) ∧ ∀ (k : Nat) (ρ' : Pls), Pat ps k ρ' → F2 (fun o p => objR ρ' w p o) (os k a) ps ∧ F2 (clR ρ') (op k a) v
theorem Rd.p1 {w : World} {p : Pl} {o : Oj} {v : Value} (hr : allRo [o] = true) (hv : v = .slice p.A p.n p.cap) (h : ∀ ρ', objR ρ' w p o) : ∃ ps : List Pl, (∀ _ : Nat, [o].length = ps.length ∧ allRo [o] = true) ∧ ∀ (k : Nat) (ρ' : Pls), Pat ps k ρ' → F2 (fun o p => objR ρ' w p o) [o] ps ∧ avR ρ' (kH k) v :=
 ⟨[p], fun _ => ⟨rfl, hr⟩, fun k ρ' hk => ⟨F2.cons (h ρ') F2.nil, by have e := hk 0 p rfl; rw [Nat.add_zero] at e; show _ = _; rw [e]; exact hv⟩⟩
theorem allRo_append : ∀ {a b : Hp}, allRo a = true → allRo b = true → allRo (a ++ b) = true
 | [], _, _, hb => hb
 | x :: l, b, ha, hb => by
  simp only [allRo, Bool.and_eq_true, List.cons_append] at ha ⊢
  exact ⟨ha.1, allRo_append ha.2 hb⟩
abbrev rB (e : TypeId) : Rd (List UInt8) := ⟨aB, fun k _ => kH k, fun _ l => [ob e l], fun _ => True, fun hp h hv => by
 obtain ⟨p, s, o⟩ := aB_ok hp h hv e
 exact ⟨True.intro, Rd.p1 rfl s o⟩⟩
abbrev rI : Rd Int := ⟨fun _ => aI, fun _ n => kI n, fun _ _ => [], fun _ => True, fun _ h hv => ⟨True.intro, [], fun _ => ⟨rfl, rfl⟩, fun _ _ _ => ⟨F2.nil, aI_ok h hv⟩⟩⟩
abbrev rU8 : Rd UInt8 := ⟨fun _ => aU8, fun _ n => kU n, fun _ _ => [], fun _ => True, fun _ h hv => ⟨True.intro, [], fun _ => ⟨rfl, rfl⟩, fun _ _ _ => ⟨F2.nil, aU8_ok h hv⟩⟩⟩
def erO (t : TypeId) (c : Cl) : Option (Option Int) := match c with
 | .s (.v v) => (match v with | .nilIface => some none | _ => none)
 | .s (.er t' k e) => (match Nat.beq t' t, k with | true, .i64 => some e | _, _ => none)
 | _ => none
theorem erO_ok {ρ ρ' : Pls} {t : TypeId} {c : Cl} {e : Option Int} {v : Value} (h : erO t c = some e) (hv : clR ρ c v) : clR ρ' (.s (.er t .i64 e)) v := by
 unfold erO at h
 split at h
 ·split at h
  ·injection h with h; subst h; exact hv
  ·cases h
 ·split at h
  ·rename_i hb
   injection h with h; subst h
   rw [← Nat.eq_of_beq_eq_true hb]; exact hv
  ·cases h
 ·cases h
def aEr (t : TypeId) : AV → Option (Option Int)
 | .c c => erO t c
 | _ => none
abbrev rEr (t : TypeId) : Rd (Option Int) := ⟨fun _ => aEr t, fun _ e => kE t e, fun _ _ => [], fun _ => True, fun {ρ w H x a v} _ h hv => ⟨True.intro, [], fun _ => ⟨rfl, rfl⟩, fun _ _ _ => ⟨F2.nil, by
 cases x with
 | c c => exact erO_ok (ρ' := ρ) (show erO t c = some a from h) hv
 | _ => cases h⟩⟩⟩
def castD (x y : Dsh) (l : List y.T) : Option (List x.T) := if h : y = x then some (h ▸ l) else none
def aD0 (x : Dsh) (H : Hp) : AV → Option (List x.T)
 | .c .nils => some []
 | .c (.wh i) => (match H[i]? with | some o => (match o.kd, o.cs with | .dp _, .d y l => castD x y l | _, _ => none) | none => none)
 | .c (.sl i lo n) => (match H[i]? with | some o => (match o.kd, o.cs with | .dp _, .d y l => castD x y ((l.drop lo).take n) | _, _ => none) | none => none)
 | .c (.dv i p) => (match dvD H i p with | some ⟨.sl _ y, t⟩ => castD x y t | _ => none)
 | _ => none
theorem DR.map {w : World} {F : Nat → Prop} {gv gv' : Way → Value} : ∀ (x : Dsh) (t : x.T) (c c' : Nat → Way) (f : Nat), (∀ q g, f ≤ g → g < f + x.sz → gv' (q ++ c' g) = gv (q ++ c g)) → DR w F gv x t c f → DR w F gv' x t c' f
 | .u8, t, c, c', f, hg, h => (hg [] f (Nat.le_refl _) (Nat.lt_succ_self f)).trans h
 | .u32, t, c, c', f, hg, h => (hg [] f (Nat.le_refl _) (Nat.lt_succ_self f)).trans h
 | .i64, t, c, c', f, hg, h => (hg [] f (Nat.le_refl _) (Nat.lt_succ_self f)).trans h
 | .by _, t, c, c', f, hg, h => by
  obtain ⟨A, cap, h1, h2⟩ := h
  exact ⟨A, cap, (hg [] f (Nat.le_refl _) (Nat.lt_succ_self f)).trans h1, h2⟩
 | .wo _, t, c, c', f, hg, h => by
  obtain ⟨A, cap, h1, h2⟩ := h
  exact ⟨A, cap, (hg [] f (Nat.le_refl _) (Nat.lt_succ_self f)).trans h1, h2⟩
 | .sl _ x, t, c, c', f, hg, h => by
  obtain ⟨A, cap, h1, h2, h3, h4, h5, h6⟩ := h
  refine ⟨A, cap, (hg [] f (Nat.le_refl _) (Nat.lt_succ_self f)).trans h1, h2, h3, h4, h5, fun k y hy => ⟨fun ad ha g hgl => ?_, ?_⟩⟩
  ·rw [(h6 k y hy).1 ad ha g hgl]
   exact congrArg some (hg [(k, g)] f (Nat.le_refl _) (Nat.lt_succ_self f)).symm
  ·refine DR.map x y _ _ 0 (fun q g _ _ => ?_) (h6 k y hy).2
   have := hg (q ++ [(k, g)]) f (Nat.le_refl _) (Nat.lt_succ_self f)
   simpa using this
 | .pr a b, t, c, c', f, hg, h => ⟨DR.map a t.1 c c' f (fun q g h1 h2 => hg q g h1 (by show g < f + (a.sz + b.sz); omega)) h.1, DR.map b t.2 c c' _ (fun q g h1 h2 => hg q g (by omega) (by show g < f + (a.sz + b.sz); omega)) h.2⟩
theorem DR.shift {w : World} {F : Nat → Prop} {gv : Way → Value} : ∀ (x : Dsh) (t : x.T) (c : Nat → Way) (f s : Nat), DR w F gv x t c f → DR w F gv x t (fun g => c (g - s)) (f + s)
 | .u8, t, c, f, s, h => by show gv (c (f + s - s)) = _; rw [Nat.add_sub_cancel]; exact h
 | .u32, t, c, f, s, h => by show gv (c (f + s - s)) = _; rw [Nat.add_sub_cancel]; exact h
 | .i64, t, c, f, s, h => by show gv (c (f + s - s)) = _; rw [Nat.add_sub_cancel]; exact h
 | .by _, t, c, f, s, h => by
  have e : c (f + s - s) = c f := by rw [Nat.add_sub_cancel]
  obtain ⟨A, cap, h1, h2⟩ := h
  exact ⟨A, cap, (congrArg gv e).trans h1, h2⟩
 | .wo _, t, c, f, s, h => by
  have e : c (f + s - s) = c f := by rw [Nat.add_sub_cancel]
  obtain ⟨A, cap, h1, h2⟩ := h
  exact ⟨A, cap, (congrArg gv e).trans h1, h2⟩
 | .sl _ x, t, c, f, s, h => by
  have e : c (f + s - s) = c f := by rw [Nat.add_sub_cancel]
  obtain ⟨A, cap, h1, h2, h3, h4, h5, h6⟩ := h
  refine ⟨A, cap, (congrArg gv e).trans h1, h2, h3, h4, h5, fun k y hy => ⟨fun ad ha g hg => ((h6 k y hy).1 ad ha g hg).trans ?_, ?_⟩⟩
  ·show _ = some (gv ((k, g) :: c (f + s - s)))
   rw [e]
  ·show DR w F gv x y (fun g => (k, g) :: c (f + s - s)) 0
   rw [e]; exact (h6 k y hy).2
 | .pr a b, t, c, f, s, h => ⟨DR.shift a t.1 c f s h.1, by have := DR.shift b t.2 c (f + a.sz) s h.2; rwa [show f + a.sz + s = f + s + a.sz by omega] at this⟩
theorem DR.foot {w : World} {F F' : Nat → Prop} {gv : Way → Value} (hF : ∀ g, F g → F' g) : ∀ (x : Dsh) (t : x.T) (c : Nat → Way) (f : Nat), DR w F gv x t c f → DR w F' gv x t c f
 | .u8, _, _, _, h => h
 | .u32, _, _, _, h => h
 | .i64, _, _, _, h => h
 | .by _, t, c, f, h => by
  obtain ⟨A, cap, h1, h2, h3, h4, h5, h6⟩ := h
  exact ⟨A, cap, h1, h2, h3, h4, fun ad ha hl => hF _ (h5 ad ha hl), h6⟩
 | .wo _, t, c, f, h => by
  obtain ⟨A, cap, h1, h2, h3, h4, h5, h6⟩ := h
  exact ⟨A, cap, h1, h2, h3, h4, fun ad ha hl => hF _ (h5 ad ha hl), h6⟩
 | .sl _ x, t, c, f, h => by
  obtain ⟨A, cap, h1, h2, h3, h4, h5, h6⟩ := h
  exact ⟨A, cap, h1, h2, h3, h4, fun ad ha hl => hF _ (h5 ad ha hl), fun k y hy => ⟨(h6 k y hy).1, DR.foot hF x y _ 0 (h6 k y hy).2⟩⟩
 | .pr a b, t, c, f, h => ⟨DR.foot hF a t.1 c f h.1, DR.foot hF b t.2 c _ h.2⟩
theorem castD_ok {x y : Dsh} {l : List y.T} {l' : List x.T} (h : castD x y l = some l') : ∃ e : y = x, e ▸ l = l' := by
 unfold castD at h
 split at h
 ·rename_i e; injection h with h; exact ⟨e, h⟩
 ·cases h
def atB (ρ : Pls) (H : Hp) (g : Nat) : Prop := ∃ i o, H[i]? = some o ∧ objAt (ρ i) o g
theorem atB_lt {ρ : Pls} {w : World} {H : Hp} (hp : HpR ρ w H) (g : Nat) (h : atB ρ H g) : g < w.heap.size := by
 obtain ⟨i, o, h1, h2⟩ := h; exact objAt_lt (hp i o h1) h2
theorem vcs_at {ρ : Pls} {w : World} {H : Hp} (hp : HpR ρ w H) {x : Cl} {sz n : Nat} {cs : Cs} (h : vcs H x = some (sz, n, cs)) {v : Value} (hv : clR ρ x v) {ad : Addr} {m c : Nat} (hv2 : v = .slice (some ad) m c) (h0 : 0 < m) (hsz : 0 < sz) : atB ρ H ad.block := by
 have key : ∀ {i : Nat} {o : Oj} {ad0 : Addr}, liveS H i = some o → o.sz = sz → (ρ i).A = some ad0 → ad0.block = ad.block → 0 < (ρ i).n → atB ρ H ad.block := by
  intro i o ad0 hl hs hA hb hn
  obtain ⟨h1, h2⟩ := liveS_ok hl
  obtain ⟨⟨e1, e2, e3⟩, _⟩ := (hp i o h1).read (nd h2)
  refine ⟨i, o, h1, ?_⟩
  unfold objAt
  rcases h2 with ⟨b, hk⟩ | hk | ⟨b, hk⟩
  ·simp only [hk]; exact ⟨by rw [e1, hs]; exact Nat.ne_of_gt (Nat.mul_pos hn hsz), ad0, hA, hb⟩
  ·simp only [hk]; exact ⟨ad0, hA, hb⟩
  ·simp only [hk]
   have hr := hp i o h1
   unfold objR at hr
   simp only [hk] at hr
   unfold DpR at hr
   split at hr
   ·obtain ⟨⟨f1, f2, f3, f4⟩, k1, _, A, cap, k3, k4, k5, k6, k7, _⟩ := hr
    rw [k1] at k3
    injection k3 with a1 a2 a3
    rw [← hb]
    exact k7 ad0 (a1 ▸ hA) (by omega)
   ·exact hr.elim
 cases x with
 | wh i =>
  obtain ⟨o, hl, h1, _⟩ := vcs_wh hp h
  rw [show v = _ from hv] at hv2
  injection hv2 with a1 a2 a3
  exact key hl h1 a1 rfl (by omega)
 | sl i lo k =>
  simp only [vcs] at h
  split at h
  ·rename_i o hl
   injection h with h; simp only [Prod.mk.injEq] at h
   obtain ⟨k1, A, c', hve, k2, k3, k4, k5⟩ := hv
   rw [hve] at hv2
   injection hv2 with a1 a2 a3
   have k6 := k5 (by omega)
   cases hA : (ρ i).A with
   | none => rw [hA, a1] at k6; cases k6
   | some ad0 =>
    rw [hA, a1] at k6
    injection k6 with k6
    exact key hl h.1 hA (by rw [k6, block_add]) (by omega)
  ·cases h
 | dv i p =>
  have fin : ∀ {y : Dsh} {u : y.T} {A : Option Addr} {L cap : Nat}, dvD H i p = some ⟨y, u⟩ → v = .slice A L cap → (∀ ad, A = some ad → 0 < L → (ρ i).foot ad.block) → atB ρ H ad.block := by
   intro y u A L cap hd hve hf
   rw [hve] at hv2
   injection hv2 with a1 a2 a3
   unfold dvD at hd
   split at hd
   ·cases hd
   ·rename_i o ho
    split at hd
    ·rename_i x' l' hk hcs
     refine ⟨i, o, ho, ?_⟩
     unfold objAt
     simp only [hk]
     exact hf ad a1 (by omega)
    ·cases hd
  simp only [vcs] at h
  split at h
  ·rename_i e t hd
   obtain ⟨c', f, hc, A, cap, k1, k2, k3, k4, k5, k6⟩ := dvD_ok hp hd hv.2.1
   exact fin hd (by rw [hv.1, ← hc]; exact k1) k5
  ·rename_i e t hd
   obtain ⟨c', f, hc, A, cap, k1, k2, k3, k4, k5, k6⟩ := dvD_ok hp hd hv.2.1
   exact fin hd (by rw [hv.1, ← hc]; exact k1) k5
  ·cases h
 | gi i k =>
  simp only [vcs] at h
  split at h
  ·rename_i l hl
   obtain ⟨A, cap, hve, k1, k2, k3, k5, k6⟩ := giD_ok hp hl hv
   rw [hve] at hv2
   injection hv2 with a1 a2 a3
   have hf := k5 ad a1 (by omega)
   unfold giD at hl
   split at hl
   ·rename_i o ho
    refine ⟨i, o, ho, ?_⟩
    unfold objAt
    split at hl
    ·rename_i hk hc; simp only [hk]; exact hf
    ·rename_i hk hc; simp only [hk]; exact hf
    ·cases hl
   ·cases hl
  ·cases h
 | _ => cases h
theorem viewB_vcs {H : Hp} {x : Cl} {l : List UInt8} (h : viewB H x = some l) : x = .nils ∨ ∃ n cs, vcs H x = some (1, n, cs) := by
 cases x with
 | nils => exact .inl rfl
 | wh i =>
  simp only [viewB] at h
  split at h
  ·rename_i o hl
   split at h
   ·rename_i hs hc; exact .inr ⟨o.n, o.cs, by simp only [vcs, hl, dpX, hc, hs]⟩
   ·cases h
  ·cases h
 | sl i lo n =>
  simp only [viewB] at h
  split at h
  ·rename_i o hl
   split at h
   ·rename_i hs hc; exact .inr ⟨n, _, by simp only [vcs, hl, hs]; rfl⟩
   ·cases h
  ·cases h
 | dv i p =>
  simp only [viewB] at h
  split at h
  ·rename_i e t hd; exact .inr ⟨_, _, by simp only [vcs, hd]; rfl⟩
  ·cases h
 | gi i k => exact .inr ⟨_, _, by simp only [vcs]; rw [show giD H i k = some l from h]⟩
 | _ => cases h
theorem viewB_at {ρ : Pls} {w : World} {H : Hp} (hp : HpR ρ w H) {x : Cl} {l : List UInt8} (h : viewB H x = some l) {v : Value} (hv : clR ρ x v) {ad : Addr} {n c : Nat} (hv2 : v = .slice (some ad) n c) (h0 : 0 < n) : atB ρ H ad.block := by
 rcases viewB_vcs h with rfl | ⟨n', cs, h1⟩
 ·rw [show v = _ from hv] at hv2; cases hv2
 ·exact vcs_at hp h1 hv hv2 h0 Nat.one_pos
theorem viewW_at {ρ : Pls} {w : World} {H : Hp} (hp : HpR ρ w H) {x : Cl} {l : List UInt32} (h : viewW H x = some l) {v : Value} (hv : clR ρ x v) {ad : Addr} {n c : Nat} (hv2 : v = .slice (some ad) n c) (h0 : 0 < n) : atB ρ H ad.block := by
 unfold viewW at h
 split at h
 ·rename_i hvc; exact vcs_at hp hvc hv hv2 h0 Nat.one_pos
 ·split at h
  ·rw [show v = _ from hv] at hv2; cases hv2
  ·cases h
theorem aD0_ok {ρ : Pls} {w : World} {x : Dsh} {H : Hp} (hp : HpR ρ w H) {y : AV} {l : List x.T} (h : aD0 x H y = some l) {v : Value} (hv : avR ρ y v) (e : TypeId) :
  ∃ p : Pl, v = .slice p.A p.n p.cap ∧ (∀ g, p.foot g → atB ρ H g) ∧ ∀ ρ', objR ρ' w p ⟨.dp false, e, x.sz, l.length, .d x l⟩ := by
 have dp : ∀ {i : Nat} {o : Oj} {l : List x.T} {fs : Bool}, H[i]? = some o → o.kd = .dp fs → o.cs = .d x l → ((ρ i).sz = x.sz ∧ (ρ i).n = l.length) ∧ (ρ i).gv [] = .slice (ρ i).A (ρ i).n (ρ i).cap ∧ (∀ g, (ρ i).foot g → g < w.heap.size) ∧ DR w (ρ i).foot (ρ i).gv (.sl e x) l (fun _ => []) 0 := by
  intro i o l fs ho hk hc
  have hr := hp i o ho
  unfold objR at hr
  simp only [hk] at hr
  unfold DpR at hr
  split at hr
  ·rename_i x' l' hc'
   rw [hc] at hc'
   cases hc'
   exact ⟨⟨hr.1.1.trans hr.1.2.2.2, hr.1.2.1.trans hr.1.2.2.1⟩, hr.2⟩
  ·exact hr.elim
 unfold aD0 at h
 split at h
 ·injection h with h; subst h
  exact ⟨⟨none, 0, 0, x.sz, fun _ => False, fun _ => .slice none 0 0⟩, hv, fun g hg => hg.elim, fun ρ' => ⟨⟨rfl, rfl, rfl, rfl⟩, rfl, fun g hg => hg.elim, none, 0, rfl, Nat.le_refl _, by simp [maxLen], fun _ => rfl, fun ad ha _ => (nomatch ha), fun k y hy => (nomatch hy)⟩⟩
 ·rename_i i
  split at h
  ·rename_i o ho
   split at h
   ·rename_i y l0 hk hc
    obtain ⟨rfl, rfl⟩ := castD_ok h
    obtain ⟨⟨h1, h2⟩, h3⟩ := dp ho hk hc
    exact ⟨ρ i, hv, fun g hg => ⟨i, o, ho, by unfold objAt; simp only [hk]; exact hg⟩, fun ρ' => ⟨⟨h1, h2, rfl, rfl⟩, h3⟩⟩
   ·cases h
  ·cases h
 ·rename_i i lo n
  split at h
  ·rename_i o ho
   split at h
   ·rename_i y l0 hk hc
    obtain ⟨rfl, rfl⟩ := castD_ok h
    obtain ⟨⟨h1, h2⟩, h3, h4, A0, cap0, h5, h6, h7, h8, h9, h10⟩ := dp ho hk hc
    obtain ⟨g0, A, c, rfl, g1, g2, g3, g4⟩ := hv
    have hlen : ((l0.drop lo).take n).length = n := by rw [List.length_take, List.length_drop]; omega
    rw [h3] at h5
    injection h5 with a1 a2 a3
    rw [h1] at g4
    let gv' : Way → Value := fun q => match q.getLast? with | none => .slice A n c | some (k, g) => (ρ i).gv (q.dropLast ++ [(k + lo, g)])
    have hgv : ∀ (q : Way) (k g : Nat), gv' (q ++ [(k, g)]) = (ρ i).gv (q ++ [(k + lo, g)]) := fun q k g => by
     show (match (q ++ [(k, g)]).getLast? with | none => _ | some (k, g) => _) = _
     rw [List.getLast?_append, List.dropLast_concat]; rfl
    refine ⟨⟨A, n, c, y.sz, (ρ i).foot, gv'⟩, rfl, fun g hg => ⟨i, o, ho, by unfold objAt; simp only [hk]; exact hg⟩, fun ρ' => ⟨⟨rfl, hlen.symm, rfl, rfl⟩, rfl, h4, A, c, ?_, by rw [hlen]; exact g1, g2, g3, fun ad ha hl => ?_, fun k z hz => ⟨fun ad ha g hg => ?_, ?_⟩⟩⟩
    ·show Value.slice A n c = _
     rw [hlen]
    ·have hn : 0 < n := by rw [hlen] at hl; exact hl
     have e1 := g4 hn
     rw [ha] at e1
     cases hA : (ρ i).A with
     | none => rw [hA] at e1; cases e1
     | some ad0 =>
      rw [hA] at e1
      injection e1 with e1; subst e1
      rw [block_add]
      exact h9 ad0 (a1 ▸ hA) (by omega)
    ·have hk2 : k < n := by rw [← hlen]; exact (List.getElem?_eq_some_iff.1 hz).1
     have hz' : gq (α := y.T) l0 (k + lo) = some z := by
      have : ((l0.drop lo).take n)[k]? = some z := hz
      rw [List.getElem?_take, if_pos hk2, List.getElem?_drop, Nat.add_comm] at this
      exact this
     have e1 := g4 (by omega)
     rw [ha] at e1
     cases hA : (ρ i).A with
     | none => rw [hA] at e1; cases e1
     | some ad0 =>
      rw [hA] at e1
      injection e1 with e1; subst e1
      have := (h10 (k + lo) z hz').1 ad0 (a1 ▸ hA) g hg
      rw [add_add, ← Nat.add_assoc, ← Nat.add_mul, Nat.add_comm lo k, this]
      exact congrArg some (hgv [] k g).symm
    ·have hk2 : k < n := by rw [← hlen]; exact (List.getElem?_eq_some_iff.1 hz).1
     have hz' : gq (α := y.T) l0 (k + lo) = some z := by
      have : ((l0.drop lo).take n)[k]? = some z := hz
      rw [List.getElem?_take, if_pos hk2, List.getElem?_drop, Nat.add_comm] at this
      exact this
     exact DR.map y z _ _ 0 (fun q g _ _ => hgv q k g) (h10 (k + lo) z hz').2
   ·cases h
  ·cases h
 ·rename_i i p
  split at h
  ·rename_i e' y t hd
   obtain ⟨rfl, rfl⟩ := castD_ok h
   obtain ⟨c, f, hc, hr⟩ := dvD_ok hp hd hv.2.1
   have hr2 : DR w (ρ i).foot (ρ i).gv (.sl e y) t (fun _ => c f) 0 := hr
   rw [hc] at hr2
   obtain ⟨A, cap, h1, h2, h3, h4, h5, h6⟩ := hr
   refine ⟨⟨A, List.length (α := y.T) t, cap, y.sz, (ρ i).foot, fun q => (ρ i).gv (q ++ p)⟩, by rw [hv.1, ← hc]; exact h1, ?_, fun ρ' => ⟨⟨rfl, rfl, rfl, rfl⟩, by show (ρ i).gv ([] ++ p) = _; rw [List.nil_append, ← hc]; exact h1, ?_, DR.map (.sl e y) t (fun _ => p) (fun _ => []) 0 (fun q _ _ _ => by rw [List.append_nil]) hr2⟩⟩
   ·unfold dvD at hd
    split at hd
    ·cases hd
    ·rename_i o ho
     split at hd
     ·rename_i x' l' hk hcs
      exact fun g hg => ⟨i, o, ho, by unfold objAt; simp only [hk]; exact hg⟩
     ·cases hd
   unfold dvD at hd
   split at hd
   ·cases hd
   ·rename_i o ho
    split at hd
    ·rename_i x' l' hk hcs
     have ho' := hp i o ho
     unfold objR at ho'
     simp only [hk] at ho'
     unfold DpR at ho'
     rw [hcs] at ho'
     exact ho'.2.2.1
    ·cases hd
  ·cases h
 ·cases h
def chunks {α : Type} (f : List Cl → Option α) (m : Nat) : Nat → List Cl → Option (List α)
 | 0, [] => some []
 | 0, _ :: _ => none
 | n + 1, l => match f (l.take m), chunks f m n (l.drop m) with | some a, some r => some (a :: r) | _, _ => none
def rowCl (H : Hp) (sz : Nat) : Cl → Option (Nat × List Cl)
 | .wh i => (match liveR H i with | some o => (match Nat.beq o.sz sz, o.cs with | true, .c l => some (o.n, l) | _, _ => none) | none => none)
 | _ => none
def dU8 (l : List Cl) : Option UInt8 := match l with | [.s (.u8 n)] => some n | _ => none
def dU32 (l : List Cl) : Option UInt32 := match l with | [.s (.u32 n)] => some n | _ => none
def dI64 (l : List Cl) : Option Int := match l with | [.s (.k .i64 n)] => some n | _ => none
def dBy (H : Hp) (l : List Cl) : Option (List UInt8) := match l with | [c] => viewB H c | _ => none
def dWo (H : Hp) (l : List Cl) : Option (List UInt32) := match l with | [c] => viewW H c | _ => none
def dSl (H : Hp) (x : Dsh) (f : List Cl → Option x.T) (l : List Cl) : Option (List x.T) := match l with | [c] => (match aD0 x H (.c c) with | some r => some r | none => (match rowCl H x.sz c with | some (n, cs) => chunks f x.sz n cs | none => none)) | _ => none
def dPr {α β : Type} (f : List Cl → Option α) (g : List Cl → Option β) (m : Nat) (l : List Cl) : Option (α × β) := match f (l.take m), g (l.drop m) with | some y, some z => some (y, z) | _, _ => none
def dcs (H : Hp) : (x : Dsh) → List Cl → Option x.T
 | .u8 => dU8
 | .u32 => dU32
 | .i64 => dI64
 | .by _ => dBy H
 | .wo _ => dWo H
 | .sl _ x => dSl H x (dcs H x)
 | .pr a b => dPr (dcs H a) (dcs H b) a.sz
theorem chunks_ok {α : Type} {f : List Cl → Option α} {m : Nat} (R : List Cl → α → Prop) : ∀ {n : Nat} {l : List Cl} {r : List α}, chunks f m n l = some r → r.length = n ∧ ∀ k y, gq r k = some y → f ((l.drop (k * m)).take m) = some y
 | 0, [], r, h => by injection h with h; subst h; exact ⟨rfl, fun k y hy => nomatch hy⟩
 | 0, _ :: _, r, h => nomatch h
 | n + 1, l, r, h => by
  simp only [chunks] at h
  split at h
  ·rename_i a r' h1 h2
   injection h with h; subst h
   obtain ⟨h3, h4⟩ := chunks_ok R h2
   refine ⟨by simp [h3], fun k y hy => ?_⟩
   cases k with
   | zero => simp only [gq, List.getElem?_cons_zero, Option.some.injEq] at hy; subst hy; simpa using h1
   | succ k =>
    have := h4 k y (by simpa [gq] using hy)
    rw [List.drop_drop] at this
    rwa [Nat.succ_mul, Nat.add_comm]
  ·cases h
theorem DR.mkB {w : World} {B : Nat → Prop} {x : Dsh} {l : List x.T} {A : Option Addr} {cap : Nat} (e : TypeId) (h1 : l.length ≤ cap) (h2 : cap ≤ maxLen) (h3 : A = none → cap = 0)
  (vs : List Value) (hA : At w A vs) (hl : vs.length = l.length * x.sz) (hB : ∀ ad, A = some ad → 0 < l.length → B ad.block)
  (he : ∀ k y, gq l k = some y → ∃ (F : Nat → Prop) (gv : Way → Value), (∀ g, g < x.sz → some (gv [(0, g)]) = vs[k * x.sz + g]?) ∧ (∀ g, F g → B g) ∧ DR w F gv x y (fun g => [(0, g)]) 0) :
  ∃ (F : Nat → Prop) (gv : Way → Value), gv [] = .slice A l.length cap ∧ (∀ g, F g → B g) ∧ DR w F gv (.sl e x) l (fun _ => []) 0 := by
 have he' : ∀ k, ∃ p : (Nat → Prop) × (Way → Value), ∀ y, gq l k = some y → (∀ g, g < x.sz → some (p.2 [(0, g)]) = vs[k * x.sz + g]?) ∧ (∀ g, p.1 g → B g) ∧ DR w p.1 p.2 x y (fun g => [(0, g)]) 0 := by
  intro k
  cases hk : gq l k with
  | none => exact ⟨⟨fun _ => False, fun _ => undef⟩, fun y hy => nomatch hy⟩
  | some y =>
   obtain ⟨F, gv, h⟩ := he k y hk
   exact ⟨⟨F, gv⟩, fun z hz => by injection hz with hz; subst hz; exact h⟩
 obtain ⟨pf, hpf⟩ := Classical.axiomOfChoice he'
 let gv : Way → Value := fun q => match q.getLast? with | none => .slice A l.length cap | some (k, g) => (pf k).2 (q.dropLast ++ [(0, g)])
 have hgv : ∀ (q : Way) (k g : Nat), gv (q ++ [(k, g)]) = (pf k).2 (q ++ [(0, g)]) := fun q k g => by
  show (match (q ++ [(k, g)]).getLast? with | none => _ | some (k, g) => _) = _
  rw [List.getLast?_append, List.dropLast_concat]; rfl
 have hsz := x.sz_pos
 have pos : ∀ {k : Nat} {y : x.T}, gq l k = some y → k < l.length := fun hy => (List.getElem?_eq_some_iff.1 hy).1
 refine ⟨fun g => (0 < l.length ∧ ∃ ad, A = some ad ∧ ad.block = g) ∨ ∃ k, k < l.length ∧ (pf k).1 g, gv, rfl, ?_, A, cap, rfl, h1, h2, h3, fun ad ha hl0 => .inl ⟨hl0, ad, ha, rfl⟩, fun k y hy => ⟨fun ad ha g hg => ?_, ?_⟩⟩
 ·rintro g (⟨h0, ad, ha, rfl⟩ | ⟨k, hk, hg⟩)
  ·exact hB ad ha h0
  ·obtain ⟨y, hy⟩ : ∃ y, gq l k = some y := ⟨l[k], List.getElem?_eq_getElem hk⟩
   exact (hpf k y hy).2.1 g hg
 ·have h5 := (hpf k y hy).1 g hg
  rw [hA ad ha (k * x.sz + g) _ h5.symm]
  exact congrArg some (hgv [] k g).symm
 ·exact DR.map x y _ _ 0 (fun q g _ _ => hgv q k g) (DR.foot (fun g hg => .inr ⟨k, pos hy, hg⟩) x y _ 0 (hpf k y hy).2.2)
theorem DR.mk {w : World} {x : Dsh} {l : List x.T} {A : Option Addr} {cap : Nat} (e : TypeId) (h1 : l.length ≤ cap) (h2 : cap ≤ maxLen) (h3 : A = none → cap = 0)
  (vs : List Value) (hA : At w A vs) (hl : vs.length = l.length * x.sz)
  (he : ∀ k y, gq l k = some y → ∃ (F : Nat → Prop) (gv : Way → Value), (∀ g, g < x.sz → some (gv [(0, g)]) = vs[k * x.sz + g]?) ∧ (∀ g, F g → g < w.heap.size) ∧ DR w F gv x y (fun g => [(0, g)]) 0) :
  ∃ (F : Nat → Prop) (gv : Way → Value), gv [] = .slice A l.length cap ∧ (∀ g, F g → g < w.heap.size) ∧ DR w F gv (.sl e x) l (fun _ => []) 0 :=
 DR.mkB e h1 h2 h3 vs hA hl (fun ad ha h0 => by
  have hv0 : 0 < vs.length := by rw [hl]; exact Nat.mul_pos h0 x.sz_pos
  have := World.block_lt_of_cell? _ _ (hA ad ha 0 vs[0] (List.getElem?_eq_getElem hv0))
  rwa [block_add] at this) he
def RdG (w : World) (B : Nat → Prop) (x : Dsh) (vs : List Value) (t : x.T) : Prop := ∃ (F : Nat → Prop) (gv : Way → Value), (∀ g, g < x.sz → some (gv [(0, g)]) = vs[g]?) ∧ (∀ g, F g → B g) ∧ DR w F gv x t (fun g => [(0, g)]) 0
abbrev RdE (w : World) (x : Dsh) (vs : List Value) (t : x.T) : Prop := RdG w (fun g => g < w.heap.size) x vs t
def RdsOk (ρ : Pls) (w : World) (H : Hp) (x : Dsh) (f : List Cl → Option x.T) : Prop := ∀ (cs : List Cl) (t : x.T), f cs = some t → ∀ (vs : List Value), F2 (clR ρ) cs vs → RdG w (atB ρ H) x vs t
theorem RdE.pr {w : World} {B : Nat → Prop} {a b : Dsh} {vs : List Value} {y : a.T} {z : b.T} (ha : RdG w B a (vs.take a.sz) y) (hb : RdG w B b (vs.drop a.sz) z) : RdG w B (.pr a b) vs (y, z) := by
 obtain ⟨Fa, ga, a1, a2, a3⟩ := ha
 obtain ⟨Fb, gb, b1, b2, b3⟩ := hb
 let gv : Way → Value := fun q => match q.getLast? with | none => undef | some (_, g) => if g < a.sz then ga q else gb (q.dropLast ++ [(0, g - a.sz)])
 have hgv : ∀ (q : Way) (g : Nat), gv (q ++ [(0, g)]) = if g < a.sz then ga (q ++ [(0, g)]) else gb (q ++ [(0, g - a.sz)]) := fun q g => by
  show (match (q ++ [(0, g)]).getLast? with | none => _ | some (_, g) => _) = _
  rw [List.getLast?_append, List.dropLast_concat]; rfl
 refine ⟨fun g => Fa g ∨ Fb g, gv, fun g hg => ?_, fun g hg => hg.elim (a2 g) (b2 g), DR.map a y _ _ 0 (fun q g _ hg => ?_) (DR.foot (fun _ => .inl) a y _ 0 a3), ?_⟩
 ·have := hgv [] g
  rw [List.nil_append] at this
  rw [this]
  have hg' : g < a.sz + b.sz := hg
  split
  ·rename_i hlt
   rw [a1 g hlt, List.getElem?_take, if_pos hlt]
  ·rename_i hlt
   rw [List.nil_append, b1 (g - a.sz) (by omega), List.getElem?_drop]
   congr 1; omega
 ·rw [hgv, if_pos (by omega)]
 ·have := DR.shift b z _ 0 a.sz (DR.foot (F' := fun g => Fa g ∨ Fb g) (fun _ => .inr) b z _ 0 b3)
  refine DR.map b z _ _ _ (fun q g h1 _ => ?_) this
  rw [hgv, if_neg (by omega)]
theorem RdE.sl0 {w : World} {B : Nat → Prop} {x : Dsh} {l : List x.T} (e : TypeId) {v : Value} {F : Nat → Prop} {gv : Way → Value} (k1 : gv [] = v) (k2 : ∀ g, F g → B g) (k3 : DR w F gv (.sl e x) l (fun _ => []) 0) : RdG w B (.sl e x) [v] l := by
 let gv' : Way → Value := fun q => gv q.dropLast
 have hg : ∀ (q : Way) (g : Nat), gv' (q ++ [(0, g)]) = gv q := fun q g => by show gv _ = _; rw [List.dropLast_concat]
 refine ⟨F, gv', fun g hgl => ?_, k2, DR.map (.sl e x) l (fun _ => []) _ 0 (fun q g _ _ => by rw [hg, List.append_nil]) k3⟩
 rw [show g = 0 from Nat.lt_one_iff.1 hgl]
 exact congrArg some ((hg [] 0).trans k1)
theorem RdG.by {w : World} {N : Nat} {B : Nat → Prop} {v : Value} {t : List UInt8} (e : TypeId) (h : Sl w N v (t.map bU)) (hB : ∀ ad n c, v = .slice (some ad) n c → 0 < n → B ad.block) : RdG w B (.by e) [v] t := by
 obtain ⟨_, A, c, rfl, k1, k2, k3, k4⟩ := h
 rw [List.length_map] at k1 hB ⊢
 exact ⟨fun g => ∃ ad, A = some ad ∧ 0 < t.length ∧ ad.block = g, fun _ => .slice A t.length c, fun g hg => by rw [show g = 0 from Nat.lt_one_iff.1 hg]; rfl,
  fun g ⟨ad, ha, hl, hg⟩ => by rw [← hg]; exact hB ad _ _ (by rw [ha]) hl,
  A, c, rfl, k1, k2, k3, fun ad ha hl => ⟨ad, ha, hl, rfl⟩, fun ad ha j u hu => (k4 ad ha j u hu).2⟩
theorem RdG.wo {w : World} {N : Nat} {B : Nat → Prop} {v : Value} {t : List UInt32} (e : TypeId) (h : Sl w N v (t.map w32)) (hB : ∀ ad n c, v = .slice (some ad) n c → 0 < n → B ad.block) : RdG w B (.wo e) [v] t := by
 obtain ⟨_, A, c, rfl, k1, k2, k3, k4⟩ := h
 rw [List.length_map] at k1 hB ⊢
 exact ⟨fun g => ∃ ad, A = some ad ∧ 0 < t.length ∧ ad.block = g, fun _ => .slice A t.length c, fun g hg => by rw [show g = 0 from Nat.lt_one_iff.1 hg]; rfl,
  fun g ⟨ad, ha, hl, hg⟩ => by rw [← hg]; exact hB ad _ _ (by rw [ha]) hl,
  A, c, rfl, k1, k2, k3, fun ad ha hl => ⟨ad, ha, hl, rfl⟩, fun ad ha j u hu => (k4 ad ha j u hu).2⟩
theorem sl_in {w : World} {N : Nat} {v : Value} {vs : List Value} (h : Sl w N v vs) : ∀ ad n c, v = .slice (some ad) n c → 0 < n → ad.block < w.heap.size := by
 obtain ⟨_, A, c, rfl, k1, k2, k3, k4⟩ := h
 intro ad n c' e hn
 injection e with e1 e2 e3
 subst e1; subst e2
 have := World.block_lt_of_cell? _ _ (k4 ad rfl 0 vs[0] (List.getElem?_eq_getElem hn)).2
 rwa [block_add] at this
theorem RdE.by {w : World} {B : Nat} {v : Value} {t : List UInt8} (e : TypeId) (h : Sl w B v (t.map bU)) : RdE w (.by e) [v] t := RdG.by e h (sl_in h)
theorem RdE.wo {w : World} {B : Nat} {v : Value} {t : List UInt32} (e : TypeId) (h : Sl w B v (t.map w32)) : RdE w (.wo e) [v] t := RdG.wo e h (sl_in h)
theorem RdE.s1 {w : World} {B : Nat → Prop} {x : Dsh} {v : Value} {t : x.T} (h : ∀ gv : Way → Value, (∀ q, gv q = v) → DR w (fun _ => False) gv x t (fun g => [(0, g)]) 0) (hx : x.sz = 1) : RdG w B x [v] t :=
 ⟨fun _ => False, fun _ => v, fun g hg => by rw [show g = 0 from Nat.lt_one_iff.1 (hx ▸ hg)]; rfl, fun g hg => hg.elim, h _ fun _ => rfl⟩
section
variable {ρ : Pls} {w : World} {H : Hp}
theorem one0 {v : Value} : ∀ g, g < 1 → some v = [v][g]? := fun g hg => by rw [show g = 0 from Nat.lt_one_iff.1 hg]; rfl
theorem dU8_ok : RdsOk ρ w H .u8 dU8 := fun cs t h vs hv => by
 unfold dU8 at h
 split at h
 ·injection h with h; subst h
  obtain ⟨v, vs, rfl, h1, h2⟩ := hv.uncons
  obtain rfl := h2.unnil
  exact ⟨fun _ => False, fun _ => v, one0, fun g hg => hg.elim, h1⟩
 ·cases h
theorem dU32_ok : RdsOk ρ w H .u32 dU32 := fun cs t h vs hv => by
 unfold dU32 at h
 split at h
 ·injection h with h; subst h
  obtain ⟨v, vs, rfl, h1, h2⟩ := hv.uncons
  obtain rfl := h2.unnil
  exact ⟨fun _ => False, fun _ => v, one0, fun g hg => hg.elim, h1⟩
 ·cases h
theorem dI64_ok : RdsOk ρ w H .i64 dI64 := fun cs t h vs hv => by
 unfold dI64 at h
 split at h
 ·injection h with h; subst h
  obtain ⟨v, vs, rfl, h1, h2⟩ := hv.uncons
  obtain rfl := h2.unnil
  exact ⟨fun _ => False, fun _ => v, one0, fun g hg => hg.elim, h1⟩
 ·cases h
theorem dBy_ok (hp : HpR ρ w H) (e : TypeId) : RdsOk ρ w H (.by e) (dBy H) := fun cs (t : List UInt8) h vs hv => by
 unfold dBy at h
 split at h
 ·obtain ⟨v, vs, rfl, h1, h2⟩ := hv.uncons
  obtain rfl := h2.unnil
  exact RdG.by e (viewB_ok hp h h1) (fun ad n c hv2 hn => viewB_at hp h h1 hv2 hn)
 ·cases h
theorem dWo_ok (hp : HpR ρ w H) (e : TypeId) : RdsOk ρ w H (.wo e) (dWo H) := fun cs (t : List UInt32) h vs hv => by
 unfold dWo at h
 split at h
 ·rename_i c0
  obtain ⟨v, vs, rfl, h1, h2⟩ := hv.uncons
  obtain rfl := h2.unnil
  obtain ⟨p, hI⟩ := aW_ok hp (x := .c c0) h h1 e
  exact RdG.wo e (hI.sl (fun _ _ h => csR_w.1 h) (by simp)) (fun ad n c hv2 hn => viewW_at hp h h1 hv2 hn)
 ·cases h
theorem dPr_ok {a b : Dsh} {f : List Cl → Option a.T} {f' : List Cl → Option b.T} (ha : RdsOk ρ w H a f) (hb : RdsOk ρ w H b f') : RdsOk ρ w H (.pr a b) (dPr f f' a.sz) := fun cs (t : a.T × b.T) h vs hv => by
 unfold dPr at h
 split at h
 ·rename_i y z h1 h2
  injection h with h; subst h
  exact RdE.pr (ha _ y h1 _ (hv.take _)) (hb _ z h2 _ (hv.drop _))
 ·cases h
theorem rowCl_ok (hp : HpR ρ w H) {x : Dsh} {c : Cl} {n : Nat} {cl : List Cl} (h : rowCl H x.sz c = some (n, cl)) {v : Value} (hv : clR ρ c v) :
  ∃ A cap vs, v = .slice A n cap ∧ n ≤ cap ∧ cap ≤ maxLen ∧ (A = none → cap = 0) ∧ F2 (clR ρ) cl vs ∧ At w A vs ∧ vs.length = n * x.sz ∧ ∀ ad, A = some ad → 0 < n → atB ρ H ad.block := by
 unfold rowCl at h
 split at h
 ·rename_i i
  split at h
  ·rename_i o hl
   split at h
   ·rename_i hsz hc
    injection h with h; simp only [Prod.mk.injEq] at h; obtain ⟨rfl, rfl⟩ := h
    obtain ⟨hlS, hi, hkd⟩ := liveR_ok hl
    have hkd' : (∃ b, o.kd = .ro b) ∨ o.kd = .row ∨ ∃ b, o.kd = .dp b := hkd.elim .inl (fun h => .inr (.inl h))
    obtain ⟨⟨e1, e2, e3⟩, vs, hcs, hAt⟩ := (hp i o hi).read (nd hkd')
    obtain ⟨s1, s2, s3⟩ := (hp i o hi).slc hkd'
    have hosz : o.sz = x.sz := Nat.eq_of_beq_eq_true hsz
    refine ⟨_, _, vs, by rw [show v = _ from hv, e2], by rw [← e2]; exact s1, s2, s3, by rw [hc] at hcs; exact hcs, hAt, by rw [hcs.len, e3, hosz], fun ad ha hn => ⟨i, o, hi, ?_⟩⟩
    unfold objAt
    rcases hkd with ⟨b, hk⟩ | hk
    ·simp only [hk]; exact ⟨by rw [e2, e1, hosz]; exact Nat.ne_of_gt (Nat.mul_pos hn x.sz_pos), ad, ha, rfl⟩
    ·simp only [hk]; exact ⟨ad, ha, rfl⟩
   ·cases h
  ·cases h
 ·cases h
theorem dSl_ok (hp : HpR ρ w H) (e : TypeId) {x : Dsh} {f : List Cl → Option x.T} (hx : RdsOk ρ w H x f) : RdsOk ρ w H (.sl e x) (dSl H x f) := fun cs (t : List x.T) h vs hv => by
 unfold dSl at h
 split at h
 ·rename_i c0
  obtain ⟨v, vs, rfl, h1, h2⟩ := hv.uncons
  obtain rfl := h2.unnil
  have key : ∃ (F : Nat → Prop) (gv : Way → Value), gv [] = v ∧ (∀ g, F g → atB ρ H g) ∧ DR w F gv (.sl e x) t (fun _ => []) 0 := by
   split at h
   ·rename_i r hr
    injection h with h; subst h
    obtain ⟨p, rfl, hpf, hpo⟩ := aD0_ok hp hr h1 e
    obtain ⟨k1, k2, k3, k4⟩ := hpo ρ
    exact ⟨p.foot, p.gv, k2, hpf, k4⟩
   ·split at h
    ·rename_i n cl hrow
     obtain ⟨A, cap, vs, rfl, s1, s2, s3, hcs', hAt, hvl, hsp⟩ := rowCl_ok hp hrow h1
     obtain ⟨c1, c2⟩ := chunks_ok (fun _ _ => True) h
     subst c1
     exact DR.mkB (w := w) (l := t) (A := A) (cap := cap) e s1 s2 s3 vs hAt hvl hsp (fun k y hy => by
      obtain ⟨F, gv, d1, d2, d3⟩ := hx _ y (c2 k y hy) _ ((hcs'.drop (k * x.sz)).take x.sz)
      refine ⟨F, gv, fun g hg => ?_, d2, d3⟩
      rw [d1 g hg, List.getElem?_take, if_pos hg, List.getElem?_drop])
    ·cases h
  obtain ⟨F, gv, k1, k2, k3⟩ := key
  exact RdE.sl0 e k1 k2 k3
 ·cases h
theorem dcs_ok (hp : HpR ρ w H) : ∀ (x : Dsh), RdsOk ρ w H x (dcs H x)
 | .u8 => dU8_ok
 | .u32 => dU32_ok
 | .i64 => dI64_ok
 | .by e => dBy_ok hp e
 | .wo e => dWo_ok hp e
 | .sl e x => dSl_ok hp e (dcs_ok hp x)
 | .pr a b => dPr_ok (dcs_ok hp a) (dcs_ok hp b)
end
structure RdC (α : Type) where
 r : Rd α
 cl : Nat → α → Cl
 eq : ∀ k a, r.op k a = .c (cl k a)
theorem Pat.left {ps qs : List Pl} {k : Nat} {ρ' : Pls} (h : Pat (ps ++ qs) k ρ') : Pat ps k ρ' := fun j p hj => h j p (by rw [List.getElem?_append_left (List.getElem?_eq_some_iff.1 hj).1]; exact hj)
theorem Pat.right {ps qs : List Pl} {k m : Nat} {ρ' : Pls} (h : Pat (ps ++ qs) k ρ') (hm : m = ps.length) : Pat qs (k + m) ρ' := fun j p hj => by
 rw [Nat.add_assoc]
 exact h _ p (by rw [List.getElem?_append_right (by omega), hm, Nat.add_sub_cancel_left]; exact hj)
def HO (P : Program) (I : World → Prop) (f : FuncId) (F : Ct) (az : List AV) (os : Hp) : Prop :=
 ∀ (args : List AV) (H : Hp) (g : List Prop) (av : AV) (objs : List Oj), F args H = some (g, av, objs) → allP g → ∀ (ρ : Pls) (w : World) (vals : List Value), I w → HpR ρ w H → F2 (avR ρ) args vals →
  ∀ (ps : List Pl) (v0 : List Value), os.length = ps.length → allRo os = true → (∀ ρ' : Pls, Pat ps 0 ρ' → F2 (fun o p => objR ρ' w p o) os ps ∧ F2 (avR ρ') az v0) →
   Calls P f (v0 ++ vals).toArray w (Ret fun v w' => Ext w w' ∧ ∃ ps, Left ρ w H av objs v w' ps)
section
variable {P : Program} {I : World → Prop} {f : FuncId} {az : List AV} {os : Hp} {T : Tab}
theorem HO_c {α : Type} (r : Rd α) {K : α → Ct} (h : ∀ a, r.pr a → HO P I f (K a) (az ++ [r.op os.length a]) (os ++ r.os os.length a)) : HO P I f (ctc r.rd fun _ => K) az os := by
 intro args H g av objs hF hg ρ w vals hI hp ha ps v0 l0 g0 k0
 obtain ⟨x, xs, a, rfl, hx, hF⟩ := ctc_inv hF
 obtain ⟨v, vs, rfl, hv, ha⟩ := F2.inv ha
 obtain ⟨hpr, qs, g1, k1⟩ := r.ok hp hx hv
 have := h a hpr xs H g av objs hF hg ρ w vs hI hp ha (ps ++ qs) (v0 ++ [v]) (by simp [l0, (g1 _).1]) (allRo_append g0 (g1 _).2) (fun ρ' hk => by
  have e := Pat.right hk l0
  rw [Nat.zero_add] at e
  obtain ⟨e1, e2⟩ := k0 ρ' (Pat.left hk)
  obtain ⟨e3, e4⟩ := k1 _ ρ' e
  exact ⟨F2.append e1 e3, F2.append e2 (F2.cons e4 F2.nil)⟩)
 rw [List.append_assoc] at this
 exact this
theorem HO_0 (hT : TabOk P T) (R : S) (rs : List ResultVar) (keep : List Nat) (n : Nat) {fn : Func} {c : Code} {gs : Prop} {x : AV} {os' : List Oj} (hf : P.funcs[f]? = some fn) (hW : ∀ w, I w → gs → W P n (noB (fun _ => undef)) w c ⟨args0 0 az, [], os⟩ (fun e s => (e = .ret ∨ e = .normal) ∧ s = R))
  (hb : fn.body = some c := by rfl) (hn : fn.ntmps = n := by rfl) (hres : fn.results = rs.toArray := by rfl) (hr : retS T R rs keep = some (x, os') := by kernel_rfl) (hl : Nat.ble az.length n = true := by kernel_rfl) :
  HO P I f (ct0 fun H => ([gs], shA H.length x, shH H.length os')) az os := by
 intro args H g av objs hF hg ρ w vals hI hp ha ps v0 l0 g0 k0
 obtain ⟨rfl, rfl, rfl, rfl⟩ := ct0_inv hF
 obtain rfl := F2.inv0 ha
 rw [List.append_nil]
 obtain ⟨f0, hv⟩ := k0 (plL ps) (fun j p hj => by rw [Nat.zero_add]; unfold plL; rw [hj])
 have hR0 := rel0 (gv := fun _ => undef) (n := n) (w := w) (gl := []) (ρ := plL ps) (fun i o ho => by
  obtain ⟨p, hp, hr⟩ := f0.at ho
  show objR _ _ (plL ps i) o
  unfold plL; rw [hp]; exact hr) (allRo_ok g0) hv GlR.nil (by rw [← hv.1]; exact Nat.le_of_ble_eq_true hl)
 refine calls_W hf hb hn hR0 (hW w hI hg) ?_
 rintro e s' ⟨he, rfl⟩
 exact ⟨he, fun a' w' hr' => retS_ok hT hr' (rs := rs) hres hr⟩
theorem fnok {F : Ct} {fn : Func} (hf : P.funcs[f]? = some fn) (h : HO P I f F [] []) (h1 : ((fn.name == "runtime.NumGoroutine") = false) := by kernel_rfl) (h2 : fn.body.isNone = false := by kernel_rfl) : FnOk P I f F :=
 ⟨fun args H g av objs hF hg ρ w vals hI hp ha => h args H g av objs hF hg ρ w vals hI hp ha [] [] rfl rfl (fun _ _ => ⟨F2.nil, F2.nil⟩), fn, hf, h1, h2⟩
end
end Go.Sx
end
