import Derived.Test.YtpinmaodpfoinaaPu
set_option linter.unusedVariables false
set_option linter.unusedSimpArgs false
namespace Go.Sx

/-! ### numbers as digits, the lowest first -/
section
variable {α : Type} (b : Nat) (f : α → Nat) (g : Nat → α)
def vl (l : List α) : Nat := l.foldr (fun x r => f x + b * r) 0
theorem vl_nil : vl b f [] = 0 := rfl
theorem vl_cons (x : α) (l : List α) : vl b f (x :: l) = f x + b * vl b f l := rfl
theorem vl_app (l m : List α) : vl b f (l ++ m) = vl b f l + b ^ l.length * vl b f m := by
  induction l with
  | nil => simp [vl_nil]
  | cons x l ih => simp only [List.cons_append, vl_cons, ih, List.length_cons, Nat.pow_succ]; grind
theorem vl_split (l : List α) (i : Nat) : vl b f l = vl b f (l.take i) + b ^ i * vl b f (l.drop i) := by
  induction i generalizing l with
  | zero => simp [vl_nil]
  | succ i ih =>
    cases l with
    | nil => simp [vl_nil]
    | cons x l => simp only [List.take_succ_cons, List.drop_succ_cons, vl_cons, Nat.pow_succ]; have := ih l; grind
theorem vl_take {z : α} (l : List α) (i : Nat) (h : i < l.length) : vl b f (l.take (i + 1)) = vl b f (l.take i) + b ^ i * f (l.getD i z) := by
  rw [List.take_succ_eq_append_getElem h, vl_app, List.getD_eq_getElem?_getD, List.getElem?_eq_getElem h]
  simp [vl_cons, vl_nil, Nat.min_eq_left (Nat.le_of_lt h)]
theorem vl_drop {z : α} (l : List α) (i : Nat) (h : i < l.length) : vl b f (l.drop i) = f (l.getD i z) + b * vl b f (l.drop (i + 1)) := by
  rw [List.drop_eq_getElem_cons h, vl_cons, List.getD_eq_getElem?_getD, List.getElem?_eq_getElem h]; rfl
theorem vl_set {z : α} (l : List α) (i : Nat) (x : α) (h : i < l.length) : vl b f (l.set i x) + b ^ i * f (l.getD i z) = vl b f l + b ^ i * f x := by
  induction l generalizing i with
  | nil => simp at h
  | cons y l ih =>
    cases i with
    | zero => simp [vl_cons]; omega
    | succ i =>
      have := ih i (by simpa using h)
      simp only [List.set_cons_succ, vl_cons, Nat.pow_succ, List.getD_cons_succ]; grind
theorem vl_lt (l : List α) (h : ∀ x ∈ l, f x < b) : vl b f l < b ^ l.length := by
  induction l with
  | nil => simp [vl_nil]
  | cons x l ih =>
    have h1 := ih (fun y hy => h y (.tail _ hy))
    have h2 := h x (.head _)
    rw [vl_cons, List.length_cons, Nat.pow_succ]
    have : b * (vl b f l + 1) ≤ b * b ^ l.length := Nat.mul_le_mul_left b h1
    grind
theorem vl_rep {z : α} (hz : f z = 0) (n : Nat) : vl b f (List.replicate n z) = 0 := by
  induction n with
  | zero => rfl
  | succ n ih => rw [List.replicate_succ, vl_cons, ih, hz]; rfl
def dg (v : Nat) : List α := if h : 1 < b ∧ v ≠ 0 then g (v % b) :: dg (v / b) else []
termination_by v
decreasing_by exact Nat.div_lt_self (by omega) h.1
theorem dg_zero : dg b g 0 = [] := by rw [dg]; simp
theorem dg_pos (hb : 1 < b) {v : Nat} (h : v ≠ 0) : dg b g v = g (v % b) :: dg b g (v / b) := by rw [dg, dif_pos ⟨hb, h⟩]
theorem vl_dg (hb : 1 < b) (hfg : ∀ x < b, f (g x) = x) (v : Nat) : vl b f (dg b g v) = v := by
  induction v using Nat.strongRecOn with
  | _ v ih =>
    by_cases h : v = 0
    · subst h; rw [dg_zero]; rfl
    · rw [dg_pos b g hb h, vl_cons, ih _ (Nat.div_lt_self (by omega) hb), hfg _ (Nat.mod_lt _ (by omega)), Nat.mod_add_div]
theorem dg_len (hb : 1 < b) (v k : Nat) : (dg b g v).length ≤ k ↔ v < b ^ k := by
  induction k generalizing v with
  | zero =>
    by_cases h : v = 0
    · subst h; simp [dg_zero]
    · rw [dg_pos b g hb h]; simp; omega
  | succ k ih =>
    by_cases h : v = 0
    · subst h; simp [dg_zero]; exact Nat.pow_pos (by omega)
    · rw [dg_pos b g hb h, List.length_cons, Nat.add_le_add_iff_right, ih, Nat.pow_succ, Nat.div_lt_iff_lt_mul (by omega)]
theorem dg_mem (hb : 1 < b) {P : α → Prop} (hP : ∀ x < b, P (g x)) (v : Nat) : ∀ x ∈ dg b g v, P x := by
  induction v using Nat.strongRecOn with
  | _ v ih =>
    by_cases h : v = 0
    · subst h; rw [dg_zero]; intro x hx; cases hx
    · rw [dg_pos b g hb h]
      intro x hx
      cases hx with
      | head => exact hP _ (Nat.mod_lt _ (by omega))
      | tail _ hx => exact ih _ (Nat.div_lt_self (by omega) hb) x hx
/-- without noughts at the end a row is that of its number -/
theorem dg_vl (hb : 1 < b) (l : List α) (hl : ∀ x ∈ l, f x < b ∧ g (f x) = x) (h : ∀ h : l ≠ [], f (l.getLast h) ≠ 0) : dg b g (vl b f l) = l := by
  induction l with
  | nil => rw [vl_nil, dg_zero]
  | cons x l ih =>
    obtain ⟨h1, h2⟩ := hl x (.head _)
    have ih := ih (fun y hy => hl y (.tail _ hy)) (fun hn => by have := h (by simp); rwa [List.getLast_cons hn] at this)
    have hne : vl b f (x :: l) ≠ 0 := by
      rw [vl_cons]
      cases l with
      | nil => have := h (by simp); simp at this; omega
      | cons y l =>
        intro h0
        have : vl b f (y :: l) = 0 := by
          cases Nat.eq_zero_of_add_eq_zero_left h0 |> Nat.mul_eq_zero.1 with
          | inl h => omega
          | inr h => exact h
        rw [this, dg_zero] at ih
        cases ih
    rw [dg_pos b g hb hne, vl_cons, Nat.add_mul_mod_self_left, Nat.mod_eq_of_lt h1, h2, Nat.add_mul_div_left _ _ (by omega), Nat.div_eq_of_lt h1, Nat.zero_add, ih]
theorem dg_inj (hb : 1 < b) (hfg : ∀ x < b, f (g x) = x) {u v : Nat} : dg b g u = dg b g v ↔ u = v := ⟨fun h => by rw [← vl_dg b f g hb hfg u, h, vl_dg b f g hb hfg], fun h => by rw [h]⟩
theorem dg_get (hb : 1 < b) {z : α} (hfg : ∀ x < b, f (g x) = x) (hz : f z = 0) (v i : Nat) : f ((dg b g v).getD i z) = v / b ^ i % b := by
  induction i generalizing v with
  | zero =>
    by_cases h : v = 0
    · subst h; simp [dg_zero, hz]
    · rw [dg_pos b g hb h]; simp; exact hfg _ (Nat.mod_lt _ (by omega))
  | succ i ih =>
    by_cases h : v = 0
    · subst h; simp [dg_zero, hz]
    · rw [dg_pos b g hb h, List.getD_cons_succ, ih, Nat.pow_succ, Nat.div_div_eq_div_mul, Nat.mul_comm]
end

/-! ### limbs of 32 bits, digits of 16 -/
abbrev B2 : Nat := 4294967296
def nV (l : List UInt32) : Nat := vl 4294967296 UInt32.toNat l
def nD (v : Nat) : List UInt32 := dg 4294967296 UInt32.ofNat v
def nZ (l : List Int) : Nat := vl 65536 Int.toNat l
def nE (v : Nat) : List Int := dg 65536 Int.ofNat v
theorem u32_lt (x : UInt32) : x.toNat < 4294967296 := x.toNat_lt
theorem u32_of (x : Nat) (h : x < 4294967296) : (UInt32.ofNat x).toNat = x := by simp; omega
theorem V_D (v : Nat) : nV (nD v) = v := vl_dg _ _ _ (by decide) u32_of v
theorem Z_E (v : Nat) : nZ (nE v) = v := vl_dg _ _ _ (by decide) (fun _ _ => rfl) v
theorem D_len (v k : Nat) : (nD v).length ≤ k ↔ v < 4294967296 ^ k := dg_len _ _ (by decide) v k
theorem E_len (v k : Nat) : (nE v).length ≤ k ↔ v < 65536 ^ k := dg_len _ _ (by decide) v k
theorem D_zero : nD 0 = [] := dg_zero _ _
theorem E_zero : nE 0 = [] := dg_zero _ _
theorem D_inj {u v : Nat} : nD u = nD v ↔ u = v := dg_inj _ UInt32.toNat _ (by decide) u32_of
theorem E_inj {u v : Nat} : nE u = nE v ↔ u = v := dg_inj _ Int.toNat _ (by decide) (fun _ _ => rfl)
theorem V_lt (l : List UInt32) : nV l < 4294967296 ^ l.length := vl_lt _ _ _ fun x _ => u32_lt x
/-- digits of 16 bits -/
def Dz (l : List Int) : Prop := ∀ x ∈ l, 0 ≤ x ∧ x < 65536
theorem E_dz (v : Nat) : Dz (nE v) := dg_mem _ _ (by decide) (fun x _ => ⟨Int.natCast_nonneg x, by show (x : Int) < 65536; omega⟩) v
theorem Z_lt {l : List Int} (h : Dz l) : nZ l < 65536 ^ l.length := vl_lt _ _ _ fun x hx => by have := h x hx; omega
theorem D_V {l : List UInt32} (h : ∀ h : l ≠ [], l.getLast h ≠ 0) : nD (nV l) = l :=
  dg_vl _ _ _ (by decide) l (fun x _ => ⟨u32_lt x, by simp⟩) fun hn h0 => h hn (UInt32.toNat_inj.1 h0)
theorem E_Z {l : List Int} (hl : Dz l) (h : ∀ h : l ≠ [], l.getLast h ≠ 0) : nE (nZ l) = l :=
  dg_vl _ _ _ (by decide) l (fun x hx => by have := hl x hx; exact ⟨by omega, by show ((x.toNat : Nat) : Int) = x; omega⟩) fun hn h0 => h hn (by have := hl _ (List.getLast_mem hn); omega)
theorem D_get (v i : Nat) : ((nD v).getD i 0).toNat = v / 4294967296 ^ i % 4294967296 := dg_get _ _ _ (by decide) u32_of rfl v i
theorem E_get (v i : Nat) : (nE v).getD i 0 = ((v / 65536 ^ i % 65536 : Nat) : Int) := by
  have h := dg_get 65536 Int.toNat Int.ofNat (by decide) (z := 0) (fun _ _ => rfl) rfl v i
  have h2 : 0 ≤ (nE v).getD i 0 := by
    by_cases hi : i < (nE v).length
    · rw [List.getD_eq_getElem?_getD, List.getElem?_eq_getElem hi]; exact (E_dz v _ (List.getElem_mem hi)).1
    · rw [List.getD_eq_getElem?_getD, List.getElem?_eq_none (by omega)]; exact Int.le_refl _
  unfold nE at *
  omega
theorem V_nil : nV [] = 0 := rfl
theorem V_cons (x : UInt32) (l : List UInt32) : nV (x :: l) = x.toNat + 4294967296 * nV l := rfl
theorem V_app (l m : List UInt32) : nV (l ++ m) = nV l + 4294967296 ^ l.length * nV m := vl_app _ _ l m
theorem V_split (l : List UInt32) (i : Nat) : nV l = nV (l.take i) + 4294967296 ^ i * nV (l.drop i) := vl_split _ _ l i
theorem V_take (l : List UInt32) (i : Nat) (h : i < l.length) : nV (l.take (i + 1)) = nV (l.take i) + 4294967296 ^ i * (l.getD i 0).toNat := vl_take _ _ l i h
theorem V_drop (l : List UInt32) (i : Nat) (h : i < l.length) : nV (l.drop i) = (l.getD i 0).toNat + 4294967296 * nV (l.drop (i + 1)) := vl_drop _ _ l i h
theorem V_set (l : List UInt32) (i : Nat) (x : UInt32) (h : i < l.length) : nV (l.set i x) + 4294967296 ^ i * (l.getD i 0).toNat = nV l + 4294967296 ^ i * x.toNat := vl_set _ _ l i x h
theorem V_rep (n : Nat) : nV (List.replicate n 0) = 0 := vl_rep (z := (0 : UInt32)) _ _ rfl n
theorem Z_nil : nZ [] = 0 := rfl
theorem Z_cons (x : Int) (l : List Int) : nZ (x :: l) = x.toNat + 65536 * nZ l := rfl
theorem Z_app (l m : List Int) : nZ (l ++ m) = nZ l + 65536 ^ l.length * nZ m := vl_app _ _ l m
theorem Z_split (l : List Int) (i : Nat) : nZ l = nZ (l.take i) + 65536 ^ i * nZ (l.drop i) := vl_split _ _ l i
theorem Z_take (l : List Int) (i : Nat) (h : i < l.length) : nZ (l.take (i + 1)) = nZ (l.take i) + 65536 ^ i * (l.getD i 0).toNat := vl_take _ _ l i h
theorem Z_drop (l : List Int) (i : Nat) (h : i < l.length) : nZ (l.drop i) = (l.getD i 0).toNat + 65536 * nZ (l.drop (i + 1)) := vl_drop _ _ l i h
theorem Z_set (l : List Int) (i : Nat) (x : Int) (h : i < l.length) : nZ (l.set i x) + 65536 ^ i * (l.getD i 0).toNat = nZ l + 65536 ^ i * x.toNat := vl_set _ _ l i x h
theorem Z_rep (n : Nat) : nZ (List.replicate n 0) = 0 := vl_rep (z := (0 : Int)) _ _ rfl n
end Go.Sx
