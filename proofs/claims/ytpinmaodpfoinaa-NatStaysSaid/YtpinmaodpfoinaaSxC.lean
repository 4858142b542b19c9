import Derived.Test.YtpinmaodpfoinaaSxB
set_option linter.unusedVariables false
set_option linter.unusedSimpArgs false
namespace Go.Sx
open Go.RowKit Go.Ch

def Z.cl : Z → Cl
  | .int .u8 => .s (.u8 0)
  | .int .u32 => .s (.u32 0)
  | .int .u64 => .s (.u64 0)
  | .int k => .s (.k k 0)
  | .bool => .s (.b false)
  | .str => .s (.str [])
  | .nils => .nils
  | .ifc => .s (.v .nilIface)
  | .ptr => .s (.v (.pointer none))
theorem Z.cl_ok (ρ : Pls) (z : Z) : clR ρ z.cl z.val := by
  cases z with
  | int k => cases k <;> rfl
  | _ => rfl

/-- a constant -/
def cv : Value → Option AV
  | .bool b => some (.c (.s (.b b)))
  | .int k n => match k with
    | .u8 => if 0 ≤ n ∧ n < 256 then some (.c (.s (.u8 (UInt8.ofNat n.toNat)))) else none
    | .u32 => if 0 ≤ n ∧ n < 4294967296 then some (.c (.s (.u32 (UInt32.ofNat n.toNat)))) else none
    | .u64 => if 0 ≤ n ∧ n < 18446744073709551616 then some (.c (.s (.u64 (UInt64.ofNat n.toNat)))) else none
    | _ => some (.c (.s (.k k n)))
  | .string s => some (.c (.s (.str s.data.toList)))
  | .nilIface => some (.c (.s (.v .nilIface)))
  | .slice a n c => match a with | none => (match n, c with | 0, 0 => some (.c .nils) | _, _ => none) | some _ => none
  | .pointer a => match a with | none => some (.c (.s (.v (.pointer none)))) | some _ => none
  | _ => none
theorem cv_ok {v : Value} {x : AV} (h : cv v = some x) (ρ : Pls) : avR ρ x v := by
  unfold cv at h
  split at h
  · injection h with h; subst h; rfl
  · split at h
    · split at h
      · rename_i hn; injection h with h; subst h
        show _ = bU _; unfold bU; simp; omega
      · cases h
    · split at h
      · rename_i hn; injection h with h; subst h
        show _ = w32 _; unfold w32; simp; omega
      · cases h
    · split at h
      · rename_i hn; injection h with h; subst h
        show _ = w64 _; unfold w64; simp; omega
      · cases h
    · injection h with h; subst h; rfl
  · injection h with h; subst h; rfl
  · injection h with h; subst h; rfl
  · split at h
    · split at h
      · injection h with h; subst h; rfl
      · cases h
    · cases h
  · split at h
    · injection h with h; subst h; rfl
    · cases h
  · cases h

def ev0 (fr gl : Fr) : Operand → Option AV
  | .tmp t => fr.lookup t
  | .const v => cv v
  | .global g => glk gl g
  | .func f => some (.c (.s (.v (.func (.func f) #[] #[]))))
theorem ev0_ok {bs : Bs} {ρ : Pls} {fr gl : Fr} {a : Act} (h1 : FrR ρ fr a) (h2 : GlR bs ρ gl) (x : Operand) (v : AV) (h : ev0 fr gl x = some v) : avR ρ v (a.eval x) := by
  cases x with
  | tmp t => exact h1 t v h
  | const c => exact cv_ok h ρ
  | global g => exact (glk_ok h h2).2
  | func f => injection h with h; subst h; rfl

def live (H : Hp) (i : Nat) : Option Oj := match H[i]? with
  | none => none
  | some o => match o.kd with | .dead => none | _ => some o
theorem live_ok {H : Hp} {i : Nat} {o : Oj} (h : live H i = some o) : H[i]? = some o ∧ o.kd ≠ .dead := by
  unfold live at h
  cases hi : H[i]? with
  | none => rw [hi] at h; cases h
  | some o' =>
    rw [hi] at h
    cases hk : o'.kd <;> simp only [hk] at h
    · injection h with h; subst h; exact ⟨rfl, by rw [hk]; simp⟩
    · injection h with h; subst h; exact ⟨rfl, by rw [hk]; simp⟩
    · injection h with h; subst h; exact ⟨rfl, by rw [hk]; simp⟩
    · cases h
/-- an object that a slice may look at -/
def liveS (H : Hp) (i : Nat) : Option Oj := match H[i]? with
  | none => none
  | some o => match o.kd with | .ro _ | .row => some o | _ => none
theorem liveS_ok {H : Hp} {i : Nat} {o : Oj} (h : liveS H i = some o) : H[i]? = some o ∧ ((∃ b, o.kd = .ro b) ∨ o.kd = .row) := by
  unfold liveS at h
  cases hi : H[i]? with
  | none => rw [hi] at h; cases h
  | some o' =>
    rw [hi] at h
    cases hk : o'.kd <;> simp only [hk] at h
    · injection h with h; subst h; exact ⟨rfl, .inl ⟨_, hk⟩⟩
    · injection h with h; subst h; exact ⟨rfl, .inr hk⟩
    · cases h
    · cases h
theorem nd {o : Oj} (h : (∃ b, o.kd = .ro b) ∨ o.kd = .row) : o.kd ≠ .dead := by rcases h with ⟨_, h⟩ | h <;> rw [h] <;> simp

def mulS (k sz : Nat) : Nat := match sz with | 1 => k | _ => k * sz
theorem mulS_eq (k sz : Nat) : mulS k sz = k * sz := by unfold mulS; split <;> simp
def addO (off k : Nat) : Nat := match k with | 0 => off | _ => off + k
theorem addO_eq (off k : Nat) : addO off k = off + k := by unfold addO; split <;> simp
def oddA (off k : Nat) : Nat := match off with | 0 => k | _ => off + k
theorem oddA_eq (off k : Nat) : oddA off k = off + k := by unfold oddA; split <;> simp

def Cs.at (cs : Cs) (off : Nat) : Option Cl := match cs with
  | .b l => some (.s (.u8 (l.getD off 0)))
  | .w l => some (.s (.u32 (l.getD off 0)))
  | .q l => some (.s (.u64 (l.getD off 0)))
  | .z l => some (.s (.k .i64 (l.getD off 0)))
  | .c l => l[off]?
theorem Cs.at_ok {cs : Cs} {off : Nat} {x : Cl} (h : cs.at off = some x) (hlt : off < cs.cl.length) : cs.cl[off]? = some x := by
  cases cs with
  | c l => exact h
  | _ =>
    injection h with h
    subst h
    simp [Cs.cl] at hlt
    simp [Cs.cl, hlt]
/-- cells from off on -/
def Cs.part (cs : Cs) (off size : Nat) : Cs := match cs with
  | .b l => .b ((l.drop off).take size)
  | .w l => .w ((l.drop off).take size)
  | .q l => .q ((l.drop off).take size)
  | .z l => .z ((l.drop off).take size)
  | .c l => .c ((l.drop off).take size)
theorem Cs.part_cl (cs : Cs) (off size : Nat) : (cs.part off size).cl = (cs.cl.drop off).take size := by
  cases cs <;> simp [Cs.part, Cs.cl]

def Sc.n? : AV → Option Int
  | .c (.s x) => x.int?
  | _ => none
theorem Sc.n?_ok {ρ : Pls} {x : AV} {n : Int} (h : Sc.n? x = some n) {v : Value} (hv : avR ρ x v) : ∃ kd, v = .int kd n := by
  unfold Sc.n? at h
  split at h
  · obtain ⟨kd, _, hx⟩ := Sc.int_val h
    exact ⟨kd, by rw [← hx]; exact hv⟩
  · cases h

/-- how many elements a slice has -/
def lenC (H : Hp) : Cl → Option Nat
  | .wh i => match liveS H i with | some o => some o.n | none => none
  | .sl _ _ n => some n
  | .nils => some 0
  | _ => none
theorem lenC_ok {ρ : Pls} {w : World} {H : Hp} (hp : HpR ρ w H) {x : Cl} {n : Nat} (h : lenC H x = some n) {v : Value} (hv : clR ρ x v) : ∃ A c, v = .slice A n c := by
  cases x with
  | wh i =>
    simp only [lenC] at h
    cases hl : liveS H i with
    | none => rw [hl] at h; cases h
    | some o =>
      rw [hl] at h; injection h with h
      obtain ⟨h1, h2⟩ := liveS_ok hl
      have h3 := (hp i o h1).read (nd h2)
      exact ⟨_, _, by rw [hv, h3.1.2.1, h]⟩
  | sl i lo m =>
    injection h with h
    obtain ⟨_, A, c, hv, _⟩ := hv
    exact ⟨A, c, by rw [hv, h]⟩
  | nils => injection h with h; exact ⟨none, 0, by rw [hv, h]⟩
  | _ => cases h

theorem At.drop {w : World} {A : Option Addr} {vs : List Value} (h : At w A vs) (k n : Nat) : At w (A.map (·.add k)) ((vs.drop k).take n) := by
  intro ad ha j u hu
  cases A with
  | none => cases ha
  | some a0 =>
    injection ha with ha; subst ha
    rw [add_add]
    rw [List.getElem?_take] at hu
    split at hu
    · rw [List.getElem?_drop] at hu
      exact h a0 rfl _ u hu
    · cases hu
/-- a slice, as it reads: in elements of any size -/
structure SlR (w : World) (v : Value) (n sz : Nat) (vs : List Value) : Prop where
  len : vs.length = n * sz
  ex : ∃ A c, v = .slice A n c ∧ n ≤ c ∧ c ≤ maxLen ∧ (A = none → c = 0) ∧ At w A vs
theorem SlR.sl {w : World} {v : Value} {n : Nat} {vs : List Value} (h : SlR w v n 1 vs) : Sl w w.heap.size v vs := by
  obtain ⟨hl, A, c, rfl, h1, h2, h3, h4⟩ := h
  rw [Nat.mul_one] at hl
  exact ⟨Nat.le_refl _, A, c, by rw [hl], by omega, h2, h3, fun ad ha j u hu => ⟨by have := World.block_lt_of_cell? _ _ (h4 ad ha j u hu); rwa [block_add] at this, h4 ad ha j u hu⟩⟩
/-- what a slice looks at: the object, the first element, how many -/
def slc (H : Hp) : Cl → Option (Oj × Nat × Nat)
  | .wh i => match liveS H i with | some o => some (o, 0, o.n) | none => none
  | .sl i lo n => match liveS H i with | some o => some (o, lo, n) | none => none
  | _ => none
theorem slc_ok {ρ : Pls} {w : World} {H : Hp} (hp : HpR ρ w H) {x : Cl} {o : Oj} {lo n : Nat} (h : slc H x = some (o, lo, n)) {v : Value} (hv : clR ρ x v) :
    lo + n ≤ o.n ∧ o.cs.cl.length = o.n * o.sz ∧ ∃ vs, csR ρ o.cs vs ∧ SlR w v n o.sz ((vs.drop (lo * o.sz)).take (n * o.sz)) := by
  cases x with
  | wh i =>
    simp only [slc] at h
    cases hl : liveS H i with
    | none => rw [hl] at h; cases h
    | some o' =>
      rw [hl] at h; injection h with h
      simp only [Prod.mk.injEq] at h
      obtain ⟨rfl, rfl, rfl⟩ := h
      obtain ⟨h1, h2⟩ := liveS_ok hl
      obtain ⟨⟨e1, e2, e3⟩, vs, hc, hA⟩ := (hp i o' h1).read (nd h2)
      obtain ⟨g1, g2, g3⟩ := (hp i o' h1).slc h2
      have hlen : vs.length = o'.n * o'.sz := by rw [hc.len, e3]
      refine ⟨by omega, e3, vs, hc, by simp [hlen], _, _, by rw [hv, e2], by omega, g2, g3, ?_⟩
      rw [Nat.zero_mul, List.drop_zero, List.take_of_length_le (by omega)]
      exact hA
  | sl i lo' m =>
    simp only [slc] at h
    cases hl : liveS H i with
    | none => rw [hl] at h; cases h
    | some o' =>
      rw [hl] at h; injection h with h
      simp only [Prod.mk.injEq] at h
      obtain ⟨rfl, rfl, rfl⟩ := h
      obtain ⟨h1, h2⟩ := liveS_ok hl
      obtain ⟨⟨e1, e2, e3⟩, vs, hc, hA⟩ := (hp i o' h1).read (nd h2)
      have hlen : vs.length = o'.n * o'.sz := by rw [hc.len, e3]
      obtain ⟨g0, A, c, rfl, g1, g2, g3, g4⟩ := hv
      have hle : lo' * o'.sz + m * o'.sz ≤ o'.n * o'.sz := by rw [← Nat.add_mul]; exact Nat.mul_le_mul_right _ (by omega)
      refine ⟨by omega, e3, vs, hc, by rw [List.length_take, List.length_drop]; omega, A, c, rfl, g1, g2, g3, fun ad ha j u hu => ?_⟩
      have hm : 0 < m := by
        rcases Nat.eq_zero_or_pos m with hm | hm
        · subst hm; simp at hu
        · exact hm
      have h5 := g4 hm
      rw [e1] at h5
      exact (hA.drop _ _) ad (by rw [← h5]; exact ha) j u hu
  | _ => cases h

/-- the bytes that a slice reads as -/
def viewB (H : Hp) (x : Cl) : Option (List UInt8) := match x with
  | .nils => some []
  | .wh i => match liveS H i with | some o => (match o.sz, o.cs with | 1, .b l => some l | _, _ => none) | none => none
  | .sl i lo n => match liveS H i with | some o => (match o.sz, o.cs with | 1, .b l => some ((l.drop lo).take n) | _, _ => none) | none => none
  | _ => none
theorem viewB_ok {ρ : Pls} {w : World} {H : Hp} (hp : HpR ρ w H) {x : Cl} {l : List UInt8} (h : viewB H x = some l) {v : Value} (hv : clR ρ x v) : Sl w w.heap.size v (l.map bU) := by
  cases x with
  | wh i =>
    simp only [viewB] at h
    cases hl : liveS H i with
    | none => rw [hl] at h; cases h
    | some o =>
      simp only [hl] at h
      split at h
      · rename_i hs hcs
        injection h with h; subst h
        obtain ⟨h1, h2, vs, hc, hS⟩ := slc_ok hp (x := .wh i) (o := o) (lo := 0) (n := o.n) (by simp [slc, hl]) hv
        rw [hs] at hS h2
        rw [hcs] at hc h2
        obtain rfl := csR_b.1 hc
        simp [Cs.cl] at h2
        have := hS.sl
        rw [List.take_of_length_le (by simp; omega)] at this
        simpa using this
      · cases h
  | sl i lo n =>
    simp only [viewB] at h
    cases hl : liveS H i with
    | none => rw [hl] at h; cases h
    | some o =>
      simp only [hl] at h
      split at h
      · rename_i hs hcs
        injection h with h; subst h
        obtain ⟨h1, h2, vs, hc, hS⟩ := slc_ok hp (x := .sl i lo n) (o := o) (lo := lo) (n := n) (by simp [slc, hl]) hv
        rw [hs] at hS
        rw [hcs] at hc
        obtain rfl := csR_b.1 hc
        have := hS.sl
        simpa [List.map_take, List.map_drop] using this
      · cases h
  | nils => injection h with h; subst h; rw [show v = _ from hv]; exact Sl.nil w _ (Nat.le_refl _)
  | _ => cases h
end Go.Sx
