import Derived.WalkKit
import Derived.LaidEql
import Derived.WalkSpells
import Derived.Lib.Hide
import Derived.Maps.AppendAt
import Derived.Deep.AppendLies
import Derived.Deep.Draws
import Derived.Deep.QuietTactic
import Derived.BigQuiet
import Derived.Deep.RegionWith
set_option linter.unusedVariables false
set_option linter.unusedSimpArgs false
namespace Go.Ch
open Go.RowKit

/-- a byte as a value -/
def bU (x : UInt8) : Value := .int .u8 (x.toNat : Int)

theorem at_bU {l : List UInt8} {k : Nat} {c : UInt8} (h : l[k]? = some c) : (l.map bU)[k]? = some (.int .u8 (c.toNat : Int)) := by simp [h, bU]
theorem getD_get {α : Type} (l : List α) (k : Nat) (d : α) (h : k < l.length) : l.getD k d = l[k] := by
  rw [List.getD_eq_getElem?_getD, List.getElem?_eq_getElem h]; rfl
theorem at_getD {l : List UInt8} {k : Nat} (h : k < l.length) : (l.map bU)[k]? = some (.int .u8 ((l.getD k 0).toNat : Int)) := by
  refine at_bU ?_
  rw [List.getElem?_eq_getElem h, getD_get _ _ _ h]
theorem getD_lt (l : List UInt8) (k : Nat) : ((l.getD k 0).toNat : Int) ≤ 255 := by have := (l.getD k 0).toNat_lt; omega
theorem bU_one (l : List UInt8) : ∀ u ∈ l.map bU, u.oneCell' = true := by
  intro u hu; obtain ⟨x, _, rfl⟩ := List.mem_map.1 hu; rfl

theorem block_add (a : Addr) (n : Nat) : (a.add n).block = a.block := by unfold Addr.add; split <;> rfl
theorem add_add (a : Addr) (i j : Nat) : (a.add i).add j = a.add (i + j) := by
  unfold Addr.add
  by_cases hi : i = 0 <;> by_cases hj : j = 0 <;> simp [hi, hj, Nat.add_assoc]

/-- the slice value v holds, in world w, cells that are the values xs; they lie below block B -/
def Sl (w : World) (B : Nat) (v : Value) (xs : List Value) : Prop :=
  B ≤ w.heap.size ∧ ∃ A c, v = .slice A xs.length c ∧ xs.length ≤ c ∧ c ≤ maxLen ∧ (A = none → c = 0) ∧
    ∀ ad, A = some ad → ∀ j u, xs[j]? = some u → ad.block < B ∧ w.cell? (ad.add j) = some u

/-- what stands below the heap's size stays -/
abbrev Ext (w w' : World) : Prop := Below w.heap.size w w'

theorem Sl.below {w w' : World} {B v xs} (h : Sl w B v xs) (hx : Below B w w') : Sl w' B v xs := by
  obtain ⟨hB, A, c, hv, h1, h2, h3, h4⟩ := h
  refine ⟨Nat.le_trans hB hx.size, A, c, hv, h1, h2, h3, fun ad ha => ?_⟩
  intro j u hu
  obtain ⟨hb, hc⟩ := h4 ad ha j u hu
  exact ⟨hb, by rw [hx.cell (by rw [block_add]; exact hb)]; exact hc⟩
theorem Sl.more {w : World} {B B' v xs} (h : Sl w B v xs) (hB : B ≤ B') (hB' : B' ≤ w.heap.size) : Sl w B' v xs := by
  obtain ⟨_, A, c, hv, h1, h2, h3, h4⟩ := h
  exact ⟨hB', A, c, hv, h1, h2, h3, fun ad ha j u hu => ⟨Nat.lt_of_lt_of_le (h4 ad ha j u hu).1 hB, (h4 ad ha j u hu).2⟩⟩
theorem Sl.ext {w w' : World} {B v xs} (h : Sl w B v xs) (hx : Ext w w') : Sl w' B v xs := h.below (hx.mono h.1)
/-- another row is appended to, one at or beyond B -/
theorem Sl.grown {w w' : World} {B v xs row} (h : Sl w B v xs) (hg : w.grownBy w' row) (hr : ∀ g, row = some g → B ≤ g) : Sl w' B v xs :=
  h.below ((Below.refl _ _).grown hg h.1 hr)
theorem Ext.tr {w w1 w2 : World} (h : Ext w w1) (h' : Ext w1 w2) : Ext w w2 := h.trans (h'.mono h.size)

theorem Ext.undrew {w w' : World} (h : Ext w.drew w') : Ext w w' := ⟨h.os, h.tape, h.output, h.size, h.block⟩
theorem Ext.drew' {w w' : World} (h : Ext w w') : Ext w w'.drew := ⟨h.os, h.tape, h.output, h.size, h.block⟩
theorem Sl.back {w w' : World} {B v xs} (hx : Ext w w') (h : Sl w B v xs) : Sl w' B v xs := h.ext hx
theorem Ext.back {w w1 w2 : World} (h' : Ext w1 w2) (h : Ext w w1) : Ext w w2 := h.tr h'
theorem Sl.extd {w w' : World} {B v xs} (h : Sl w B v xs) (hx : Ext w.drew w') : Sl w' B v xs := h.ext hx.undrew

theorem Sl.nil (w : World) (B : Nat) (hB : B ≤ w.heap.size) : Sl w B (.slice none 0 0) [] := ⟨hB, none, 0, rfl, Nat.le_refl _, by simp [maxLen], fun _ => rfl, fun _ h => by cases h⟩

/-- what the frame of a law tells of a slice of integers that came in -/
theorem sl_of_row {k : IntKind} {w : World} {a : Option Addr} {len cap : Nat} {zs : List Int} (h : (a = none ∧ len = 0 ∧ cap = 0 ∧ zs = []) ∨
    ∃ x, a = some x ∧ len ≤ cap ∧ cap ≤ maxLen ∧ zs.length = cap ∧ (∀ i, i < zs.length → w.cell? (x.add i) = some (.int k (zs.getD i 0))) ∧ ∀ n ∈ zs, (Lit.int k n).wf = true) :
    Sl w w.heap.size (.slice a len cap) ((zs.take len).map (Value.int k)) ∧ ∀ n ∈ zs.take len, (Lit.int k n).wf = true := by
  rcases h with ⟨rfl, rfl, rfl, rfl⟩ | ⟨x, rfl, hlc, hcm, hz, hcell, hwf⟩
  · exact ⟨⟨Nat.le_refl _, none, 0, rfl, Nat.le_refl _, by simp [maxLen], fun _ => rfl, fun _ h => by cases h⟩, by simp⟩
  · have hl : ((zs.take len).map (Value.int k)).length = len := by simp; omega
    refine ⟨⟨Nat.le_refl _, some x, cap, by rw [hl], by rw [hl]; exact hlc, hcm, (fun h => by cases h), fun ad ha j u hu => ?_⟩, fun n hn => hwf n (List.mem_of_mem_take hn)⟩
    obtain rfl := Option.some.inj ha
    have hj : j < len := by rw [← hl]; exact (List.getElem?_eq_some_iff.1 hu).1
    have hc := hcell j (by omega)
    have e : u = .int k (zs.getD j 0) := by
      simp only [List.getElem?_map, List.getElem?_take, if_pos hj] at hu
      rw [List.getD_eq_getElem?_getD]
      cases hz' : zs[j]? with
      | none => simp [hz'] at hu
      | some z => simp [hz'] at hu ⊢; exact hu.symm
    subst e
    exact ⟨by have := World.block_lt_of_cell? _ _ hc; rwa [block_add] at this, hc⟩
theorem bytes_of_ints {zs : List Int} (h : ∀ n ∈ zs, (Lit.int .u8 n).wf = true) : ∃ l : List UInt8, zs.map (Value.int .u8) = l.map bU := by
  refine ⟨zs.map fun n => UInt8.ofNat n.toNat, ?_⟩
  rw [List.map_map]
  apply List.map_congr_left
  intro n hn
  have := h n hn
  simp [Lit.wf, IntKind.min, IntKind.max, IntKind.signed, IntKind.bits] at this
  simp only [bU, Function.comp]
  congr 1
  simp
  omega

/-- a value that owns its row, which lies at or beyond block B -/
abbrev Own (w : World) (B : Nat) (e : TypeId) (v : Value) (xs : List Value) : Prop := w.ownsRow B e 1 v xs.length xs

theorem Own.sl {w B e v xs} (h : Own w B e v xs) : Sl w w.heap.size v xs := by
  rcases h.2 with ⟨rfl, h0⟩ | ⟨g, cap, cur, rfl, hB, hg, hc, hm, hs, ht⟩
  · have : xs = [] := List.eq_nil_of_length_eq_zero h0
    subst this; exact Sl.nil w _ (Nat.le_refl _)
  · refine ⟨Nat.le_refl _, _, _, rfl, hc, hm, (fun h => by cases h), fun ad ha => ?_⟩
    obtain rfl := Option.some.inj ha
    exact fun j u hu => ⟨(Array.getElem?_eq_some_iff.1 hg).1, h.cells (g := g) rfl j u hu⟩

theorem Own.down {w B B' e v xs} (h : Own w B e v xs) (hB : B' ≤ B) : Own w B' e v xs := by
  refine ⟨h.1, ?_⟩
  rcases h.2 with h0 | ⟨g, cap, cur, hv, hb, r⟩
  · exact .inl h0
  · exact .inr ⟨g, cap, cur, hv, Nat.le_trans hB hb, r⟩
theorem Own.ext {w w' B e v xs} (h : Own w B e v xs) (hx : Ext w w') : Own w' B e v xs := by
  refine ⟨h.1, ?_⟩
  rcases h.2 with h0 | ⟨g, cap, cur, hv, hb, hg, r⟩
  · exact .inl h0
  · exact .inr ⟨g, cap, cur, hv, hb, (hx.block g (Array.getElem?_eq_some_iff.1 hg).1).trans hg, r⟩

section rules
variable {P : Program} {w : World} {ops : Array Oper} {rest : List Oper} {a : Act} {Q : Exit → Act → World → Prop}

/-- a guard for an arm: the next operation writes slot d -/
theorem g_at {d : Nat} {op : Op} {ty : TypeId} {pos : String} {aft : Array Edge} {g : Option (Nat × Bool)} (h : wpList P ops Q (⟨some d, op, ty, pos, aft, g⟩ :: rest) a w) : wpList P ops Q (⟨some d, op, ty, pos, aft, g⟩ :: rest) a w := h
/-- a guard for an arm: the next operation is a store -/
theorem g_store {t : TypeId} {x y : Operand} {ty : TypeId} {pos : String} {aft : Array Edge} {g : Option (Nat × Bool)} (h : wpList P ops Q (⟨none, .store t x y, ty, pos, aft, g⟩ :: rest) a w) : wpList P ops Q (⟨none, .store t x y, ty, pos, aft, g⟩ :: rest) a w := h

theorem wpl_val {o : Oper} {v : Value} {w' : World} (hw : Region.wanted o (yielded ops a.tmps) = true) (hr : (execOp a.eval o).run P w = .ok (.value v) w')
    (h : wpList P ops Q rest (a.put o.dst v) w') : wpList P ops Q (o :: rest) a w := by
  refine wpList_step fun K hK => ?_
  rw [if_pos hw]
  unfold Oper.wp
  rw [hr]
  exact hK _ _ h

theorem run_len {B v xs} {t ty : TypeId} {e : TypeId} (ht : P.underlying t = some (.slice e)) (hv : Sl w B v xs) :
    (Builtin.len_ #[t] ty #[v]).run P w = .ok (.int .i64 (xs.length : Int)) w := by
  obtain ⟨_, A, c, rfl, _⟩ := hv
  simp [Builtin.len_, run_underlying ht, goInt]

theorem wpl_len {dst ty pos aft g} {x : Operand} {t e : TypeId} {v B xs} {n : Nat} (hx : a.eval x = v) (ht : P.underlying t = some (.slice e)) (hv : Sl w B v xs) (hn : xs.length = n)
    (h : wpList P ops Q rest (a.put dst (.int .i64 (n : Int))) w)
    (hw : Region.wanted ⟨dst, .call { callee := .builtin .len, args := #[x], argTypes := #[t] }, ty, pos, aft, g⟩ (yielded ops a.tmps) = true := by rfl) :
    wpList P ops Q (⟨dst, .call { callee := .builtin .len, args := #[x], argTypes := #[t] }, ty, pos, aft, g⟩ :: rest) a w := by
  subst hn
  refine wpl_val hw ?_ h
  simp [execOp, resolve, invoke, builtin, hx, run_len ht hv]

/-- the address of an element: what stands there is known -/
theorem wpl_index {dst ty pos aft g} {x i : Operand} {t e : TypeId} {info : TypeInfo} {v B xs} {k : Nat} {n : Int} {kd : IntKind} {u : Value}
    (hx : a.eval x = v) (hi : a.eval i = .int kd n) (ht : P.underlying t = some (.slice e)) (hinfo : P.info? e = some info) (hs : info.size = 1)
    (hv : Sl w B v xs) (hn : n = (k : Int)) (hu : xs[k]? = some u)
    (h : ∀ ad : Addr, ad.block < B → w.cell? ad = some u → wpList P ops Q rest (a.put dst (.pointer (some ad))) w)
    (hw : Region.wanted ⟨dst, .indexAddr t x i, ty, pos, aft, g⟩ (yielded ops a.tmps) = true := by rfl) :
    wpList P ops Q (⟨dst, .indexAddr t x i, ty, pos, aft, g⟩ :: rest) a w := by
  obtain ⟨_, A, c, rfl, hl, hc, hA, hcell⟩ := hv
  have hk : k < xs.length := (List.getElem?_eq_some_iff.1 hu).1
  cases A with
  | none => have := hA rfl; omega
  | some ad =>
    obtain ⟨hb, hcs⟩ := hcell ad rfl k u hu
    refine wpl_val hw ?_ (h (ad.add k) (by rw [block_add]; exact hb) hcs)
    subst hn
    simp [execOp, hx, hi, Instr.indexAt, asIntOf, run_underlying ht, sizeOf, typeInfo, hinfo, hs, hk]

theorem Sl.cut {B A c xs} (h : Sl w B (.slice A (List.length xs) c) xs) {l r : Nat} (hlr : l ≤ r) (hr : r ≤ xs.length) :
    Sl w B (.slice (if c = l then A else A.map (·.add l)) (r - l) (c - l)) ((xs.take r).drop l) := by
  obtain ⟨hB, A', c', hv, h1, h2, h3, h4⟩ := h
  injection hv with e1 e2 e3
  subst e1; subst e3
  have hlen : ((xs.take r).drop l).length = r - l := by rw [List.length_drop, List.length_take]; omega
  refine ⟨hB, _, _, by rw [hlen], by rw [hlen]; omega, by omega, ?_, ?_⟩
  · intro hn
    split at hn
    · have := h3 hn; omega
    · cases A with
      | none => have := h3 rfl; omega
      | some ad => cases hn
  · intro ad ha
    split at ha
    · rename_i hcl
      intro j u hu
      have : j < r - l := by rw [← hlen]; exact (List.getElem?_eq_some_iff.1 hu).1
      omega
    · cases A with
      | none => cases ha
      | some ad0 =>
        obtain rfl := Option.some.inj ha
        intro j u hu
        rw [add_add, block_add]
        have hj : j < r - l := by rw [← hlen]; exact (List.getElem?_eq_some_iff.1 hu).1
        refine h4 ad0 rfl _ u ?_
        rw [List.getElem?_drop, List.getElem?_take, if_pos (by omega)] at hu
        exact hu

theorem Sl.cap {B A n c xs} (h : Sl w B (.slice A n c) xs) : n = xs.length ∧ xs.length ≤ c ∧ c ≤ maxLen := by
  obtain ⟨_, A', c', hv, h1, h2, _⟩ := h
  injection hv with e1 e2 e3
  subst e3
  exact ⟨e2, h1, h2⟩

/-- s[lo:hi] -/
theorem wpl_slice {dst ty pos aft g} {x l r : Operand} {t e : TypeId} {info : TypeInfo} {v B xs} {k m : Nat} {n n' : Int} {kd kd' : IntKind}
    (hx : a.eval x = v) (hl : a.eval l = .int kd n) (hr : a.eval r = .int kd' n') (ht : P.underlying t = some (.slice e)) (hinfo : P.info? e = some info) (hs : info.size = 1)
    (hv : Sl w B v xs) (hn : n = (k : Int)) (hn' : n' = (m : Int)) (hkm : k ≤ m) (hm : m ≤ xs.length)
    (h : ∀ v' : Value, Sl w B v' ((xs.take m).drop k) → wpList P ops Q rest (a.put dst v') w)
    (hw : Region.wanted ⟨dst, .slice t x (some l) (some r) none, ty, pos, aft, g⟩ (yielded ops a.tmps) = true := by rfl) :
    wpList P ops Q (⟨dst, .slice t x (some l) (some r) none, ty, pos, aft, g⟩ :: rest) a w := by
  obtain ⟨hB, A, c, rfl, hlc, hc, hA, hcell⟩ := hv
  have hS : Sl w B (.slice A xs.length c) xs := ⟨hB, A, c, rfl, hlc, hc, hA, hcell⟩
  refine wpl_val hw ?_ (h _ (hS.cut hkm hm))
  subst hn; subst hn'
  have h1 : m ≤ c := by omega
  simp [execOp, hx, hl, hr, Instr.sliceAt, Instr.slice, Instr.sliceBounds, Instr.sliceBound, asIntOf, run_underlying ht, sizeOf, typeInfo, hinfo, hs, h1, hkm]

/-- s[:hi] -/
theorem wpl_slice_to {dst ty pos aft g} {x r : Operand} {t e : TypeId} {info : TypeInfo} {v B xs} {m : Nat} {n' : Int} {kd' : IntKind}
    (hx : a.eval x = v) (hr : a.eval r = .int kd' n') (ht : P.underlying t = some (.slice e)) (hinfo : P.info? e = some info)
    (hv : Sl w B v xs) (hn' : n' = (m : Int)) (hm : m ≤ xs.length)
    (h : ∀ v' : Value, Sl w B v' (xs.take m) → wpList P ops Q rest (a.put dst v') w)
    (hw : Region.wanted ⟨dst, .slice t x none (some r) none, ty, pos, aft, g⟩ (yielded ops a.tmps) = true := by rfl) :
    wpList P ops Q (⟨dst, .slice t x none (some r) none, ty, pos, aft, g⟩ :: rest) a w := by
  obtain ⟨hB, A, c, rfl, hlc, hc, hA, hcell⟩ := hv
  have hS : Sl w B (.slice A xs.length c) xs := ⟨hB, A, c, rfl, hlc, hc, hA, hcell⟩
  refine wpl_val hw ?_ (h _ (by simpa using hS.cut (Nat.zero_le m) hm))
  subst hn'
  have h1 : m ≤ c := by omega
  simp [execOp, hx, hr, Instr.sliceAt, Instr.slice, Instr.sliceBounds, Instr.sliceBound, asIntOf, run_underlying ht, sizeOf, typeInfo, hinfo, h1]

/-- s[lo:] -/
theorem wpl_slice_from {dst ty pos aft g} {x l : Operand} {t e : TypeId} {info : TypeInfo} {v B xs} {k : Nat} {n : Int} {kd : IntKind}
    (hx : a.eval x = v) (hl : a.eval l = .int kd n) (ht : P.underlying t = some (.slice e)) (hinfo : P.info? e = some info) (hs : info.size = 1)
    (hv : Sl w B v xs) (hn : n = (k : Int)) (hk : k ≤ xs.length)
    (h : ∀ v' : Value, Sl w B v' (xs.drop k) → wpList P ops Q rest (a.put dst v') w)
    (hw : Region.wanted ⟨dst, .slice t x (some l) none none, ty, pos, aft, g⟩ (yielded ops a.tmps) = true := by rfl) :
    wpList P ops Q (⟨dst, .slice t x (some l) none none, ty, pos, aft, g⟩ :: rest) a w := by
  obtain ⟨hB, A, c, rfl, hlc, hc, hA, hcell⟩ := hv
  have hS : Sl w B (.slice A xs.length c) xs := ⟨hB, A, c, rfl, hlc, hc, hA, hcell⟩
  refine wpl_val hw ?_ (h _ (by simpa using hS.cut hk (Nat.le_refl _)))
  subst hn
  simp [execOp, hx, hl, Instr.sliceAt, Instr.slice, Instr.sliceBounds, Instr.sliceBound, asIntOf, run_underlying ht, sizeOf, typeInfo, hinfo, hs, hk]

theorem run_append_nilsrc (B : Nat) (t ty e : TypeId) (i : TypeInfo) (ht : P.underlying t = some (.slice e)) (hi : P.info? e = some i)
    (v : Value) (xs : List Value) (hown : Own w B e v xs) (c : Nat) : (Builtin.append_ #[t, t] ty #[v, .slice none 0 c]).run P w = .ok v w := by
  rcases hown.2 with ⟨rfl, h0⟩ | ⟨g, cap, cur, rfl, _, _, hnc, _⟩
  · simp [Builtin.append_, run_underlying ht, sizeOf, typeInfo, hi, Builtin.lenOf, Builtin.firstCells]
  · simp [Builtin.append_, run_underlying ht, sizeOf, typeInfo, hi, Builtin.lenOf, Builtin.firstCells, hnc, storeCells]

theorem run_append_any (B B' : Nat) (t ty e : TypeId) (i : TypeInfo) (z : Value) (bytes : Nat) (ht : P.underlying t = some (.slice e)) (hi : P.info? e = some i) (hz : i.zero = some z)
    (hsize : i.size = 1) (hby : i.bytes = bytes) (hzs : z.cells.size = 1)
    (v : Value) (xs : List Value) (hown : Own w B e v xs) (y : Value) (ys : List Value) (hy : Sl w B' y ys) (h1 : ∀ u ∈ ys, u.oneCell' = true)
    (h63 : xs.length + ys.length ≤ maxLen) (hbytes : (xs.length + ys.length) * bytes ≤ 140737488355328) (hbase : B ≤ w.heap.size) :
    ∃ v' w', (Builtin.append_ #[t, t] ty #[v, y]).run P w = .ok v' w' ∧ Own w' B e v' (xs ++ ys) ∧ w.grownBy w' v.ownBlock ∧
      (v'.ownBlock = v.ownBlock ∨ v'.ownBlock = some w.heap.size) := by
  obtain ⟨_, A, c, rfl, hl, hc, hA, hcell⟩ := hy
  rcases A with _ | ad
  · have hc0 := hA rfl
    have hm : ys = [] := List.eq_nil_of_length_eq_zero (by omega)
    subst hm
    exact ⟨v, w, run_append_nilsrc B t ty e i ht hi v xs hown c, by simpa using hown, World.grownBy.refl w _, .inl rfl⟩
  · have hcs : ∀ j u, ys[j]? = some u → w.cell? (ad.add j) = some u := fun j u hu => (hcell ad rfl j u hu).2
    obtain ⟨v', w', hrun, h2, h3, _, h5⟩ := run_append_own_at (P := P) w B t ty e i z 1 bytes ht hi hz hsize hby hzs (by omega) v xs.length xs hown ad ys.length c ys (by simp) hcs h1 h63 hbytes hbase
    exact ⟨v', w', hrun, by unfold Own; rw [List.length_append]; exact h2, h3, h5⟩

theorem wpl_append {dst ty pos aft g} {s x : Operand} {t e : TypeId} {i : TypeInfo} {z : Value} {bytes B B' : Nat} {v y : Value} {xs ys : List Value}
    (hs : a.eval s = v) (hx : a.eval x = y) (ht : P.underlying t = some (.slice e)) (hi : P.info? e = some i) (hz : i.zero = some z)
    (hsize : i.size = 1) (hby : i.bytes = bytes) (hzs : z.cells.size = 1) (hown : Own w B e v xs) (hy : Sl w B' y ys) (h1 : ∀ u ∈ ys, u.oneCell' = true)
    (hbytes : (xs.length + ys.length) * bytes ≤ 140737488355328) (hb0 : 0 < bytes) (hbase : B ≤ w.heap.size)
    (h : ∀ v' w', Own w' B e v' (xs ++ ys) → w.grownBy w' v.ownBlock → (v'.ownBlock = v.ownBlock ∨ v'.ownBlock = some w.heap.size) → Below B w w' → wpList P ops Q rest (a.put dst v') w')
    (hw : Region.wanted ⟨dst, .call { callee := .builtin .append, args := #[s, x], argTypes := #[t, t] }, ty, pos, aft, g⟩ (yielded ops a.tmps) = true := by rfl) :
    wpList P ops Q (⟨dst, .call { callee := .builtin .append, args := #[s, x], argTypes := #[t, t] }, ty, pos, aft, g⟩ :: rest) a w := by
  have h63 : xs.length + ys.length ≤ maxLen := by
    have := Nat.le_mul_of_pos_right (xs.length + ys.length) hb0
    unfold maxLen; omega
  obtain ⟨v', w', hrun, h2, h3, h4⟩ := run_append_any (P := P) (w := w) B B' t ty e i z bytes ht hi hz hsize hby hzs v xs hown y ys hy h1 h63 hbytes hbase
  refine wpl_val hw ?_ (h v' w' h2 h3 h4 ((Below.refl _ _).grown h3 hbase (fun k hk => (hown.lt k hk).1)))
  simp [execOp, resolve, invoke, builtin, hs, hx, hrun]

theorem foldl_push (l : List UInt8) (acc : ByteArray) : (l.map fun x => (x.toNat : Int)).foldl (fun r n => r.push (UInt8.ofNat n.toNat)) acc = ⟨acc.data ++ l.toArray⟩ := by
  induction l generalizing acc with
  | nil => simp
  | cons x l ih =>
    simp only [List.map_cons, List.foldl_cons, ih]
    simp [ByteArray.push]

theorem run_bytes_string {B v} {l : List UInt8} {src dst e : TypeId} (hs : P.underlying src = some (.slice e)) (he : P.underlying e = some (.int .u8)) (hd : P.underlying dst = some .string)
    (hv : Sl w B v (l.map bU)) : (convert src dst v).run P w = .ok (.string ⟨l.toArray⟩) w := by
  obtain ⟨_, A, c, rfl, hl, hc, hA, hcell⟩ := hv
  rw [run_convert_bytes_string w src dst e A _ c hs he hd]
  cases A with
  | none =>
    have : l = [] := List.eq_nil_of_length_eq_zero (by have := hA rfl; simp at hl; omega)
    subst this
    simp [Conv.bytesToString]; rfl
  | some ad =>
    have hcs : ∀ j u, (l.map bU)[j]? = some u → w.cell? (ad.add j) = some u := fun j u hu => (hcell ad rfl j u hu).2
    have hload := run_loadCells_list (P := P) w ad (l.map bU) hcs
    have e1 : l.map bU = (l.map fun x => (x.toNat : Int)).map (Value.int .u8) := by simp [bU]
    have hr := run_bytesToString (P := P) w ad (l.map bU).length c (l.map fun x => (x.toNat : Int)) (by rw [hload, e1])
    rw [hr, foldl_push]
    simp

theorem wpl_string {d ty pos aft g} {x : Operand} {src dst e : TypeId} {B v} {l : List UInt8} (hx : a.eval x = v) (hs : P.underlying src = some (.slice e)) (he : P.underlying e = some (.int .u8)) (hd : P.underlying dst = some .string)
    (hv : Sl w B v (l.map bU)) (h : wpList P ops Q rest (a.put d (.string ⟨l.toArray⟩)) w)
    (hw : Region.wanted ⟨d, .convert src dst x, ty, pos, aft, g⟩ (yielded ops a.tmps) = true := by rfl) :
    wpList P ops Q (⟨d, .convert src dst x, ty, pos, aft, g⟩ :: rest) a w := by
  refine wpl_val hw ?_ h
  simp [execOp, hx, run_bytes_string hs he hd hv]

theorem fill_list : ∀ (l : List Value) (k : Nat) (cells : Array Value), (∀ u ∈ l, u.cells = #[u]) → k + l.length ≤ cells.size →
    Instr.fill (fun i => some (i * 1, 1)) cells ((l.zipIdx k).map fun p => (p.2, p.1)) = some (cells.toList.take k ++ l ++ cells.toList.drop (k + l.length)).toArray
  | [], k, cells, _, _ => by simp [Instr.fill]
  | u :: l, k, cells, hu, hk => by
    simp only [List.length_cons] at hk
    have hu0 : u.cells = #[u] := hu u (by simp)
    simp only [List.zipIdx_cons, List.map_cons, Instr.fill, hu0]
    rw [if_neg (by simp; omega)]
    have ih := fill_list l (k + 1) (cells.setIfInBounds k u) (fun x hx => hu x (by simp [hx])) (by simp; omega)
    have e1 : (Array.zipIdx #[u]).foldl (fun cs (x : Value × Nat) => cs.setIfInBounds (k + x.2) x.1) cells = cells.setIfInBounds k u := by
      simp [Array.zipIdx]
    simp only [Nat.mul_one] at ih ⊢
    rw [show (Array.zipIdx #[u]).foldl (fun cs (x : Value × Nat) => match x with | (c, j) => cs.setIfInBounds (k + j) c) cells = cells.setIfInBounds k u from e1, ih]
    have hk' : k < cells.toList.length := by simp; omega
    have e2 : (cells.toList.set k u).take (k + 1) = cells.toList.take k ++ [u] := by
      rw [List.take_set, List.take_succ_eq_append_getElem hk', List.set_append_right _ _ (by simp; omega)]
      simp only [List.length_take, Nat.min_eq_left (Nat.le_of_lt hk'), Nat.sub_self, List.set_cons_zero]
    have e3 : (cells.toList.set k u).drop (k + 1 + l.length) = cells.toList.drop (k + 1 + l.length) := List.drop_set_of_lt (by omega)
    rw [Array.toList_setIfInBounds, e2, e3]
    simp [Nat.add_assoc, Nat.add_comm 1]

theorem wpl_buildSlice {dst ty pos aft g} {t e : TypeId} {n : Nat} {ps : Array (Nat × Operand)} {xs : List Operand} {vs : List Value} {i : TypeInfo} {z : Value}
    (ht : P.underlying t = some (.slice e)) (hi : P.info? e = some i) (hz : i.zero = some z) (hsize : i.size = 1) (hzs : z.cells.size = 1)
    (hps : ps = (xs.zipIdx.map fun p => (p.2, p.1)).toArray) (hvs : xs.map a.eval = vs) (hn : xs.length = n) (h1 : ∀ u ∈ vs, u.cells = #[u]) (hlt : n ≤ 1000)
    (h : ∀ v' w', Own w' w.heap.size e v' vs → Ext w w' → v'.ownBlock = some w.heap.size → wpList P ops Q rest (a.put dst v') w')
    (hw : Region.wanted ⟨dst, .buildSlice t n ps, ty, pos, aft, g⟩ (yielded ops a.tmps) = true := by rfl) :
    wpList P ops Q (⟨dst, .buildSlice t n ps, ty, pos, aft, g⟩ :: rest) a w := by
  have hlen : vs.length = n := by rw [← hvs]; simpa using hn
  have hO : Own (w.alloc (.cells vs.toArray e)) w.heap.size e (.slice (some ⟨w.heap.size, 0, none⟩) n n) vs := by
    have := World.ownsRow_lit w vs.toArray n (base := w.heap.size) (e := e) (size := 1) (Nat.le_refl _) (by unfold maxLen; omega) (by simp [hlen])
    unfold Own
    rw [hlen]
    simpa using this
  refine wpl_val hw ?_ (h _ _ hO ((Below.refl _ _).alloc (Nat.le_refl _) _) rfl)
  have hmap : ps.toList.map (fun (x : Nat × Operand) => (x.1, a.eval x.2)) = (vs.zipIdx.map fun p => (p.2, p.1)) := by
    subst hps; subst hvs
    simp [List.zipIdx_map, Function.comp_def]
  have hf := fun (c : Array Value) (hc : c.size = n) => fill_list vs 0 c h1 (by simp [hlen, hc])
  simp only [Nat.zero_add, List.take_zero, List.nil_append, Nat.mul_one] at hf
  have hdrop : ∀ c : Array Value, c.size = n → vs ++ c.toList.drop vs.length = vs := fun c hc => by
    rw [List.drop_of_length_le (by simp [hlen, hc])]; simp
  have hz' : (zeroValue e).run P w = .ok z w := by simp [zeroValue, typeInfo, hi, hz]
  simp only [execOp, Sem.run_bind, Sem.run_pure, Instr.buildSlice, run_underlying ht, sizeOf, typeInfo, run_program, hi, hsize, Result.andThen_ok]
  rw [if_neg (by omega)]
  by_cases h0 : n = 0
  · subst h0
    simp [hf, hdrop, hmap, newRow]
  · simp [h0, hf, hdrop, hmap, hz', newRow]

/-- s == nil -/
theorem wpl_eq_nil {dst ty pos aft g} {x : Operand} {t t' e : TypeId} {v B xs} (hx : a.eval x = v) (ht : P.underlying t = some (.slice e)) (hv : Sl w B v xs)
    (h : ∀ b : Bool, (b = true → xs = []) → wpList P ops Q rest (a.put dst (.bool b)) w)
    (hw : Region.wanted ⟨dst, .binOp .eql t x (.const (.slice none 0 0)) t', ty, pos, aft, g⟩ (yielded ops a.tmps) = true := by rfl) :
    wpList P ops Q (⟨dst, .binOp .eql t x (.const (.slice none 0 0)) t', ty, pos, aft, g⟩ :: rest) a w := by
  obtain ⟨_, A, c, rfl, hl, hc, hA, hcell⟩ := hv
  refine wpl_val hw ?_ (h A.isNone (fun hn => List.eq_nil_of_length_eq_zero (by have := hA (by simpa using hn); omega)))
  have hq := Lib.run_eql_slice_nil (P := P) w t e A xs.length c 0 0 ht
  have hc0 : a.eval (.const (.slice none 0 0)) = .slice none 0 0 := rfl
  simp [execOp, hx, hc0, eqGuard, hq]

/-- a contract's end: the call returns a value of which R holds -/
def Ret (R : Value → World → Prop) : Ending → World → Prop := fun e w' => ∃ v, e = .returned v ∧ R v w'

theorem wpl_call {d ty pos aft g f} {fn : Func} {xs : List Operand} {ts : Array TypeId} {vs : List Value} {R : Value → World → Prop} (hf : P.funcs[f]? = some fn) (hname : (fn.name == "runtime.NumGoroutine") = false)
    (hb : fn.body.isNone = false) (hvs : xs.map a.eval = vs) (hc : Calls P f vs.toArray w (Ret R)) (h : ∀ v w', R v w' → wpList P ops Q rest (a.put d v) w')
    (hw : Region.wanted ⟨d, .call { callee := .value (.func f), args := xs.toArray, argTypes := ts }, ty, pos, aft, g⟩ (yielded ops a.tmps) = true := by rfl) :
    wpList P ops Q (⟨d, .call { callee := .value (.func f), args := xs.toArray, argTypes := ts }, ty, pos, aft, g⟩ :: rest) a w := by
  refine wpList_step fun K hK => ?_
  rw [if_pos hw]
  have hrun : (execOp a.eval ⟨d, .call { callee := .value (.func f), args := xs.toArray, argTypes := ts }, ty, pos, aft, g⟩).run P w = .ok (.enter f vs.toArray) w := by
    have hname' : ¬ fn.name = "runtime.NumGoroutine" := by simpa using hname
    have hb' : ¬ fn.body = none := fun h0 => by rw [h0] at hb; cases hb
    subst hvs
    simp [execOp, resolve, invoke, callFunc, Deferred.ofValue, Act.eval, hf, hname', hb']
  unfold Oper.wp
  rw [hrun]
  refine hc.mono fun e w' ⟨v, he, hR⟩ => ?_
  subst he
  exact hK _ _ (h v w' hR)

theorem mk_toList (a : List UInt8) : (ByteArray.mk a.toArray).toList = a := ByteArray.toList_mk a

/-- two texts compared -/
theorem run_streq (t : TypeId) (x y : Operand) (a b : List UInt8) : ((do eqGuard .eql t x y (.string ⟨a.toArray⟩) (.string ⟨b.toArray⟩); binOp .eql t (.string ⟨a.toArray⟩) (.string ⟨b.toArray⟩) : Sem Value)).run P w = .ok (.bool (decide (a = b))) w := by
  have h : (a == b) = decide (a = b) := by by_cases h : a = b <;> simp [h]
  simp [eqGuard, binOp, Op.stringOp, mk_toList, h]
theorem run_strne (t : TypeId) (x y : Operand) (a b : List UInt8) : ((do eqGuard .neq t x y (.string ⟨a.toArray⟩) (.string ⟨b.toArray⟩); binOp .neq t (.string ⟨a.toArray⟩) (.string ⟨b.toArray⟩) : Sem Value)).run P w = .ok (.bool (!decide (a = b))) w := by
  have h : (a == b) = decide (a = b) := by by_cases h : a = b <;> simp [h]
  simp [eqGuard, binOp, Op.stringOp, mk_toList, h, bne]

/-- two errors that are constants of one integer type, compared (the kit's note 10) -/
theorem run_equalIn_iface_int (d : Nat) {ti tn : TypeId} {ms : Array (String × TypeId)} {i : TypeInfo} {k : IntKind} (a b : Int)
    (hi : P.underlying ti = some (.interface ms)) (hn : P.underlying tn = some (.int k)) (hinfo : P.info? tn = some i) (hcomp : i.comparable = true) :
    (Op.equalIn (d + 2) ti (.iface tn (.int k a)) (.iface tn (.int k b))).run P w = .ok (a == b) w := by
  simp [Op.equalIn, run_underlying hi, run_underlying hn, typeInfo, hinfo, hcomp]
theorem run_eql_iface_int {ti tn : TypeId} {ms : Array (String × TypeId)} {i : TypeInfo} {k : IntKind} (a b : Int)
    (hi : P.underlying ti = some (.interface ms)) (hn : P.underlying tn = some (.int k)) (hinfo : P.info? tn = some i) (hcomp : i.comparable = true) :
    (binOp .eql ti (.iface tn (.int k a)) (.iface tn (.int k b))).run P w = .ok (.bool (a == b)) w := by
  simp only [binOp]
  simp [Op.equal, Op.maxDepth, run_equalIn_iface_int 9998 a b hi hn hinfo hcomp]
theorem run_neq_iface_int {ti tn : TypeId} {ms : Array (String × TypeId)} {i : TypeInfo} {k : IntKind} (a b : Int)
    (hi : P.underlying ti = some (.interface ms)) (hn : P.underlying tn = some (.int k)) (hinfo : P.info? tn = some i) (hcomp : i.comparable = true) :
    (binOp .neq ti (.iface tn (.int k a)) (.iface tn (.int k b))).run P w = .ok (.bool (!(a == b))) w := by
  simp only [binOp]
  simp [Op.equal, Op.maxDepth, run_equalIn_iface_int 9998 a b hi hn hinfo hcomp]
end rules
end Go.Ch
