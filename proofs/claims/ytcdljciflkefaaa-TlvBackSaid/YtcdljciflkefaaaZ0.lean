import Derived.WalkKit
import Derived.LaidEql
import Derived.WalkSpells
import Derived.Lib.Hide
import Derived.Maps.AppendAt
import Derived.Deep.AppendLies
import Derived.Deep.Draws
import Derived.Deep.QuietTactic
import Derived.BigQuiet
import Derived.Deep.RegionWith
import Derived.ChangeKeysEq
import Derived.Laws.BitsAllLaws
import Derived.Laws.Rows
import Derived.Laws.Tables
import Derived.Laws.OwnMore
import Derived.Laws.MakeOwn
import Derived.Laws.StructEq
set_option linter.unusedVariables false
set_option linter.unusedSimpArgs false
section
namespace Go.Ch
open Go.RowKit
def bU (x : UInt8) : Value := .int .u8 (x.toNat : Int)
theorem bU_one (l : List UInt8) : ∀ u ∈ l.map bU, u.oneCell' = true := by
 intro u hu; obtain ⟨x, _, rfl⟩ := List.mem_map.1 hu; rfl
theorem block_add (a : Addr) (n : Nat) : (a.add n).block = a.block := by unfold Addr.add; split <;> rfl
theorem add_add (a : Addr) (i j : Nat) : (a.add i).add j = a.add (i + j) := by
 unfold Addr.add
 by_cases hi : i = 0 <;> by_cases hj : j = 0 <;> simp [hi, hj, Nat.add_assoc]
def Sl (w : World) (B : Nat) (v : Value) (xs : List Value) : Prop :=
 B ≤ w.heap.size ∧ ∃ A c, v = .slice A xs.length c ∧ xs.length ≤ c ∧ c ≤ maxLen ∧ (A = none → c = 0) ∧
 ∀ ad, A = some ad → ∀ j u, xs[j]? = some u → ad.block < B ∧ w.cell? (ad.add j) = some u
abbrev Ext (w w' : World) : Prop := Below w.heap.size w w'
theorem Sl.below {w w' : World} {B v xs} (h : Sl w B v xs) (hx : Below B w w') : Sl w' B v xs := by
 obtain ⟨hB, A, c, hv, h1, h2, h3, h4⟩ := h
 refine ⟨Nat.le_trans hB hx.size, A, c, hv, h1, h2, h3, fun ad ha => ?_⟩
 intro j u hu
 obtain ⟨hb, hc⟩ := h4 ad ha j u hu
 exact ⟨hb, by rw [hx.cell (by rw [block_add]; exact hb)]; exact hc⟩
theorem Sl.ext {w w' : World} {B v xs} (h : Sl w B v xs) (hx : Ext w w') : Sl w' B v xs := h.below (hx.mono h.1)
theorem Sl.grown {w w' : World} {B v xs row} (h : Sl w B v xs) (hg : w.grownBy w' row) (hr : ∀ g, row = some g → B ≤ g) : Sl w' B v xs :=
 h.below ((Below.refl _ _).grown hg h.1 hr)
theorem Ext.tr {w w1 w2 : World} (h : Ext w w1) (h' : Ext w1 w2) : Ext w w2 := h.trans (h'.mono h.size)
theorem Sl.back {w w' : World} {B v xs} (hx : Ext w w') (h : Sl w B v xs) : Sl w' B v xs := h.ext hx
theorem Ext.back {w w1 w2 : World} (h' : Ext w1 w2) (h : Ext w w1) : Ext w w2 := h.tr h'
theorem Sl.nil (w : World) (B : Nat) (hB : B ≤ w.heap.size) : Sl w B (.slice none 0 0) [] := ⟨hB, none, 0, rfl, Nat.le_refl _, by simp [maxLen], fun _ => rfl, fun _ h => by cases h⟩
theorem sl_of_row {k : IntKind} {w : World} {a : Option Addr} {len cap : Nat} {zs : List Int} (h : (a = none ∧ len = 0 ∧ cap = 0 ∧ zs = []) ∨
  ∃ x, a = some x ∧ len ≤ cap ∧ cap ≤ maxLen ∧ zs.length = cap ∧ (∀ i, i < zs.length → w.cell? (x.add i) = some (.int k (zs.getD i 0))) ∧ ∀ n ∈ zs, (Lit.int k n).wf = true) :
  Sl w w.heap.size (.slice a len cap) ((zs.take len).map (Value.int k)) ∧ ∀ n ∈ zs.take len, (Lit.int k n).wf = true := by
 rcases h with ⟨rfl, rfl, rfl, rfl⟩ | ⟨x, rfl, hlc, hcm, hz, hcell, hwf⟩
 ·exact ⟨⟨Nat.le_refl _, none, 0, rfl, Nat.le_refl _, by simp [maxLen], fun _ => rfl, fun _ h => by cases h⟩, by simp⟩
 ·have hl : ((zs.take len).map (Value.int k)).length = len := by simp; omega
  refine ⟨⟨Nat.le_refl _, some x, cap, by rw [hl], by rw [hl]; exact hlc, hcm, (fun h => by cases h), fun ad ha j u hu => ?_⟩, fun n hn => hwf n (List.mem_of_mem_take hn)⟩
  obtain rfl := Option.some.inj ha
  have hj : j < len := by rw [← hl]; exact (List.getElem?_eq_some_iff.1 hu).1
  have hc := hcell j (by omega)
  have e : u = .int k (zs.getD j 0) := by
   simp only [List.getElem?_map, List.getElem?_take, if_pos hj] at hu
   rw [List.getD_eq_getElem?_getD]
   cases hz' : zs[j]? with
   | none => simp [hz'] at hu
   | some z => simp [hz'] at hu ⊢; exact hu.symm
  subst e
  exact ⟨by have := World.block_lt_of_cell? _ _ hc; rwa [block_add] at this, hc⟩
theorem bytes_of_ints {zs : List Int} (h : ∀ n ∈ zs, (Lit.int .u8 n).wf = true) : ∃ l : List UInt8, zs.map (Value.int .u8) = l.map bU := by
 refine ⟨zs.map fun n => UInt8.ofNat n.toNat, ?_⟩
 rw [List.map_map]
 apply List.map_congr_left
 intro n hn
 have := h n hn
 simp [Lit.wf, IntKind.min, IntKind.max, IntKind.signed, IntKind.bits] at this
 simp only [bU, Function.comp]
 congr 1
 simp
 omega
abbrev Own (w : World) (B : Nat) (e : TypeId) (v : Value) (xs : List Value) : Prop := w.ownsRow B e 1 v xs.length xs
theorem Own.sl {w B e v xs} (h : Own w B e v xs) : Sl w w.heap.size v xs := by
 rcases h.2 with ⟨rfl, h0⟩ | ⟨g, cap, cur, rfl, hB, hg, hc, hm, hs, ht⟩
 ·have : xs = [] := List.eq_nil_of_length_eq_zero h0
  subst this; exact Sl.nil w _ (Nat.le_refl _)
 ·refine ⟨Nat.le_refl _, _, _, rfl, hc, hm, (fun h => by cases h), fun ad ha => ?_⟩
  obtain rfl := Option.some.inj ha
  exact fun j u hu => ⟨(Array.getElem?_eq_some_iff.1 hg).1, h.cells (g := g) rfl j u hu⟩
theorem Own.ext {w w' B e v xs} (h : Own w B e v xs) (hx : Ext w w') : Own w' B e v xs := by
 refine ⟨h.1, ?_⟩
 rcases h.2 with h0 | ⟨g, cap, cur, hv, hb, hg, r⟩
 ·exact .inl h0
 ·exact .inr ⟨g, cap, cur, hv, hb, (hx.block g (Array.getElem?_eq_some_iff.1 hg).1).trans hg, r⟩
section rules
variable {P : Program} {w : World} {ops : Array Oper} {rest : List Oper} {a : Act} {Q : Exit → Act → World → Prop}
theorem g_at {d : Nat} {op : Op} {ty : TypeId} {pos : String} {aft : Array Edge} {g : Option (Nat × Bool)} (h : wpList P ops Q (⟨some d, op, ty, pos, aft, g⟩ :: rest) a w) : wpList P ops Q (⟨some d, op, ty, pos, aft, g⟩ :: rest) a w := h
theorem wpl_val {o : Oper} {v : Value} {w' : World} (hw : Region.wanted o (yielded ops a.tmps) = true) (hr : (execOp a.eval o).run P w = .ok (.value v) w')
  (h : wpList P ops Q rest (a.put o.dst v) w') : wpList P ops Q (o :: rest) a w := by
 refine wpList_step fun K hK => ?_
 rw [if_pos hw]
 unfold Oper.wp
 rw [hr]
 exact hK _ _ h
theorem Sl.cut {B A c xs} (h : Sl w B (.slice A (List.length xs) c) xs) {l r : Nat} (hlr : l ≤ r) (hr : r ≤ xs.length) :
  Sl w B (.slice (if c = l then A else A.map (·.add l)) (r - l) (c - l)) ((xs.take r).drop l) := by
 obtain ⟨hB, A', c', hv, h1, h2, h3, h4⟩ := h
 injection hv with e1 e2 e3
 subst e1; subst e3
 have hlen : ((xs.take r).drop l).length = r - l := by rw [List.length_drop, List.length_take]; omega
 refine ⟨hB, _, _, by rw [hlen], by rw [hlen]; omega, by omega, ?_, ?_⟩
 ·intro hn
  split at hn
  ·have := h3 hn; omega
  ·cases A with
   | none => have := h3 rfl; omega
   | some ad => cases hn
 ·intro ad ha
  split at ha
  ·rename_i hcl
   intro j u hu
   have : j < r - l := by rw [← hlen]; exact (List.getElem?_eq_some_iff.1 hu).1
   omega
  ·cases A with
   | none => cases ha
   | some ad0 =>
    obtain rfl := Option.some.inj ha
    intro j u hu
    rw [add_add, block_add]
    have hj : j < r - l := by rw [← hlen]; exact (List.getElem?_eq_some_iff.1 hu).1
    refine h4 ad0 rfl _ u ?_
    rw [List.getElem?_drop, List.getElem?_take, if_pos (by omega)] at hu
    exact hu
theorem Sl.cap {B A n c xs} (h : Sl w B (.slice A n c) xs) : n = xs.length ∧ xs.length ≤ c ∧ c ≤ maxLen := by
 obtain ⟨_, A', c', hv, h1, h2, _⟩ := h
 injection hv with e1 e2 e3
 subst e3
 exact ⟨e2, h1, h2⟩
theorem run_append_nilsrc (B : Nat) (t ty e : TypeId) (i : TypeInfo) (ht : P.underlying t = some (.slice e)) (hi : P.info? e = some i)
  (v : Value) (xs : List Value) (hown : Own w B e v xs) (c : Nat) : (Builtin.append_ #[t, t] ty #[v, .slice none 0 c]).run P w = .ok v w := by
 rcases hown.2 with ⟨rfl, h0⟩ | ⟨g, cap, cur, rfl, _, _, hnc, _⟩
 ·simp [Builtin.append_, run_underlying ht, sizeOf, typeInfo, hi, Builtin.lenOf, Builtin.firstCells]
 ·simp [Builtin.append_, run_underlying ht, sizeOf, typeInfo, hi, Builtin.lenOf, Builtin.firstCells, hnc, storeCells]
theorem run_append_any (B B' : Nat) (t ty e : TypeId) (i : TypeInfo) (z : Value) (bytes : Nat) (ht : P.underlying t = some (.slice e)) (hi : P.info? e = some i) (hz : i.zero = some z)
  (hsize : i.size = 1) (hby : i.bytes = bytes) (hzs : z.cells.size = 1)
  (v : Value) (xs : List Value) (hown : Own w B e v xs) (y : Value) (ys : List Value) (hy : Sl w B' y ys) (h1 : ∀ u ∈ ys, u.oneCell' = true)
  (h63 : xs.length + ys.length ≤ maxLen) (hbytes : (xs.length + ys.length) * bytes ≤ 140737488355328) (hbase : B ≤ w.heap.size) :
  ∃ v' w', (Builtin.append_ #[t, t] ty #[v, y]).run P w = .ok v' w' ∧ Own w' B e v' (xs ++ ys) ∧ w.grownBy w' v.ownBlock ∧
   (v'.ownBlock = v.ownBlock ∨ v'.ownBlock = some w.heap.size) := by
 obtain ⟨_, A, c, rfl, hl, hc, hA, hcell⟩ := hy
 rcases A with _ | ad
 ·have hc0 := hA rfl
  have hm : ys = [] := List.eq_nil_of_length_eq_zero (by omega)
  subst hm
  exact ⟨v, w, run_append_nilsrc B t ty e i ht hi v xs hown c, by simpa using hown, World.grownBy.refl w _, .inl rfl⟩
 ·have hcs : ∀ j u, ys[j]? = some u → w.cell? (ad.add j) = some u := fun j u hu => (hcell ad rfl j u hu).2
  obtain ⟨v', w', hrun, h2, h3, _, h5⟩ := run_append_own_at (P := P) w B t ty e i z 1 bytes ht hi hz hsize hby hzs (by omega) v xs.length xs hown ad ys.length c ys (by simp) hcs h1 h63 hbytes hbase
  exact ⟨v', w', hrun, by unfold Own; rw [List.length_append]; exact h2, h3, h5⟩
theorem wpl_append {dst ty pos aft g} {s x : Operand} {t e : TypeId} {i : TypeInfo} {z : Value} {bytes B B' : Nat} {v y : Value} {xs ys : List Value}
  (hs : a.eval s = v) (hx : a.eval x = y) (ht : P.underlying t = some (.slice e)) (hi : P.info? e = some i) (hz : i.zero = some z)
  (hsize : i.size = 1) (hby : i.bytes = bytes) (hzs : z.cells.size = 1) (hown : Own w B e v xs) (hy : Sl w B' y ys) (h1 : ∀ u ∈ ys, u.oneCell' = true)
  (hbytes : (xs.length + ys.length) * bytes ≤ 140737488355328) (hb0 : 0 < bytes) (hbase : B ≤ w.heap.size)
  (h : ∀ v' w', Own w' B e v' (xs ++ ys) → w.grownBy w' v.ownBlock → (v'.ownBlock = v.ownBlock ∨ v'.ownBlock = some w.heap.size) → Below B w w' → wpList P ops Q rest (a.put dst v') w')
  (hw : Region.wanted ⟨dst, .call { callee := .builtin .append, args := #[s, x], argTypes := #[t, t] }, ty, pos, aft, g⟩ (yielded ops a.tmps) = true := by rfl) :
  wpList P ops Q (⟨dst, .call { callee := .builtin .append, args := #[s, x], argTypes := #[t, t] }, ty, pos, aft, g⟩ :: rest) a w := by
 have h63 : xs.length + ys.length ≤ maxLen := by
  have := Nat.le_mul_of_pos_right (xs.length + ys.length) hb0
  unfold maxLen; omega
 obtain ⟨v', w', hrun, h2, h3, h4⟩ := run_append_any (P := P) (w := w) B B' t ty e i z bytes ht hi hz hsize hby hzs v xs hown y ys hy h1 h63 hbytes hbase
 refine wpl_val hw ?_ (h v' w' h2 h3 h4 ((Below.refl _ _).grown h3 hbase (fun k hk => (hown.lt k hk).1)))
 simp [execOp, resolve, invoke, builtin, hs, hx, hrun]
theorem foldl_push (l : List UInt8) (acc : ByteArray) : (l.map fun x => (x.toNat : Int)).foldl (fun r n => r.push (UInt8.ofNat n.toNat)) acc = ⟨acc.data ++ l.toArray⟩ := by
 induction l generalizing acc with
 | nil => simp
 | cons x l ih =>
  simp only [List.map_cons, List.foldl_cons, ih]
  simp [ByteArray.push]
theorem run_bytes_string {B v} {l : List UInt8} {src dst e : TypeId} (hs : P.underlying src = some (.slice e)) (he : P.underlying e = some (.int .u8)) (hd : P.underlying dst = some .string)
  (hv : Sl w B v (l.map bU)) : (convert src dst v).run P w = .ok (.string ⟨l.toArray⟩) w := by
 obtain ⟨_, A, c, rfl, hl, hc, hA, hcell⟩ := hv
 rw [run_convert_bytes_string w src dst e A _ c hs he hd]
 cases A with
 | none =>
  have : l = [] := List.eq_nil_of_length_eq_zero (by have := hA rfl; simp at hl; omega)
  subst this
  simp [Conv.bytesToString]; rfl
 | some ad =>
  have hcs : ∀ j u, (l.map bU)[j]? = some u → w.cell? (ad.add j) = some u := fun j u hu => (hcell ad rfl j u hu).2
  have hload := run_loadCells_list (P := P) w ad (l.map bU) hcs
  have e1 : l.map bU = (l.map fun x => (x.toNat : Int)).map (Value.int .u8) := by simp [bU]
  have hr := run_bytesToString (P := P) w ad (l.map bU).length c (l.map fun x => (x.toNat : Int)) (by rw [hload, e1])
  rw [hr, foldl_push]
  simp
theorem fill_list : ∀ (l : List Value) (k : Nat) (cells : Array Value), (∀ u ∈ l, u.cells = #[u]) → k + l.length ≤ cells.size →
  Instr.fill (fun i => some (i * 1, 1)) cells ((l.zipIdx k).map fun p => (p.2, p.1)) = some (cells.toList.take k ++ l ++ cells.toList.drop (k + l.length)).toArray
 | [], k, cells, _, _ => by simp [Instr.fill]
 | u :: l, k, cells, hu, hk => by
  simp only [List.length_cons] at hk
  have hu0 : u.cells = #[u] := hu u (by simp)
  simp only [List.zipIdx_cons, List.map_cons, Instr.fill, hu0]
  rw [if_neg (by simp; omega)]
  have ih := fill_list l (k + 1) (cells.setIfInBounds k u) (fun x hx => hu x (by simp [hx])) (by simp; omega)
  have e1 : (Array.zipIdx #[u]).foldl (fun cs (x : Value × Nat) => cs.setIfInBounds (k + x.2) x.1) cells = cells.setIfInBounds k u := by
   simp [Array.zipIdx]
  simp only [Nat.mul_one] at ih ⊢
  rw [show (Array.zipIdx #[u]).foldl (fun cs (x : Value × Nat) => match x with | (c, j) => cs.setIfInBounds (k + j) c) cells = cells.setIfInBounds k u from e1, ih]
  have hk' : k < cells.toList.length := by simp; omega
  have e2 : (cells.toList.set k u).take (k + 1) = cells.toList.take k ++ [u] := by
   rw [List.take_set, List.take_succ_eq_append_getElem hk', List.set_append_right _ _ (by simp; omega)]
   simp only [List.length_take, Nat.min_eq_left (Nat.le_of_lt hk'), Nat.sub_self, List.set_cons_zero]
  have e3 : (cells.toList.set k u).drop (k + 1 + l.length) = cells.toList.drop (k + 1 + l.length) := List.drop_set_of_lt (by omega)
  rw [Array.toList_setIfInBounds, e2, e3]
  simp [Nat.add_assoc, Nat.add_comm 1]
theorem wpl_buildSlice {dst ty pos aft g} {t e : TypeId} {n : Nat} {ps : Array (Nat × Operand)} {xs : List Operand} {vs : List Value} {i : TypeInfo} {z : Value}
  (ht : P.underlying t = some (.slice e)) (hi : P.info? e = some i) (hz : i.zero = some z) (hsize : i.size = 1) (hzs : z.cells.size = 1)
  (hps : ps = (xs.zipIdx.map fun p => (p.2, p.1)).toArray) (hvs : xs.map a.eval = vs) (hn : xs.length = n) (h1 : ∀ u ∈ vs, u.cells = #[u]) (hlt : n ≤ 1000)
  (h : ∀ v' w', Own w' w.heap.size e v' vs → Ext w w' → v'.ownBlock = some w.heap.size → wpList P ops Q rest (a.put dst v') w')
  (hw : Region.wanted ⟨dst, .buildSlice t n ps, ty, pos, aft, g⟩ (yielded ops a.tmps) = true := by rfl) :
  wpList P ops Q (⟨dst, .buildSlice t n ps, ty, pos, aft, g⟩ :: rest) a w := by
 have hlen : vs.length = n := by rw [← hvs]; simpa using hn
 have hO : Own (w.alloc (.cells vs.toArray e)) w.heap.size e (.slice (some ⟨w.heap.size, 0, none⟩) n n) vs := by
  have := World.ownsRow_lit w vs.toArray n (base := w.heap.size) (e := e) (size := 1) (Nat.le_refl _) (by unfold maxLen; omega) (by simp [hlen])
  unfold Own
  rw [hlen]
  simpa using this
 refine wpl_val hw ?_ (h _ _ hO ((Below.refl _ _).alloc (Nat.le_refl _) _) rfl)
 have hmap : ps.toList.map (fun (x : Nat × Operand) => (x.1, a.eval x.2)) = (vs.zipIdx.map fun p => (p.2, p.1)) := by
  subst hps; subst hvs
  simp [List.zipIdx_map, Function.comp_def]
 have hf := fun (c : Array Value) (hc : c.size = n) => fill_list vs 0 c h1 (by simp [hlen, hc])
 simp only [Nat.zero_add, List.take_zero, List.nil_append, Nat.mul_one] at hf
 have hdrop : ∀ c : Array Value, c.size = n → vs ++ c.toList.drop vs.length = vs := fun c hc => by
  rw [List.drop_of_length_le (by simp [hlen, hc])]; simp
 have hz' : (zeroValue e).run P w = .ok z w := by simp [zeroValue, typeInfo, hi, hz]
 simp only [execOp, Sem.run_bind, Sem.run_pure, Instr.buildSlice, run_underlying ht, sizeOf, typeInfo, run_program, hi, hsize, Result.andThen_ok]
 rw [if_neg (by omega)]
 by_cases h0 : n = 0
 ·subst h0
  simp [hf, hdrop, hmap, newRow]
 ·simp [h0, hf, hdrop, hmap, hz', newRow]
theorem wpl_eq_nil {dst ty pos aft g} {x : Operand} {t t' e : TypeId} {v B xs} (hx : a.eval x = v) (ht : P.underlying t = some (.slice e)) (hv : Sl w B v xs)
  (h : ∀ b : Bool, (b = true → xs = []) → wpList P ops Q rest (a.put dst (.bool b)) w)
  (hw : Region.wanted ⟨dst, .binOp .eql t x (.const (.slice none 0 0)) t', ty, pos, aft, g⟩ (yielded ops a.tmps) = true := by rfl) :
  wpList P ops Q (⟨dst, .binOp .eql t x (.const (.slice none 0 0)) t', ty, pos, aft, g⟩ :: rest) a w := by
 obtain ⟨_, A, c, rfl, hl, hc, hA, hcell⟩ := hv
 refine wpl_val hw ?_ (h A.isNone (fun hn => List.eq_nil_of_length_eq_zero (by have := hA (by simpa using hn); omega)))
 have hq := Lib.run_eql_slice_nil (P := P) w t e A xs.length c 0 0 ht
 have hc0 : a.eval (.const (.slice none 0 0)) = .slice none 0 0 := rfl
 simp [execOp, hx, hc0, eqGuard, hq]
def Ret (R : Value → World → Prop) : Ending → World → Prop := fun e w' => ∃ v, e = .returned v ∧ R v w'
theorem mk_toList (a : List UInt8) : (ByteArray.mk a.toArray).toList = a := ByteArray.toList_mk a
theorem run_equalIn_iface_int (d : Nat) {ti tn : TypeId} {ms : Array (String × TypeId)} {i : TypeInfo} {k : IntKind} (a b : Int)
  (hi : P.underlying ti = some (.interface ms)) (hn : P.underlying tn = some (.int k)) (hinfo : P.info? tn = some i) (hcomp : i.comparable = true) :
  (Op.equalIn (d + 2) ti (.iface tn (.int k a)) (.iface tn (.int k b))).run P w = .ok (a == b) w := by
 simp [Op.equalIn, run_underlying hi, run_underlying hn, typeInfo, hinfo, hcomp]
end rules
end Go.Ch
end
section
namespace Go.Ch
open Go.RowKit
abbrev Pred := Value → World → Prop
section region
variable {P : Program} {ops : Array Oper} {X : World → World → Prop} {w0 : World}
def Ob (P : Program) (ops : Array Oper) (X : World → World → Prop) (w0 : World) (o : Oper) (E : Nat → Pred) (R : Pred) : Prop :=
 ∀ (a : Act) (w : World), X w0 w → a.defers = [] → (∀ t ∈ o.looksAt ops, E t (a.tmps.getD t undef) w) →
  if Region.wanted o (yielded ops a.tmps) = true then o.wp P a w (fun a' w' => ∃ v, a' = a.put o.dst v ∧ X w w' ∧ R v w') (fun _ _ _ => False) else R undef w
def upd (E : Nat → Pred) (d : Option Tmp) (R : Pred) : Nat → Pred := match d with
 | some d => fun t => if t = d then R else E t
 | none => E
def RW (P : Program) (ops : Array Oper) (X : World → World → Prop) (w0 : World) : List Oper → (Nat → Pred) → (List (Option Tmp × Pred) → Prop) → Prop
 | [], _, K => K []
 | o :: rest, E, K => ∃ R : Pred, (∀ v w w', X w w' → R v w → R v w') ∧ Ob P ops X w0 o E R ∧ RW P ops X w0 rest (upd E o.dst R) (fun L => K ((o.dst, R) :: L))
def Fin (Q : Act → World → Prop) : List (Option Tmp × Pred) → Act → World → Prop
 | [], a, w => Q a w
 | (d, R) :: rest, a, w => ∀ v, R v w → Fin Q rest (a.put d v) w
def okEdges (o : Oper) (f : Nat → Bool) : Bool := o.after.all fun e => !Region.binds .any e || f e.on
def hasEdge (o : Oper) (j : Nat) : Bool := o.after.any fun e => Region.binds .any e && e.on == j
def hasE (ops : Array Oper) (i j : Nat) : Bool := match ops[i]? with | some o => hasEdge o j | none => false
def inC (ops : Array Oper) (i : Nat) : Nat → Nat → Bool
 | 0, j => hasE ops i j
 | f + 1, j => hasE ops i j || (List.range ops.size).any fun m => decide (j < m) && (hasE ops m j && inC ops i f m)
def okRegion (ops : Array Oper) (k n : Nat) (dl : Option Nat := none) : Bool :=
 (List.range ops.size).all fun i => match ops[i]? with
  | none => false
  | some o =>
   okEdges o (fun j => decide (j < i)) &&
   (if i < k then
    (match o.dst with | some d => decide (d < n) | none => true) &&
    ((List.range k).all fun j => match ops[j]? with
     | none => false
     | some oj =>
      (match o.dst, oj.dst with | some d, some d' => i == j || d != d' | _, _ => true) &&
      ((o.looksAt ops).all fun t => oj.dst != some t || (decide (j < i) && hasEdge o j) || (decide (i < j) && hasEdge oj i)))
    else (List.range i).all fun j => hasEdge o j || (i == k && dl == some j && decide (j < k)) || (decide (j < k) && (dl.isNone && inC ops i ops.size j)))
def framed (ops : Array Oper) (listed : Nat → Bool) (vals : Nat → Value) : Nat → Act → Act
 | 0, a => a
 | k + 1, a => let a' := framed ops listed vals k a; if listed k then a'.put ((ops[k]?).bind (·.dst)) (vals k) else a'
theorem framed_congr {l l' : Nat → Bool} {v v' : Nat → Value} : ∀ (k : Nat) (a : Act), (∀ i < k, l i = l' i ∧ (l i = true → v i = v' i)) → framed ops l v k a = framed ops l' v' k a
 | 0, _, _ => rfl
 | k + 1, a, h => by
  have hk := h k (by omega)
  simp only [framed]
  rw [framed_congr k a (fun i hi => h i (by omega))]
  rw [← hk.1]
  by_cases hl : l k = true
  ·rw [if_pos hl, if_pos hl, hk.2 hl]
  ·rw [if_neg hl, if_neg hl]
theorem put_size (a : Act) (d : Option Tmp) (v : Value) : (a.put d v).tmps.size = a.tmps.size := by cases d <;> simp [Act.put]
theorem put_defers (a : Act) (d : Option Tmp) (v : Value) : (a.put d v).defers = a.defers := by cases d <;> rfl
theorem framed_size (l v) : ∀ (k : Nat) (a : Act), (framed ops l v k a).tmps.size = a.tmps.size
 | 0, _ => rfl
 | k + 1, a => by
  simp only [framed]
  split
  ·rw [put_size, framed_size l v k a]
  ·exact framed_size l v k a
theorem framed_defers (l v) : ∀ (k : Nat) (a : Act), (framed ops l v k a).defers = a.defers
 | 0, _ => rfl
 | k + 1, a => by
  simp only [framed]
  split
  ·rw [put_defers, framed_defers l v k a]
  ·exact framed_defers l v k a
theorem getD_put_other (a : Act) (d : Option Tmp) (v : Value) (t : Nat) (h : d ≠ some t) : (a.put d v).tmps.getD t undef = a.tmps.getD t undef := by
 cases d with
 | none => rfl
 | some d =>
  have hne : d ≠ t := fun e => h (by rw [e])
  simp only [Act.put, Array.getD_eq_getD_getElem?, Array.getElem?_setIfInBounds_ne hne]
theorem getD_put_same (a : Act) (v : Value) (t : Nat) (h : t < a.tmps.size) : (a.put (some t) v).tmps.getD t undef = v := by
 simp [Act.put, h]
theorem framed_other (l v) (t : Nat) : ∀ (k : Nat) (a : Act), (∀ j < k, l j = true → (ops[j]?).bind (·.dst) ≠ some t) → (framed ops l v k a).tmps.getD t undef = a.tmps.getD t undef
 | 0, _, _ => rfl
 | k + 1, a, h => by
  simp only [framed]
  split
  ·rename_i hl
   rw [getD_put_other _ _ _ _ (h k (by omega) hl)]
   exact framed_other l v t k a (fun j hj => h j (by omega))
  ·exact framed_other l v t k a (fun j hj => h j (by omega))
theorem framed_same (l v) (t i : Nat) : ∀ (k : Nat) (a : Act), i < k → l i = true → (ops[i]?).bind (·.dst) = some t → t < a.tmps.size →
  (∀ j < k, j ≠ i → (ops[j]?).bind (·.dst) ≠ some t) → (framed ops l v k a).tmps.getD t undef = v i
 | 0, _, hi, _, _, _, _ => by omega
 | k + 1, a, hi, hl, hd, ht, h => by
  simp only [framed]
  by_cases e : i = k
  ·subst e
   rw [if_pos hl, hd]
   exact getD_put_same _ _ _ (by rw [framed_size]; exact ht)
  ·split
   ·rw [getD_put_other _ _ _ _ (h k (by omega) (fun e' => e e'.symm))]
    exact framed_same l v t i k a (by omega) hl hd ht (fun j hj => h j (by omega))
   ·exact framed_same l v t i k a (by omega) hl hd ht (fun j hj => h j (by omega))
theorem framed_put {l : Nat → Bool} {v : Nat → Value} (i : Nat) (u : Value) : ∀ (k : Nat) (a : Act), i < k → l i = false →
  (∀ j < k, j ≠ i → ∀ d, (ops[i]?).bind (·.dst) = some d → (ops[j]?).bind (·.dst) ≠ some d) →
  framed ops (fun j => if j = i then true else l j) (fun j => if j = i then u else v j) k a = (framed ops l v k a).put ((ops[i]?).bind (·.dst)) u
 | 0, _, hi, _, _ => by omega
 | k + 1, a, hi, hl, h => by
  simp only [framed]
  by_cases e : i = k
  ·subst e
   simp only [if_true, hl, Bool.false_eq_true, if_false]
   rw [framed_congr i a (l' := l) (v' := v) (fun j hj => by rw [if_neg (by omega), if_neg (by omega)]; exact ⟨rfl, fun _ => rfl⟩)]
  ·have ih := framed_put (l := l) (v := v) i u k a (by omega) hl (fun j hj => h j (by omega))
   rw [ih]
   simp only [if_neg (show k ≠ i from fun e' => e e'.symm)]
   split
   ·rw [Act.put_comm]
    intro d hd hk
    exact h k (by omega) (fun e' => e e'.symm) d hd hk
   ·rfl
theorem wp_mono2 {o : Oper} {a : Act} {w : World} {K K' : Act → World → Prop} {Q : Exit → Act → World → Prop} (h : ∀ a w, K a w → K' a w)
  (hh : o.wp P a w K (fun _ _ _ => False)) : o.wp P a w K' Q := by
 unfold Oper.wp at *
 generalize (execOp a.eval o).run P w = r at *
 cases r with
 | ok n w' =>
  cases n <;> simp only [Oper.upon] at hh ⊢ <;>
  first
  | exact h _ _ hh
  | exact Calls.mono hh (fun e w'' he => by
    cases e with
    | returned v => exact h _ _ he
    | panicked c => exact he.elim
    | outgrown => obtain ⟨_, _, hf⟩ := he; exact hf.elim)
  | exact Rows.mono hh (fun _ _ he => h _ _ he)
 | halt x w' => cases x <;> simp only [Oper.upon] at hh ⊢
def Ecum (E : Nat → Pred) : List (Option Tmp × Pred) → (Nat → Pred)
 | [] => E
 | (d, R) :: L => Ecum (upd E d R) L
theorem Ecum_other (t : Nat) : ∀ (L : List (Option Tmp × Pred)) (E : Nat → Pred), (∀ p ∈ L, p.1 ≠ some t) → Ecum E L t = E t
 | [], _, _ => rfl
 | (d, R) :: L, E, h => by
  rw [Ecum, Ecum_other t L _ (fun p hp => h p (by simp [hp]))]
  have := h (d, R) (by simp)
  cases d with
  | none => rfl
  | some d => simp only [upd]; rw [if_neg (fun e => this (by rw [e]))]
theorem Ecum_same (t : Nat) (p : Option Tmp × Pred) : ∀ (L : List (Option Tmp × Pred)) (E : Nat → Pred) (j : Nat), L[j]? = some p → p.1 = some t →
  (∀ j' p', j' ≠ j → L[j']? = some p' → p'.1 ≠ some t) → Ecum E L t = p.2
 | [], _, j, hj, _, _ => by simp at hj
 | (d, R) :: L, E, j, hj, hp, h => by
  rw [Ecum]
  cases j with
  | zero =>
   simp at hj
   subst hj
   rw [Ecum_other t L _ (fun p' hp' => by
    obtain ⟨j', hj'⟩ := List.mem_iff_getElem?.1 hp'
    exact h (j' + 1) p' (by omega) (by simpa using hj'))]
   simp only at hp
   subst hp
   simp [upd]
  | succ j =>
   exact Ecum_same t p L _ j (by simpa using hj) hp (fun j' p' hne hj' => h (j' + 1) p' (by omega) (by simpa using hj'))
theorem RW_list : ∀ (l : List Oper) (E : Nat → Pred) (K : List (Option Tmp × Pred) → Prop), RW P ops X w0 l E K →
  ∃ L : List (Option Tmp × Pred), L.length = l.length ∧ K L ∧ ∀ i o p, l[i]? = some o → L[i]? = some p → p.1 = o.dst ∧ (∀ v w w', X w w' → p.2 v w → p.2 v w') ∧ Ob P ops X w0 o (Ecum E (L.take i)) p.2
 | [], E, K, h => ⟨[], rfl, h, fun i o p hi => by simp at hi⟩
 | o :: l, E, K, h => by
  obtain ⟨R, hm, hob, hr⟩ := h
  obtain ⟨L, hl, hK, hL⟩ := RW_list l _ _ hr
  refine ⟨(o.dst, R) :: L, by simp [hl], hK, fun i o' p hi hp => ?_⟩
  cases i with
  | zero =>
   simp at hi hp
   subst hi; subst hp
   exact ⟨rfl, hm, by simpa [Ecum] using hob⟩
  | succ i =>
   obtain ⟨h1, h2, h3⟩ := hL i o' p (by simpa using hi) (by simpa using hp)
   exact ⟨h1, h2, by simpa [Ecum] using h3⟩
def cnt (l : Nat → Bool) : Nat → Nat
 | 0 => 0
 | k + 1 => (if l k then 0 else 1) + cnt l k
theorem cnt_congr {l l' : Nat → Bool} : ∀ k, (∀ i < k, l i = l' i) → cnt l k = cnt l' k
 | 0, _ => rfl
 | k + 1, h => by simp only [cnt]; rw [h k (by omega), cnt_congr k (fun i hi => h i (by omega))]
theorem cnt_set (l : Nat → Bool) (i : Nat) : ∀ k, i < k → l i = false → cnt (fun j => if j = i then true else l j) k + 1 = cnt l k
 | 0, h, _ => by omega
 | k + 1, h, hl => by
  simp only [cnt]
  by_cases e : i = k
  ·subst e
   rw [cnt_congr i (l := fun j => if j = i then true else l j) (l' := l) (fun j hj => by rw [if_neg (by omega)])]
   simp [hl]; omega
  ·have := cnt_set l i k (by omega) hl
   simp only [if_neg (show k ≠ i from fun e' => e e'.symm)]
   omega
theorem cnt_true : ∀ k, cnt (fun _ => true) k = 0
 | 0 => rfl
 | k + 1 => by simp [cnt, cnt_true k]
theorem cnt_zero (l : Nat → Bool) : ∀ k, cnt l k = 0 → ∀ i < k, l i = true
 | 0, _, i, hi => by omega
 | k + 1, h, i, hi => by
  simp only [cnt] at h
  have hk : l k = true := by
   cases hk : l k
   ·simp [hk] at h
   ·rfl
  simp only [hk, if_true, Nat.zero_add] at h
  by_cases e : i = k
  ·rw [e]; exact hk
  ·exact cnt_zero l k h i (by omega)
theorem mem_ready {listed : Array Bool} {i : Nat} : i ∈ Region.ready .any ops listed ↔ ∃ o, ops[i]? = some o ∧ listed.getD i true = false ∧ okEdges o (fun j => listed.getD j false) = true := by
 simp only [Region.ready, List.mem_filter, List.mem_range, Bool.and_eq_true, Bool.not_eq_true']
 constructor
 ·rintro ⟨hi, h1, h2⟩
  refine ⟨ops[i], Array.getElem?_eq_getElem hi, h1, ?_⟩
  simpa [Array.getElem?_eq_getElem hi, okEdges] using h2
 ·rintro ⟨o, ho, h1, h2⟩
  exact ⟨(Array.getElem?_eq_some_iff.1 ho).1, h1, by simpa [ho, okEdges] using h2⟩
theorem getD_set (listed : Array Bool) (i : Nat) (d : Bool) (j : Nat) (hi : i < listed.size) : (listed.setIfInBounds i true).getD j d = if j = i then true else listed.getD j d := by
 simp only [Array.getD_eq_getD_getElem?, Array.getElem?_setIfInBounds]
 by_cases h : i = j
 ·subst h; simp [hi]
 ·rw [if_neg h, if_neg (fun e : j = i => h e.symm)]
theorem any_tail {Q : Exit → Act → World → Prop} (k n : Nat) (hn : ops.size = n) (hok : ∀ i o, k ≤ i → ops[i]? = some o → (∀ j, k ≤ j → j < i → hasEdge o j = true) ∧ okEdges o (fun j => decide (j < i)) = true) :
  ∀ (f m : Nat) (listed : Array Bool) (a : Act) (w : World), k ≤ m → m ≤ n → n - m ≤ f → listed.size = n → (∀ i < n, ∀ d, listed.getD i d = decide (i < m)) →
   wpList P ops Q (ops.toList.drop m) a w → wpAny P .any ops Q f listed a w := by
 intro f
 induction f with
 | zero =>
  intro m listed a w hkm hmn hf hs hl hw
  have : m = n := by omega
  subst this
  refine ⟨List.eq_nil_iff_forall_not_mem.2 fun i hi => ?_, ?_⟩
  ·obtain ⟨o, ho, h1, _⟩ := mem_ready.1 hi
   have := (Array.getElem?_eq_some_iff.1 ho).1
   rw [hl i (by omega)] at h1
   simp at h1; omega
  ·rw [List.drop_of_length_le (by simp [hn])] at hw
   exact hw
 | succ f ih =>
  intro m listed a w hkm hmn hf hs hl hw
  rcases Nat.lt_or_ge m n with hlt | hge
  ·have hm : m < ops.size := by omega
   have hom : ops[m]? = some ops[m] := Array.getElem?_eq_getElem hm
   have honly : ∀ i ∈ Region.ready .any ops listed, i = m := by
    intro i hi
    obtain ⟨o, ho, h1, h2⟩ := mem_ready.1 hi
    have hin := (Array.getElem?_eq_some_iff.1 ho).1
    rw [hl i (by omega)] at h1
    simp at h1
    by_cases e : i = m
    ·exact e
    ·have hedge := (hok i o (by omega) ho).1 m (by omega) (by omega)
     unfold hasEdge at hedge
     unfold okEdges at h2
     obtain ⟨x, hx, hb⟩ := Array.any_eq_true'.1 hedge
     have := Array.all_eq_true'.1 h2 x hx
     simp only [Bool.and_eq_true, beq_iff_eq] at hb
     rw [hb.1, hb.2] at this
     simp only [Bool.not_true, Bool.false_or] at this
     rw [hl m hlt] at this
     simp at this
   refine ⟨fun h0 => ?_, fun i hi => ?_⟩
   ·have : m ∈ Region.ready .any ops listed := mem_ready.2 ⟨_, hom, by rw [hl m hlt]; simp, by
     have h2 := (hok m _ hkm hom).2
     unfold okEdges at h2 ⊢
     rw [Array.all_eq_true'] at h2 ⊢
     intro x hx
     have := h2 x hx
     simp only [Bool.or_eq_true, Bool.not_eq_true'] at this ⊢
     rcases this with h3 | h3
     ·exact .inl h3
     ·right
      have hx' : x.on < m := by simpa using h3
      rw [hl x.on (by omega)]; exact h3⟩
    rw [h0] at this; cases this
   ·have e := honly i hi
    subst e
    unfold wpOp
    rw [hom]
    rw [List.drop_eq_getElem_cons (by simpa using hm)] at hw
    simp only [wpList, Array.getElem_toList] at hw
    show if Region.wanted ops[i] (yielded ops a.tmps) = true then _ else _
    have hnext : ∀ a' w', wpList P ops Q (ops.toList.drop (i + 1)) a' w' → wpAny P .any ops Q f (listed.setIfInBounds i true) a' w' := fun a' w' hh =>
     ih (i + 1) _ a' w' (by omega) (by omega) (by omega) (by simpa using hs) (fun j hj d => by
      rw [getD_set _ _ _ _ (by omega), hl j hj]
      by_cases e : j = i
      ·subst e; simp
      ·rw [if_neg e]; by_cases h : j < i <;> simp [h] <;> omega) hh
    split at hw
    ·rename_i hwant
     rw [if_pos hwant]
     rcases hw with hw | hw
     ·exact .inl (Oper.wp_mono hnext hw)
     ·exact .inr hw
    ·rename_i hwant
     rw [if_neg hwant]
     exact hnext _ _ hw
  ·have : m = n := by omega
   subst this
   have hnil : Region.ready .any ops listed = [] := List.eq_nil_iff_forall_not_mem.2 fun i hi => by
    obtain ⟨o, ho, h1, _⟩ := mem_ready.1 hi
    have := (Array.getElem?_eq_some_iff.1 ho).1
    rw [hl i (by omega)] at h1
    simp at h1; omega
   refine ⟨fun _ => ?_, fun i hi => by rw [hnil] at hi; cases hi⟩
   rw [List.drop_of_length_le (by simp [hn])] at hw
   exact hw
structure OkR (ops : Array Oper) (k n : Nat) : Prop where
 edges : ∀ i o, ops[i]? = some o → okEdges o (fun j => decide (j < i)) = true
 room : ∀ i o d, i < k → ops[i]? = some o → o.dst = some d → d < n
 apart : ∀ i j o oj d, i < k → j < k → i ≠ j → ops[i]? = some o → ops[j]? = some oj → o.dst = some d → oj.dst ≠ some d
 look : ∀ i j o oj t, i < k → j < k → ops[i]? = some o → ops[j]? = some oj → t ∈ o.looksAt ops → oj.dst = some t → (j < i ∧ hasEdge o j = true) ∨ (i < j ∧ hasEdge oj i = true)
 tail : ∀ i o, k ≤ i → ops[i]? = some o → ∀ j, k ≤ j → j < i → hasEdge o j = true
theorem OkR.of {k n : Nat} {dl : Option Nat} (h : okRegion ops k n dl = true) (hk : k ≤ ops.size) : OkR ops k n := by
 unfold okRegion at h
 rw [List.all_eq_true] at h
 have H : ∀ i o, ops[i]? = some o → _ := fun i o ho => by
  have hi := (Array.getElem?_eq_some_iff.1 ho).1
  have := h i (List.mem_range.2 hi)
  rw [ho] at this
  simp only [Bool.and_eq_true] at this
  exact this
 have G : ∀ i o, i < k → ops[i]? = some o → _ := fun i o hi ho => by
  have := (H i o ho).2
  rw [if_pos hi] at this
  simp only [Bool.and_eq_true, List.all_eq_true, List.mem_range] at this
  exact this
 refine ⟨fun i o ho => (H i o ho).1, fun i o d hi ho hd => ?_, fun i j o oj d hi hj hne ho hoj hd hd' => ?_, fun i j o oj t hi hj ho hoj ht hd => ?_, fun i o hi ho j hkj hj => ?_⟩
 ·have := (G i o hi ho).1
  rw [hd] at this
  simpa using this
 ·have := (G i o hi ho).2 j hj
  rw [hoj] at this
  simp only [hd, hd', Bool.and_eq_true, Bool.or_eq_true, beq_iff_eq, bne_self_eq_false, Bool.false_eq_true, or_false] at this
  exact hne this.1
 ·have := (G i o hi ho).2 j hj
  rw [hoj] at this
  simp only [Bool.and_eq_true, List.all_eq_true] at this
  have h2 := this.2 t ht
  rw [hd] at h2
  simpa [Bool.or_eq_true] using h2
 ·have := (H i o ho).2
  rw [if_neg (by omega)] at this
  rw [List.all_eq_true] at this
  have h3 := this j (List.mem_range.2 hj)
  simp only [Bool.or_eq_true, Bool.and_eq_true, decide_eq_true_eq] at h3
  rcases h3 with (h3 | h3) | h3
  ·exact h3
  ·omega
  ·omega
theorem okR_tail {k n : Nat} {dl : Option Nat} (h : okRegion ops k n dl = true) : ∀ i o, k ≤ i → ops[i]? = some o → ∀ j < i, (i = k → dl ≠ some j) → hasEdge o j = true ∨ (dl = none ∧ inC ops i ops.size j = true) := by
 unfold okRegion at h
 rw [List.all_eq_true] at h
 intro i o hi ho j hj hd
 have h1 := h i (List.mem_range.2 (Array.getElem?_eq_some_iff.1 ho).1)
 rw [ho] at h1
 simp only [Bool.and_eq_true] at h1
 have h2 := h1.2
 rw [if_neg (by omega), List.all_eq_true] at h2
 have h3 := h2 j (List.mem_range.2 hj)
 simp only [Bool.or_eq_true, Bool.and_eq_true, beq_iff_eq] at h3
 rcases h3 with (h3 | ⟨⟨h4, h5⟩, _⟩) | ⟨_, h6, h7⟩
 ·exact .inl h3
 ·exact absurd h5 (hd h4)
 ·exact .inr ⟨(by cases dl with | none => rfl | some _ => exact Bool.noConfusion h6), h7⟩
theorem inC_ok {listed : Array Bool} (hcl : ∀ j o, ops[j]? = some o → listed.getD j true = true → okEdges o (fun e => listed.getD e false) = true) (hs : listed.size = ops.size) {i : Nat} {o : Oper} (ho : ops[i]? = some o)
  (h2 : okEdges o (fun e => listed.getD e false) = true) : ∀ (f j : Nat), inC ops i f j = true → listed.getD j false = true := by
 have has : ∀ (o : Oper) (j : Nat), okEdges o (fun e => listed.getD e false) = true → hasEdge o j = true → listed.getD j false = true := by
  intro o j hg he
  unfold okEdges at hg
  unfold hasEdge at he
  obtain ⟨x, hx, hb⟩ := Array.any_eq_true'.1 he
  have := Array.all_eq_true'.1 hg x hx
  simp only [Bool.and_eq_true, beq_iff_eq] at hb
  rw [hb.1, hb.2] at this
  simpa using this
 have h0 : ∀ j, hasE ops i j = true → listed.getD j false = true := fun j hj => by
  unfold hasE at hj; rw [ho] at hj; exact has o j h2 hj
 intro f
 induction f with
 | zero => intro j hj; exact h0 j hj
 | succ f ih =>
  intro j hj
  simp only [inC, Bool.or_eq_true, List.any_eq_true, Bool.and_eq_true] at hj
  rcases hj with hj | ⟨m, hm, _, h3, h4⟩
  ·exact h0 j hj
  ·have h5 := ih m h4
   unfold hasE at h3
   split at h3
   ·rename_i om hom
    have hms : m < listed.size := by rw [hs]; exact (Array.getElem?_eq_some_iff.1 hom).1
    refine has om j (hcl m om hom ?_) h3
    simp only [Array.getD_eq_getD_getElem?, Array.getElem?_eq_getElem hms, Option.getD_some] at h5 ⊢
    exact h5
   ·cases h3
def E0 (a : Act) : Nat → Pred := fun t v _ => v = a.tmps.getD t undef
set_option maxHeartbeats 2000000 in
theorem any_rel {Q : Exit → Act → World → Prop} {k n : Nat} (a0 : Act) (hok : OkR ops k n) (hk : k ≤ ops.size) (hn : a0.tmps.size = n) (hd0 : a0.defers = [])
  (hXr : ∀ a, X a a) (hXt : ∀ a b c, X a b → X b c → X a c) (L : List (Option Tmp × Pred)) (hLl : L.length = k)
  (hL : ∀ i o p, i < k → ops[i]? = some o → L[i]? = some p → p.1 = o.dst ∧ (∀ v w w', X w w' → p.2 v w → p.2 v w') ∧ Ob P ops X w0 o (Ecum (E0 a0) (L.take i)) p.2)
  (hfin : ∀ (vals : Nat → Value) (w : World), X w0 w → (∀ (j : Nat) (p : Option Tmp × Pred), L[j]? = some p → p.2 (vals j) w) → wpList P ops Q (ops.toList.drop k) (framed ops (fun _ => true) vals k a0) w)
  (hesc : ∀ (i : Nat) (o : Oper) (listed : Array Bool) (vals : Nat → Value) (w : World) (f : Nat), k ≤ i → ops[i]? = some o → listed.size = ops.size → (∀ j, k ≤ j → j < ops.size → ∀ d, listed.getD j d = false) → okEdges o (fun e => listed.getD e false) = true → (∀ j o, ops[j]? = some o → listed.getD j true = true → okEdges o (fun e => listed.getD e false) = true) →
   (∃ i' < k, listed.getD i' true = false) → ops.size ≤ f + k + 1 → cnt (fun j => listed.getD j true) k + (ops.size - k) ≤ f + 1 → X w0 w → (∀ (j : Nat) (p : Option Tmp × Pred), j < k → listed.getD j true = true → L[j]? = some p → p.2 (vals j) w) →
   wpOp P ops Q i (wpAny P .any ops Q f (listed.setIfInBounds i true)) (framed ops (fun j => listed.getD j true) vals k a0) w) :
  ∀ (f : Nat) (listed : Array Bool) (a : Act) (w : World), listed.size = ops.size → (∀ i, k ≤ i → i < ops.size → ∀ d, listed.getD i d = false) →
   (∀ j o, ops[j]? = some o → listed.getD j true = true → okEdges o (fun e => listed.getD e false) = true) →
   cnt (fun j => listed.getD j true) k + (ops.size - k) ≤ f → X w0 w →
   (∃ vals : Nat → Value, a = framed ops (fun j => listed.getD j true) vals k a0 ∧ ∀ (j : Nat) (p : Option Tmp × Pred), j < k → listed.getD j true = true → L[j]? = some p → p.2 (vals j) w) →
   wpAny P .any ops Q f listed a w := by
 have dst_at : ∀ (i : Nat) (o : Oper), ops[i]? = some o → (ops[i]?).bind (·.dst) = o.dst := fun i o ho => by rw [ho]; rfl
 have edgeMono : ∀ (o : Oper) (f g : Nat → Bool), okEdges o f = true → (∀ j, f j = true → g j = true) → okEdges o g = true := by
  intro o f g hf hfg
  unfold okEdges at *
  rw [Array.all_eq_true'] at *
  intro x hx
  have := hf x hx
  simp only [Bool.or_eq_true, Bool.not_eq_true'] at this ⊢
  exact this.imp id (hfg _)
 have hasOk : ∀ (o : Oper) (g : Nat → Bool) (j : Nat), okEdges o g = true → hasEdge o j = true → g j = true := by
  intro o g j hg he
  unfold okEdges at hg
  unfold hasEdge at he
  obtain ⟨x, hx, hb⟩ := Array.any_eq_true'.1 he
  have := Array.all_eq_true'.1 hg x hx
  simp only [Bool.and_eq_true, beq_iff_eq] at hb
  rw [hb.1, hb.2] at this
  simpa using this
 intro f
 induction f with
 | zero =>
  intro listed a w hs hsuf hcl hcnt hX hI
  obtain ⟨vals, rfl, hv⟩ := hI
  have hall := cnt_zero (fun j => listed.getD j true) k (by omega)
  have hkn : k = ops.size := by omega
  have hw := hfin vals w hX (fun j p hp => hv j p (by rw [← hLl]; exact (List.getElem?_eq_some_iff.1 hp).1) (hall j (by rw [← hLl]; exact (List.getElem?_eq_some_iff.1 hp).1)) hp)
  rw [framed_congr k a0 (l' := fun j => listed.getD j true) (v' := vals) (fun i hi => ⟨(hall i hi).symm, fun _ => rfl⟩)] at hw
  refine any_tail k ops.size rfl (fun i o hi ho => ⟨fun j hkj hj => hok.tail i o hi ho j hkj hj, hok.edges i o ho⟩) 0 k listed _ w (Nat.le_refl _) hk (by omega) hs (fun i hi d => ?_) hw
  have := hall i (by omega)
  simp only [Array.getD_eq_getD_getElem?, Array.getElem?_eq_getElem (show i < listed.size by omega)] at this ⊢
  simp only [Option.getD_some] at this ⊢
  rw [this]; simp; omega
 | succ f ih =>
  intro listed a w hs hsuf hcl hcnt hX hI
  obtain ⟨vals, rfl, hv⟩ := hI
  by_cases hc0 : cnt (fun j => listed.getD j true) k = 0
  ·have hall := cnt_zero (fun j => listed.getD j true) k hc0
   have hw := hfin vals w hX (fun j p hp => hv j p (by rw [← hLl]; exact (List.getElem?_eq_some_iff.1 hp).1) (hall j (by rw [← hLl]; exact (List.getElem?_eq_some_iff.1 hp).1)) hp)
   rw [framed_congr k a0 (l' := fun j => listed.getD j true) (v' := vals) (fun i hi => ⟨(hall i hi).symm, fun _ => rfl⟩)] at hw
   refine any_tail k ops.size rfl (fun i o hi ho => ⟨fun j hkj hj => hok.tail i o hi ho j hkj hj, hok.edges i o ho⟩) (f + 1) k listed _ w (Nat.le_refl _) hk (by omega) hs (fun i hi d => ?_) hw
   by_cases hik : i < k
   ·have := hall i hik
    simp only [Array.getD_eq_getD_getElem?, Array.getElem?_eq_getElem (show i < listed.size by omega)] at this ⊢
    simp only [Option.getD_some] at this ⊢
    rw [this]; simp [hik]
   ·rw [hsuf i (by omega) hi d]; simp [hik]
  ·-- some operation of the first k has not come up
   have hex : ∃ i < k, listed.getD i true = false ∧ ∀ j < i, listed.getD j true = true := by
    have key : ∀ m, m ≤ k → (∃ i < m, listed.getD i true = false ∧ ∀ j < i, listed.getD j true = true) ∨ (∀ j < m, listed.getD j true = true) := by
     intro m
     induction m with
     | zero => intro _; right; intro j hj; omega
     | succ m ihm =>
      intro hm
      rcases ihm (by omega) with ⟨i, hi, h1, h2⟩ | h
      ·exact .inl ⟨i, by omega, h1, h2⟩
      ·cases hm' : listed.getD m true
       ·exact .inl ⟨m, by omega, hm', h⟩
       ·right; intro j hj
        by_cases e : j = m
        ·rw [e]; exact hm'
        ·exact h j (by omega)
    rcases key k (Nat.le_refl _) with h | h
    ·exact h
    ·exfalso
     apply hc0
     rw [cnt_congr k (l' := fun _ => true) h]
     exact cnt_true k
   refine ⟨fun h0 => ?_, fun i hi => ?_⟩
   ·obtain ⟨i, hik, h1, h2⟩ := hex
    have hi : i < ops.size := by omega
    have : i ∈ Region.ready .any ops listed := mem_ready.2 ⟨_, Array.getElem?_eq_getElem hi, h1, edgeMono _ _ _ (hok.edges i _ (Array.getElem?_eq_getElem hi)) (fun j hj => by
     have hj' : j < i := by simpa using hj
     have := h2 j hj'
     simp only [Array.getD_eq_getD_getElem?, Array.getElem?_eq_getElem (show j < listed.size by omega), Option.getD_some] at this ⊢
     exact this)⟩
    rw [h0] at this; cases this
   ·obtain ⟨o, ho, h1, h2⟩ := mem_ready.1 hi
    have hin := (Array.getElem?_eq_some_iff.1 ho).1
    rcases Nat.lt_or_ge i k with hik | hik
    rotate_left
    ·exact hesc i o listed vals w f hik ho hs hsuf h2 hcl (by obtain ⟨i', hi'k, h1', _⟩ := hex; exact ⟨i', hi'k, h1'⟩) (by omega) hcnt hX hv
    have hLi : L[i]? = some L[i] := List.getElem?_eq_getElem (by omega)
    obtain ⟨hp1, hp2, hob⟩ := hL i o _ hik ho hLi
    have hdistinct : ∀ j < k, j ≠ i → ∀ d, (ops[i]?).bind (·.dst) = some d → (ops[j]?).bind (·.dst) ≠ some d := by
     intro j hj hne d hd
     have hoj : ops[j]? = some ops[j] := Array.getElem?_eq_getElem (by omega)
     rw [dst_at _ _ hoj]
     rw [dst_at _ _ ho] at hd
     exact hok.apart i j o _ d hik hj (fun e => hne e.symm) ho hoj hd
    have Lat : ∀ (j : Nat) (p : Option Tmp × Pred), L[j]? = some p → ∃ oj : Oper, ops[j]? = some oj ∧ p.1 = oj.dst := fun j p hp => by
     have hj : j < k := by rw [← hLl]; exact (List.getElem?_eq_some_iff.1 hp).1
     have hoj : ops[j]? = some ops[j] := Array.getElem?_eq_getElem (by omega)
     exact ⟨_, hoj, (hL j _ p hj hoj hp).1⟩
    have hlook : ∀ t ∈ o.looksAt ops, Ecum (E0 a0) (L.take i) t ((framed ops (fun j => listed.getD j true) vals k a0).tmps.getD t undef) w := by
     intro t ht
     by_cases hex : ∃ j < k, ∃ oj, ops[j]? = some oj ∧ oj.dst = some t
     ·obtain ⟨j, hj, oj, hoj, hdj⟩ := hex
      have huniq : ∀ j' < k, j' ≠ j → (ops[j']?).bind (·.dst) ≠ some t := by
       intro j' hj' hne
       have hoj' : ops[j']? = some ops[j'] := Array.getElem?_eq_getElem (by omega)
       rw [dst_at _ _ hoj']
       exact hok.apart j j' oj _ t hj hj' (fun e => hne e.symm) hoj hoj' hdj
      rcases hok.look i j o oj t hik hj ho hoj ht hdj with ⟨hji, hedge⟩ | ⟨hij, hedge⟩
      ·have hlj : listed.getD j true = true := by
        have := hasOk o _ j h2 hedge
        simp only [Array.getD_eq_getD_getElem?, Array.getElem?_eq_getElem (show j < listed.size by omega), Option.getD_some] at this ⊢
        exact this
       have hLj : L[j]? = some L[j] := List.getElem?_eq_getElem (by omega)
       rw [framed_same (fun j => listed.getD j true) vals t j k a0 hj hlj (by rw [dst_at _ _ hoj]; exact hdj) (by rw [hn]; exact hok.room j oj t hj hoj hdj) huniq]
       rw [Ecum_same t L[j] (L.take i) _ j (by rw [List.getElem?_take, if_pos hji]; exact hLj) (by rw [(hL j oj _ hj hoj hLj).1]; exact hdj) (fun j' p' hne hp' => by
        rw [List.getElem?_take] at hp'
        split at hp'
        ·obtain ⟨oj', hoj', hp1'⟩ := Lat j' p' hp'
         rw [hp1', ← dst_at _ _ hoj']
         exact huniq j' (by rw [← hLl]; exact (List.getElem?_eq_some_iff.1 hp').1) hne
        ·cases hp')]
       exact hv j _ hj hlj hLj
      ·have hlj : listed.getD j true = false := by
        cases hlj : listed.getD j true
        ·rfl
        ·have := hasOk oj _ i (hcl j oj hoj hlj) hedge
         simp only [Array.getD_eq_getD_getElem?, Array.getElem?_eq_getElem (show i < listed.size by omega), Option.getD_some] at this h1
         rw [this] at h1; cases h1
       rw [framed_other _ _ t k a0 (fun j' hj' hl' => by
        by_cases e : j' = j
        ·subst e; rw [hlj] at hl'; cases hl'
        ·exact huniq j' hj' e)]
       rw [Ecum_other t _ _ (fun p' hp' => by
        obtain ⟨j', hj'⟩ := List.mem_iff_getElem?.1 hp'
        rw [List.getElem?_take] at hj'
        split at hj'
        ·rename_i hlt
         obtain ⟨oj', hoj', hp1'⟩ := Lat j' p' hj'
         rw [hp1', ← dst_at _ _ hoj']
         exact huniq j' (by omega) (by omega)
        ·cases hj')]
       rfl
     ·have hno : ∀ j < k, (ops[j]?).bind (·.dst) ≠ some t := by
       intro j hj hd
       have hoj : ops[j]? = some ops[j] := Array.getElem?_eq_getElem (by omega)
       rw [dst_at _ _ hoj] at hd
       exact hex ⟨j, hj, _, hoj, hd⟩
      rw [framed_other _ _ t k a0 (fun j' hj' _ => hno j' hj')]
      rw [Ecum_other t _ _ (fun p' hp' => by
       obtain ⟨j', hj'⟩ := List.mem_iff_getElem?.1 hp'
       rw [List.getElem?_take] at hj'
       split at hj'
       ·obtain ⟨oj', hoj', hp1'⟩ := Lat j' p' hj'
        rw [hp1', ← dst_at _ _ hoj']
        exact hno j' (by omega)
       ·cases hj')]
      rfl
    have hobw := hob (framed ops (fun j => listed.getD j true) vals k a0) w hX (by rw [framed_defers]; exact hd0) hlook
    have hnext : ∀ (v : Value) (w' : World), X w w' → L[i].2 v w' → wpAny P .any ops Q f (listed.setIfInBounds i true) ((framed ops (fun j => listed.getD j true) vals k a0).put o.dst v) w' := by
     intro v w' hXw hR
     have hgs : ∀ j d, (listed.setIfInBounds i true).getD j d = if j = i then true else listed.getD j d := fun j d => getD_set listed i d j (by omega)
     refine ih _ _ w' (by simpa using hs) (fun j hj hj' d => by rw [hgs, if_neg (by omega)]; exact hsuf j hj hj' d) (fun j oj hoj hl => ?_) ?_ (hXt _ _ _ hX hXw) ⟨fun j => if j = i then v else vals j, ?_, fun j p hj hl hp => ?_⟩
     ·by_cases e : j = i
      ·subst e
       rw [ho] at hoj
       injection hoj with hoj
       subst hoj
       exact edgeMono _ _ _ h2 (fun x hx => by rw [hgs]; split <;> simp_all)
      ·rw [hgs, if_neg e] at hl
       exact edgeMono _ _ _ (hcl j oj hoj hl) (fun x hx => by rw [hgs]; split <;> simp_all)
     ·have := cnt_set (fun j => listed.getD j true) i k hik h1
      rw [cnt_congr k (l' := fun j => if j = i then true else listed.getD j true) (fun j _ => hgs j true)]
      omega
     ·rw [show (fun j => (listed.setIfInBounds i true).getD j true) = fun j => if j = i then true else listed.getD j true from funext fun j => hgs j true]
      rw [framed_put (l := fun j => listed.getD j true) (v := vals) i v k a0 hik h1 hdistinct, dst_at _ _ ho]
     ·by_cases e : j = i
      ·subst e
       rw [hLi] at hp
       injection hp with hp
       subst hp
       simpa using hR
      ·rw [hgs, if_neg e] at hl
       simp only [if_neg e]
       have hoj : ops[j]? = some ops[j] := Array.getElem?_eq_getElem (by omega)
       exact (hL j _ p hj hoj hp).2.1 _ _ _ hXw (hv j p hj hl hp)
    unfold wpOp
    rw [ho]
    show if Region.wanted o (yielded ops _) = true then _ else _
    split at hobw
    ·rename_i hwant
     rw [if_pos hwant]
     exact .inl (wp_mono2 (fun a' w' ⟨v, ha, hXw, hR⟩ => by rw [ha]; exact hnext v w' hXw hR) hobw)
    ·rename_i hwant
     rw [if_neg hwant]
     exact hnext undef w (hXr w) hobw
theorem Fin_framed {Q' : Act → World → Prop} {vals : Nat → Value} {w : World} (L : List (Option Tmp × Pred)) (a : Act) (hd : ∀ (i : Nat) (p : Option Tmp × Pred), L[i]? = some p → p.1 = (ops[i]?).bind (·.dst))
  (hv : ∀ (j : Nat) (p : Option Tmp × Pred), L[j]? = some p → p.2 (vals j) w) (h : Fin Q' L a w) :
  ∀ m, m ≤ L.length → Fin Q' (L.drop m) (framed ops (fun _ => true) vals m a) w
 | 0, _ => by simpa [framed] using h
 | m + 1, hm => by
  have ih := Fin_framed L a hd hv h m (by omega)
  have hLm : L[m]? = some L[m] := List.getElem?_eq_getElem (by omega)
  rw [List.drop_eq_getElem_cons (by omega)] at ih
  have := ih (vals m) (hv m _ hLm)
  simp only [framed, if_true]
  rw [← hd m _ hLm]
  exact this
theorem esc_none {Q : Exit → Act → World → Prop} {k n : Nat} {a0 : Act} {L : List (Option Tmp × Pred)} (hok : okRegion ops k n = true) (hk : k ≤ ops.size) :
  ∀ (i : Nat) (o : Oper) (listed : Array Bool) (vals : Nat → Value) (w : World) (f : Nat), k ≤ i → ops[i]? = some o → listed.size = ops.size → (∀ j, k ≤ j → j < ops.size → ∀ d, listed.getD j d = false) → okEdges o (fun e => listed.getD e false) = true → (∀ j o, ops[j]? = some o → listed.getD j true = true → okEdges o (fun e => listed.getD e false) = true) →
   (∃ i' < k, listed.getD i' true = false) → ops.size ≤ f + k + 1 → cnt (fun j => listed.getD j true) k + (ops.size - k) ≤ f + 1 → X w0 w → (∀ (j : Nat) (p : Option Tmp × Pred), j < k → listed.getD j true = true → L[j]? = some p → p.2 (vals j) w) →
   wpOp P ops Q i (wpAny P .any ops Q f (listed.setIfInBounds i true)) (framed ops (fun j => listed.getD j true) vals k a0) w := by
 intro i o listed vals w f hki ho hs _ h2 hcl ⟨i', hi', h1'⟩ _ _ _ _
 exfalso
 have hin := (Array.getElem?_eq_some_iff.1 ho).1
 have hedge := okR_tail hok i o hki ho i' (by omega) (fun _ h => by cases h)
 rcases hedge with hedge | ⟨_, hedge⟩
 rotate_left
 ·have := inC_ok hcl hs ho h2 _ _ hedge
  simp only [Array.getD_eq_getD_getElem?, Array.getElem?_eq_getElem (show i' < listed.size by omega), Option.getD_some] at this h1'
  rw [this] at h1'; cases h1'
 unfold okEdges at h2
 unfold hasEdge at hedge
 obtain ⟨x, hx, hb⟩ := Array.any_eq_true'.1 hedge
 have := Array.all_eq_true'.1 h2 x hx
 simp only [Bool.and_eq_true, beq_iff_eq] at hb
 rw [hb.1, hb.2] at this
 simp only [Bool.not_true, Bool.false_or] at this
 simp only [Array.getD_eq_getD_getElem?, Array.getElem?_eq_getElem (show i' < listed.size by omega), Option.getD_some] at this h1'
 rw [this] at h1'; cases h1'
theorem wp_region_rel {Q : Exit → Act → World → Prop} {id : Nat} {a0 : Act} {w : World} (k n : Nat) (X : World → World → Prop) (hm : P.follows .mixedOrders = true)
  (hok : okRegion ops k n = true) (hk : decide (k ≤ ops.size) = true) (hn : a0.tmps.size = n) (hd0 : a0.defers = []) (hXr : ∀ a, X a a) (hXt : ∀ a b c, X a b → X b c → X a c)
  (h : RW P ops X w.drew (ops.toList.take k) (E0 a0) (fun L => ∀ w', X w.drew w' → Fin (fun a w => wpList P ops Q (ops.toList.drop k) a w) L a0 w')) :
  (Code.region id ops true).wp P Q a0 w := by
 have hk' : k ≤ ops.size := by simpa using hk
 have hok' := OkR.of hok hk'
 obtain ⟨L, hLl, hK, hL⟩ := RW_list _ _ _ h
 have hLk : L.length = k := by rw [hLl]; simp [hk']
 have hL' : ∀ (i : Nat) (o : Oper) (p : Option Tmp × Pred), i < k → ops[i]? = some o → L[i]? = some p → p.1 = o.dst ∧ (∀ v w w', X w w' → p.2 v w → p.2 v w') ∧ Ob P ops X w.drew o (Ecum (E0 a0) (L.take i)) p.2 :=
  fun i o p hi ho hp => hL i o p (by rw [List.getElem?_take, if_pos hi]; simpa using ho) hp
 refine wp_region_any hm ?_
 refine any_rel (k := k) (n := n) (X := X) (w0 := w.drew) a0 hok' hk' hn hd0 hXr hXt L hLk hL' (fun vals w' hX hv => ?_) ?_ ops.size _ a0 _ (by simp) (fun i hi hi' d => by simp [hi']) (fun j o ho hl => ?_) ?_ (hXr _) ⟨fun _ => undef, ?_, fun j p hj hl => ?_⟩
 rotate_left
 ·exact esc_none hok hk'
 rotate_right
 ·have := Fin_framed (ops := ops) L a0 (fun i p hp => by
   have hi : i < k := by rw [← hLk]; exact (List.getElem?_eq_some_iff.1 hp).1
   have ho : ops[i]? = some ops[i] := Array.getElem?_eq_getElem (by omega)
   rw [(hL' i _ p hi ho hp).1, ho]; rfl) hv (hK w' hX) k (by omega)
  rw [show L.drop k = [] from List.drop_of_length_le (by omega)] at this
  exact this
 ·have := (Array.getElem?_eq_some_iff.1 ho).1
  simp [this] at hl
 ·have : ∀ m, m ≤ ops.size → cnt (fun j => (Array.replicate ops.size false).getD j true) m = m := by
   intro m
   induction m with
   | zero => intro _; rfl
   | succ m ih => intro hm; simp only [cnt]; rw [ih (by omega)]; simp [show m < ops.size by omega]; omega
  rw [this k hk']; omega
 ·have : ∀ m, m ≤ ops.size → framed ops (fun j => (Array.replicate ops.size false).getD j true) (fun _ => undef) m a0 = a0 := by
   intro m
   induction m with
   | zero => intro _; rfl
   | succ m ih => intro hm; simp only [framed]; rw [ih (by omega)]; simp [show m < ops.size by omega]
  exact (this k hk').symm
 ·simp [show j < ops.size by omega] at hl
variable {rest : List Oper} {E : Nat → Pred} {K : List (Option Tmp × Pred) → Prop}
def EP (E : Nat → Pred) : Operand → Pred
 | .tmp t => E t
 | .const c => fun v _ => v = c
 | .global g => fun v _ => v = .pointer (some ⟨g, 0, none⟩)
 | .func f => fun v _ => v = .func (.func f) #[] #[]
theorem EP.of {o : Oper} {a : Act} {w : World} (hE : ∀ t ∈ o.looksAt ops, E t (a.tmps.getD t undef) w) {x : Operand} (hx : x ∈ o.op.operands) : EP E x (a.eval x) w := by
 cases x with
 | tmp t =>
  have ht : t ∈ o.looksAt ops := List.mem_append_left _ (List.mem_filterMap.2 ⟨.tmp t, by simpa using hx, rfl⟩)
  have := hE t ht
  simpa [EP, Act.eval] using this
 | const c => rfl
 | global g => rfl
 | func f => rfl
end region
section rules
variable {P : Program} {ops : Array Oper} {w0 : World} {rest : List Oper} {E : Nat → Pred} {K : List (Option Tmp × Pred) → Prop}
end rules
end Go.Ch
end
section
namespace Go.Ch
open Go.RowKit
def w32 (x : UInt32) : Value := .int .u32 (x.toNat : Int)
def w64 (x : UInt64) : Value := .int .u64 (x.toNat : Int)
section words
variable {P : Program} {w : World}
theorem wrap32n (n : Nat) : IntKind.u32.wrap (n : Int) = ((n % 4294967296 : Nat) : Int) := by
 rw [IntKind.wrap_u32]; omega
theorem wrap64n (n : Nat) : IntKind.u64.wrap (n : Int) = ((n % 18446744073709551616 : Nat) : Int) := by
 rw [IntKind.wrap_u64]; omega
theorem wrap32z (n : Int) : IntKind.u32.wrap n = n % 4294967296 := by rw [IntKind.wrap_u32]
theorem wrap64z (n : Int) : IntKind.u64.wrap n = n % 18446744073709551616 := by rw [IntKind.wrap_u64]
theorem lt32 (x : UInt32) : x.toNat < 4294967296 := x.toNat_lt
theorem lt64 (x : UInt64) : x.toNat < 18446744073709551616 := x.toNat_lt
theorem guard_int (op : BinOp) (t : TypeId) (x y : Operand) (k k' : IntKind) (a b : Int) : (eqGuard op t x y (.int k a) (.int k' b)).run P w = .ok () w := by
 cases op <;> simp [eqGuard]
abbrev binRun (P : Program) (op : BinOp) (t : TypeId) (x y : Operand) (a b : Value) (w : World) : Result Value :=
 ((do eqGuard op t x y a b; binOp op t a b : Sem Value)).run P w
theorem run_add32 (t : TypeId) (ex ey : Operand) (x y : UInt32) (w : World) : binRun P .add t ex ey (w32 x) (w32 y) w = .ok (w32 (x + y)) w := by
 simp only [binRun, w32, Sem.run_bind, guard_int, Result.andThen_ok]
 simp only [binOp, if_neg (show ¬ (IntKind.u32 ≠ IntKind.u32) by simp), Op.intArith, Sem.run_pure]
 congr 2
 all_goals (rw [wrap32z, UInt32.toNat_add]; omega)
theorem run_sub32 (t : TypeId) (ex ey : Operand) (x y : UInt32) (w : World) : binRun P .sub t ex ey (w32 x) (w32 y) w = .ok (w32 (x - y)) w := by
 simp only [binRun, w32, Sem.run_bind, guard_int, Result.andThen_ok]
 simp only [binOp, if_neg (show ¬ (IntKind.u32 ≠ IntKind.u32) by simp), Op.intArith, Sem.run_pure]
 congr 2
 have hx := lt32 x
 have hy := lt32 y
 rw [wrap32z, UInt32.toNat_sub]
 omega
theorem run_mul32 (t : TypeId) (ex ey : Operand) (x y : UInt32) (w : World) : binRun P .mul t ex ey (w32 x) (w32 y) w = .ok (w32 (x * y)) w := by
 simp only [binRun, w32, Sem.run_bind, guard_int, Result.andThen_ok]
 simp only [binOp, if_neg (show ¬ (IntKind.u32 ≠ IntKind.u32) by simp), Op.intArith, Sem.run_pure]
 congr 2
 all_goals (rw [wrap32z, UInt32.toNat_mul]; omega)
theorem ofInt32 (x : UInt32) : BitVec.ofInt 32 (x.toNat : Int) = x.toBitVec := by
 rw [BitVec.ofInt_natCast]
 apply BitVec.eq_of_toNat_eq
 simp
theorem back32 (r : BitVec 32) : IntKind.u32.wrap (r.toNat : Int) = (r.toNat : Int) := by
 have := r.isLt
 rw [wrap32n]; omega
theorem run_xor32 (t : TypeId) (ex ey : Operand) (x y : UInt32) (w : World) : binRun P .xor t ex ey (w32 x) (w32 y) w = .ok (w32 (x ^^^ y)) w := by
 simp only [binRun, w32, Sem.run_bind, guard_int, Result.andThen_ok]
 simp only [binOp, if_neg (show ¬ (IntKind.u32 ≠ IntKind.u32) by simp), Op.intBits, Sem.run_pure]
 show Result.ok (Value.int .u32 (IntKind.u32.wrap ((BitVec.ofInt 32 (x.toNat : Int) ^^^ BitVec.ofInt 32 (y.toNat : Int)).toNat : Int))) w = _
 rw [ofInt32, ofInt32, back32]
 rfl
theorem run_and32 (t : TypeId) (ex ey : Operand) (x y : UInt32) (w : World) : binRun P .and t ex ey (w32 x) (w32 y) w = .ok (w32 (x &&& y)) w := by
 simp only [binRun, w32, Sem.run_bind, guard_int, Result.andThen_ok]
 simp only [binOp, if_neg (show ¬ (IntKind.u32 ≠ IntKind.u32) by simp), Op.intBits, Sem.run_pure]
 show Result.ok (Value.int .u32 (IntKind.u32.wrap ((BitVec.ofInt 32 (x.toNat : Int) &&& BitVec.ofInt 32 (y.toNat : Int)).toNat : Int))) w = _
 rw [ofInt32, ofInt32, back32]
 rfl
theorem run_or32 (t : TypeId) (ex ey : Operand) (x y : UInt32) (w : World) : binRun P .or t ex ey (w32 x) (w32 y) w = .ok (w32 (x ||| y)) w := by
 simp only [binRun, w32, Sem.run_bind, guard_int, Result.andThen_ok]
 simp only [binOp, if_neg (show ¬ (IntKind.u32 ≠ IntKind.u32) by simp), Op.intBits, Sem.run_pure]
 show Result.ok (Value.int .u32 (IntKind.u32.wrap ((BitVec.ofInt 32 (x.toNat : Int) ||| BitVec.ofInt 32 (y.toNat : Int)).toNat : Int))) w = _
 rw [ofInt32, ofInt32, back32]
 rfl
theorem run_not32 (x : UInt32) (w : World) : (Op.unary .xor (w32 x)).run P w = .ok (w32 (~~~x)) w := by
 show Result.ok (Value.int .u32 (IntKind.u32.wrap ((BitVec.ofInt 32 (4294967295 : Int) ^^^ BitVec.ofInt 32 (x.toNat : Int)).toNat : Int))) w = _
 rw [ofInt32, back32]
 unfold w32
 have h1 : BitVec.ofInt 32 4294967295 = BitVec.allOnes 32 := by decide
 have h2 : (BitVec.ofInt 32 4294967295 ^^^ x.toBitVec).toNat = (~~~x.toBitVec).toNat := by rw [h1, BitVec.allOnes_xor]
 rw [h2]
 rfl
theorem run_quo32 (t : TypeId) (ex ey : Operand) (x y : UInt32) (hy : y ≠ 0) (w : World) : binRun P .quo t ex ey (w32 x) (w32 y) w = .ok (w32 (x / y)) w := by
 have hy' : ¬ ((y.toNat : Int) = 0) := fun e => hy (UInt32.toNat_inj.1 (by simp; omega))
 simp only [binRun, w32, Sem.run_bind, guard_int, Result.andThen_ok]
 simp only [binOp, if_neg (show ¬ (IntKind.u32 ≠ IntKind.u32) by simp), Op.intDiv, if_neg hy', Sem.run_pure]
 congr 2
 all_goals (rw [← Int.ofNat_tdiv, wrap32n, UInt32.toNat_div]; have := lt32 x; have := Nat.div_le_self x.toNat y.toNat; rw [Nat.mod_eq_of_lt (by omega)])
theorem run_rem32 (t : TypeId) (ex ey : Operand) (x y : UInt32) (hy : y ≠ 0) (w : World) : binRun P .rem t ex ey (w32 x) (w32 y) w = .ok (w32 (x % y)) w := by
 have hy' : ¬ ((y.toNat : Int) = 0) := fun e => hy (UInt32.toNat_inj.1 (by simp; omega))
 simp only [binRun, w32, Sem.run_bind, guard_int, Result.andThen_ok]
 simp only [binOp, if_neg (show ¬ (IntKind.u32 ≠ IntKind.u32) by simp), Op.intDiv, if_neg hy', Sem.run_pure]
 congr 2
 all_goals (rw [← Int.ofNat_tmod, UInt32.toNat_mod])
theorem run_shl32 (t : TypeId) (ex ey : Operand) (x : UInt32) (k : IntKind) (n : Nat) (hn : n < 32) (w : World) : binRun P .shl t ex ey (w32 x) (.int k (n : Int)) w = .ok (w32 (x <<< UInt32.ofNat n)) w := by
 simp only [binRun, w32, Sem.run_bind, guard_int, Result.andThen_ok]
 have h1 : min n 32 = n := by omega
 simp only [binOp, Op.shift, if_neg (show ¬ ((n : Int) < 0) by omega), Sem.run_pure, Int.toNat_natCast, show IntKind.u32.bits = 32 from rfl, h1]
 congr 2
 have e : ((x.toNat : Int) * 2 ^ n) = ((x.toNat * 2 ^ n : Nat) : Int) := by simp
 have h2 : (UInt32.ofNat n).toNat = n := by simp; omega
 rw [e, wrap32n, UInt32.toNat_shiftLeft, h2, Nat.shiftLeft_eq, Nat.mod_eq_of_lt hn]
theorem run_shr32 (t : TypeId) (ex ey : Operand) (x : UInt32) (k : IntKind) (n : Nat) (hn : n < 32) (w : World) : binRun P .shr t ex ey (w32 x) (.int k (n : Int)) w = .ok (w32 (x >>> UInt32.ofNat n)) w := by
 simp only [binRun, w32, Sem.run_bind, guard_int, Result.andThen_ok]
 have h1 : min n 32 = n := by omega
 simp only [binOp, Op.shift, if_neg (show ¬ ((n : Int) < 0) by omega), Sem.run_pure, Int.toNat_natCast, show IntKind.u32.bits = 32 from rfl, h1]
 congr 2
 have e : ((2 : Int) ^ n) = ((2 ^ n : Nat) : Int) := by simp
 have h2 : (UInt32.ofNat n).toNat = n := by simp; omega
 rw [e, UInt32.toNat_shiftRight, h2, Nat.mod_eq_of_lt hn, Nat.shiftRight_eq_div_pow]
 rw [Int.fdiv_eq_ediv_of_nonneg _ (Int.natCast_nonneg _)]
 rfl
theorem run_eq32 (t : TypeId) (ex ey : Operand) (x y : UInt32) (w : World) : binRun P .eql t ex ey (w32 x) (w32 y) w = .ok (.bool (x == y)) w := by
 simp only [binRun, w32, Sem.run_bind, guard_int, Result.andThen_ok]
 simp only [binOp, if_neg (show ¬ (IntKind.u32 ≠ IntKind.u32) by simp), Op.intCmp, Sem.run_pure]
 congr 2
 by_cases h : x = y
 ·subst h; simp
 ·have : ¬ ((x.toNat : Int) = y.toNat) := fun e => h (UInt32.toNat_inj.1 (by omega))
  rw [beq_eq_false_iff_ne.2 h, beq_eq_false_iff_ne.2 this]
end words
end Go.Ch
end
section
namespace Go.Ch
open Go.RowKit
def Blk (w : World) (g : Nat) (t : TypeId) (cs : Array Value) : Prop := w.heap[g]? = some (.cells cs t (0, 0))
section blocks
variable {P : Program} {w w' : World} {g : Nat} {t : TypeId} {cs : Array Value}
theorem Blk.lt (h : Blk w g t cs) : g < w.heap.size := by
 rcases Nat.lt_or_ge g w.heap.size with hlt | hge
 ·exact hlt
 ·unfold Blk at h; rw [Array.getElem?_eq_none hge] at h; cases h
theorem Blk.cell (h : Blk w g t cs) (i : Nat) : w.cell? ⟨g, i, none⟩ = cs[i]? := cell_of_row w g i cs t (0, 0) h
theorem Blk.ext (h : Blk w g t cs) (hx : Ext w w') : Blk w' g t cs := (hx.block g h.lt).trans h
theorem Blk.ne {g' : Nat} {t' : TypeId} {cs' : Array Value} (h : Blk w g t cs) (h' : Blk w g' t' cs') (ht : t ≠ t') : g ≠ g' := by
 intro e; subst e
 have := h.symm.trans h'
 simp at this
 exact ht this.2
theorem Blk.back (hx : Ext w w') (h : Blk w g t cs) : Blk w' g t cs := h.ext hx
theorem Blk.grown {row : Option Nat} (h : Blk w g t cs) (hg : w.grownBy w' row) (hne : row ≠ some g) : Blk w' g t cs := (hg.block g h.lt (fun e => hne e.symm)).trans h
theorem Blk.new (w : World) (t : TypeId) (cs : Array Value) : Blk (w.alloc (.cells cs t)) w.heap.size t cs := heap_alloc_new w _
theorem Blk.setRow (h : Blk w g t cs) (cs' : Array Value) : Blk (w.setRow g cs') g t cs' := setRow_heap w g cs cs' t (0, 0) h
theorem Blk.at_ (h : Blk w g t cs) {i : Nat} {u : Value} (hu : cs[i]? = some u) : w.cell? ⟨g, i, none⟩ = some u := (h.cell i).trans hu
theorem grown_setRow (w : World) (g : Nat) (cs : Array Value) : w.grownBy (w.setRow g cs) (some g) :=
 ⟨rfl, rfl, rfl, by simp, fun k _ hk => setRow_other w g k cs (fun e => hk (by simp [e]))⟩
end blocks
section rules
variable {P : Program} {w : World} {ops : Array Oper} {rest : List Oper} {a : Act} {Q : Exit → Act → World → Prop}
end rules
section rules
variable {P : Program} {ops : Array Oper} {w0 : World} {rest : List Oper} {E : Nat → Pred} {K : List (Option Tmp × Pred) → Prop}
end rules
end Go.Ch
end
section
namespace Go.Ch
open Go.RowKit
section rules
variable {P : Program} {ops : Array Oper} {w0 : World} {rest : List Oper} {E : Nat → Pred} {K : List (Option Tmp × Pred) → Prop}
end rules
section conv
variable {P : Program}
theorem run_convi {s t : TypeId} {ds : TypeDesc} {k k' : IntKind} (hs : P.underlying s = some ds) (ht : P.underlying t = some (.int k')) (a : Int) (w : World) : (convert s t (.int k a)).run P w = .ok (.int k' (k'.wrap a)) w := by
 unfold convert
 rw [Sem.run_bind, run_underlying hs w, Result.andThen_ok, Sem.run_bind, run_underlying ht w, Result.andThen_ok]
 cases ds <;> simp [Conv.intToInt]
end conv
end Go.Ch
end
section
namespace Go.Ch
open Go.RowKit
section rules
variable {P : Program} {w : World} {ops : Array Oper} {rest : List Oper} {a : Act} {Q : Exit → Act → World → Prop}
theorem madeCells_one {z : Value} (h : z.cells = #[z]) (n : Nat) : (madeCells z.cells (n * 1)).toList = List.replicate n z := by
 rw [h, Nat.mul_one]
 apply List.ext_getElem?
 intro j
 unfold madeCells
 by_cases hj : j < n
 ·simp [hj, Nat.mod_one]
 ·simp [hj]
def At (v : Value) (k : Nat) (ad : Addr) : Prop := ∃ g n c, v = .slice (some ⟨g, 0, none⟩) n c ∧ ad = ⟨g, k, none⟩
end rules
theorem Blk.part {w : World} {g : Nat} {t : TypeId} {cs : Array Value} (h : Blk w g t cs) (i : Nat) {xs : List Value} (hp : (cs.toList.drop i).take xs.length = xs) : ∀ j u, xs[j]? = some u → w.cell? ((⟨g, i, none⟩ : Addr).add j) = some u := by
 intro j u hu
 have e1 : (⟨g, i, none⟩ : Addr).add j = ⟨g, i + j, none⟩ := by unfold Addr.add; split <;> simp_all
 have hj : j < xs.length := (List.getElem?_eq_some_iff.1 hu).1
 rw [e1, h.cell]
 rw [← hp, List.getElem?_take, if_pos hj, List.getElem?_drop] at hu
 rw [← Array.getElem?_toList]; exact hu
section rules
variable {P : Program} {ops : Array Oper} {w0 : World} {rest : List Oper} {E : Nat → Pred} {K : List (Option Tmp × Pred) → Prop}
end rules
end Go.Ch
end
section
namespace Go.Ch
open Go.RowKit
section
variable {P : Program} {w : World}
end
theorem freeze_other (w : World) (a : Addr) (n k : Nat) (h : k ≠ a.block) : (w.freeze a n).heap[k]? = w.heap[k]? := by
 unfold World.freeze
 split
 ·rfl
 ·simp only [Array.getElem?_modify, if_neg (fun e : a.block = k => h e.symm)]
theorem freeze_same (w : World) (a : Addr) (n : Nat) (c : Array Value) (e : TypeId) (fr : Nat × Nat) (h : w.heap[a.block]? = some (.cells c e fr)) : ∃ fr', (w.freeze a n).heap[a.block]? = some (.cells c e fr') := by
 unfold World.freeze
 split
 ·exact ⟨fr, h⟩
 ·simp only [Array.getElem?_modify, if_true, h, Option.map_some]
  exact ⟨_, rfl⟩
theorem freeze_size (w : World) (a : Addr) (n : Nat) : (w.freeze a n).heap.size = w.heap.size := by
 unfold World.freeze
 split <;> simp
theorem freeze_grown (w : World) (a : Addr) (n : Nat) : w.grownBy (w.freeze a n) (some a.block) := by
 refine ⟨?_, ?_, ?_, by rw [freeze_size]; exact Nat.le_refl _, fun k _ hk => freeze_other w a n k (fun e => hk (by rw [e]))⟩ <;> (unfold World.freeze; split <;> rfl)
section rules
variable {P : Program} {w : World} {ops : Array Oper} {rest : List Oper} {a : Act} {Q : Exit → Act → World → Prop}
end rules
end Go.Ch
namespace Go.Ch
end Go.Ch
end
section
namespace Go.Ch
open Go.RowKit
section words
variable {P : Program} {w : World}
theorem run_add64 (t : TypeId) (ex ey : Operand) (x y : UInt64) (w : World) : binRun P .add t ex ey (w64 x) (w64 y) w = .ok (w64 (x + y)) w := by
 simp only [binRun, w64, Sem.run_bind, guard_int, Result.andThen_ok]
 simp only [binOp, if_neg (show ¬ (IntKind.u64 ≠ IntKind.u64) by simp), Op.intArith, Sem.run_pure]
 congr 2
 all_goals (rw [wrap64z, UInt64.toNat_add]; omega)
theorem run_sub64 (t : TypeId) (ex ey : Operand) (x y : UInt64) (w : World) : binRun P .sub t ex ey (w64 x) (w64 y) w = .ok (w64 (x - y)) w := by
 simp only [binRun, w64, Sem.run_bind, guard_int, Result.andThen_ok]
 simp only [binOp, if_neg (show ¬ (IntKind.u64 ≠ IntKind.u64) by simp), Op.intArith, Sem.run_pure]
 congr 2
 have hx := lt64 x
 have hy := lt64 y
 rw [wrap64z, UInt64.toNat_sub]
 omega
theorem run_mul64 (t : TypeId) (ex ey : Operand) (x y : UInt64) (w : World) : binRun P .mul t ex ey (w64 x) (w64 y) w = .ok (w64 (x * y)) w := by
 simp only [binRun, w64, Sem.run_bind, guard_int, Result.andThen_ok]
 simp only [binOp, if_neg (show ¬ (IntKind.u64 ≠ IntKind.u64) by simp), Op.intArith, Sem.run_pure]
 congr 2
 all_goals (rw [wrap64z, UInt64.toNat_mul]; omega)
theorem ofInt64 (x : UInt64) : BitVec.ofInt 64 (x.toNat : Int) = x.toBitVec := by
 rw [BitVec.ofInt_natCast]
 apply BitVec.eq_of_toNat_eq
 simp
theorem back64 (r : BitVec 64) : IntKind.u64.wrap (r.toNat : Int) = (r.toNat : Int) := by
 have := r.isLt
 rw [wrap64n]; omega
theorem run_xor64 (t : TypeId) (ex ey : Operand) (x y : UInt64) (w : World) : binRun P .xor t ex ey (w64 x) (w64 y) w = .ok (w64 (x ^^^ y)) w := by
 simp only [binRun, w64, Sem.run_bind, guard_int, Result.andThen_ok]
 simp only [binOp, if_neg (show ¬ (IntKind.u64 ≠ IntKind.u64) by simp), Op.intBits, Sem.run_pure]
 show Result.ok (Value.int .u64 (IntKind.u64.wrap ((BitVec.ofInt 64 (x.toNat : Int) ^^^ BitVec.ofInt 64 (y.toNat : Int)).toNat : Int))) w = _
 rw [ofInt64, ofInt64, back64]
 rfl
theorem run_and64 (t : TypeId) (ex ey : Operand) (x y : UInt64) (w : World) : binRun P .and t ex ey (w64 x) (w64 y) w = .ok (w64 (x &&& y)) w := by
 simp only [binRun, w64, Sem.run_bind, guard_int, Result.andThen_ok]
 simp only [binOp, if_neg (show ¬ (IntKind.u64 ≠ IntKind.u64) by simp), Op.intBits, Sem.run_pure]
 show Result.ok (Value.int .u64 (IntKind.u64.wrap ((BitVec.ofInt 64 (x.toNat : Int) &&& BitVec.ofInt 64 (y.toNat : Int)).toNat : Int))) w = _
 rw [ofInt64, ofInt64, back64]
 rfl
theorem run_or64 (t : TypeId) (ex ey : Operand) (x y : UInt64) (w : World) : binRun P .or t ex ey (w64 x) (w64 y) w = .ok (w64 (x ||| y)) w := by
 simp only [binRun, w64, Sem.run_bind, guard_int, Result.andThen_ok]
 simp only [binOp, if_neg (show ¬ (IntKind.u64 ≠ IntKind.u64) by simp), Op.intBits, Sem.run_pure]
 show Result.ok (Value.int .u64 (IntKind.u64.wrap ((BitVec.ofInt 64 (x.toNat : Int) ||| BitVec.ofInt 64 (y.toNat : Int)).toNat : Int))) w = _
 rw [ofInt64, ofInt64, back64]
 rfl
theorem run_not64 (x : UInt64) (w : World) : (Op.unary .xor (w64 x)).run P w = .ok (w64 (~~~x)) w := by
 show Result.ok (Value.int .u64 (IntKind.u64.wrap ((BitVec.ofInt 64 (18446744073709551615 : Int) ^^^ BitVec.ofInt 64 (x.toNat : Int)).toNat : Int))) w = _
 rw [ofInt64, back64]
 unfold w64
 have h1 : BitVec.ofInt 64 18446744073709551615 = BitVec.allOnes 64 := by decide
 have h2 : (BitVec.ofInt 64 18446744073709551615 ^^^ x.toBitVec).toNat = (~~~x.toBitVec).toNat := by rw [h1, BitVec.allOnes_xor]
 rw [h2]
 rfl
theorem run_quo64 (t : TypeId) (ex ey : Operand) (x y : UInt64) (hy : y ≠ 0) (w : World) : binRun P .quo t ex ey (w64 x) (w64 y) w = .ok (w64 (x / y)) w := by
 have hy' : ¬ ((y.toNat : Int) = 0) := fun e => hy (UInt64.toNat_inj.1 (by simp; omega))
 simp only [binRun, w64, Sem.run_bind, guard_int, Result.andThen_ok]
 simp only [binOp, if_neg (show ¬ (IntKind.u64 ≠ IntKind.u64) by simp), Op.intDiv, if_neg hy', Sem.run_pure]
 congr 2
 all_goals (rw [← Int.ofNat_tdiv, wrap64n, UInt64.toNat_div]; have := lt64 x; have := Nat.div_le_self x.toNat y.toNat; rw [Nat.mod_eq_of_lt (by omega)])
theorem run_rem64 (t : TypeId) (ex ey : Operand) (x y : UInt64) (hy : y ≠ 0) (w : World) : binRun P .rem t ex ey (w64 x) (w64 y) w = .ok (w64 (x % y)) w := by
 have hy' : ¬ ((y.toNat : Int) = 0) := fun e => hy (UInt64.toNat_inj.1 (by simp; omega))
 simp only [binRun, w64, Sem.run_bind, guard_int, Result.andThen_ok]
 simp only [binOp, if_neg (show ¬ (IntKind.u64 ≠ IntKind.u64) by simp), Op.intDiv, if_neg hy', Sem.run_pure]
 congr 2
 all_goals (rw [← Int.ofNat_tmod, UInt64.toNat_mod])
theorem run_shl64 (t : TypeId) (ex ey : Operand) (x : UInt64) (k : IntKind) (n : Nat) (hn : n < 64) (w : World) : binRun P .shl t ex ey (w64 x) (.int k (n : Int)) w = .ok (w64 (x <<< UInt64.ofNat n)) w := by
 simp only [binRun, w64, Sem.run_bind, guard_int, Result.andThen_ok]
 have h1 : min n 64 = n := by omega
 simp only [binOp, Op.shift, if_neg (show ¬ ((n : Int) < 0) by omega), Sem.run_pure, Int.toNat_natCast, show IntKind.u64.bits = 64 from rfl, h1]
 congr 2
 have e : ((x.toNat : Int) * 2 ^ n) = ((x.toNat * 2 ^ n : Nat) : Int) := by simp
 have h2 : (UInt64.ofNat n).toNat = n := by simp; omega
 rw [e, wrap64n, UInt64.toNat_shiftLeft, h2, Nat.shiftLeft_eq, Nat.mod_eq_of_lt hn]
theorem run_shr64 (t : TypeId) (ex ey : Operand) (x : UInt64) (k : IntKind) (n : Nat) (hn : n < 64) (w : World) : binRun P .shr t ex ey (w64 x) (.int k (n : Int)) w = .ok (w64 (x >>> UInt64.ofNat n)) w := by
 simp only [binRun, w64, Sem.run_bind, guard_int, Result.andThen_ok]
 have h1 : min n 64 = n := by omega
 simp only [binOp, Op.shift, if_neg (show ¬ ((n : Int) < 0) by omega), Sem.run_pure, Int.toNat_natCast, show IntKind.u64.bits = 64 from rfl, h1]
 congr 2
 have e : ((2 : Int) ^ n) = ((2 ^ n : Nat) : Int) := by simp
 have h2 : (UInt64.ofNat n).toNat = n := by simp; omega
 rw [e, UInt64.toNat_shiftRight, h2, Nat.mod_eq_of_lt hn, Nat.shiftRight_eq_div_pow]
 rw [Int.fdiv_eq_ediv_of_nonneg _ (Int.natCast_nonneg _)]
 rfl
theorem run_eq64 (t : TypeId) (ex ey : Operand) (x y : UInt64) (w : World) : binRun P .eql t ex ey (w64 x) (w64 y) w = .ok (.bool (x == y)) w := by
 simp only [binRun, w64, Sem.run_bind, guard_int, Result.andThen_ok]
 simp only [binOp, if_neg (show ¬ (IntKind.u64 ≠ IntKind.u64) by simp), Op.intCmp, Sem.run_pure]
 congr 2
 by_cases h : x = y
 ·subst h; simp
 ·have : ¬ ((x.toNat : Int) = y.toNat) := fun e => h (UInt64.toNat_inj.1 (by omega))
  rw [beq_eq_false_iff_ne.2 h, beq_eq_false_iff_ne.2 this]
end words
end Go.Ch
end
section
namespace Go.Ch
open Go.RowKit
section words8
variable {P : Program} {w : World}
theorem wrap8n (n : Nat) : IntKind.u8.wrap (n : Int) = ((n % 256 : Nat) : Int) := by
 rw [IntKind.wrap_u8]; omega
theorem wrap8z (n : Int) : IntKind.u8.wrap n = n % 256 := by rw [IntKind.wrap_u8]
theorem lt8 (x : UInt8) : x.toNat < 256 := x.toNat_lt
theorem run_add8 (t : TypeId) (ex ey : Operand) (x y : UInt8) (w : World) : binRun P .add t ex ey (bU x) (bU y) w = .ok (bU (x + y)) w := by
 simp only [binRun, bU, Sem.run_bind, guard_int, Result.andThen_ok]
 simp only [binOp, if_neg (show ¬ (IntKind.u8 ≠ IntKind.u8) by simp), Op.intArith, Sem.run_pure]
 congr 2
 all_goals (rw [wrap8z, UInt8.toNat_add]; omega)
theorem run_sub8 (t : TypeId) (ex ey : Operand) (x y : UInt8) (w : World) : binRun P .sub t ex ey (bU x) (bU y) w = .ok (bU (x - y)) w := by
 simp only [binRun, bU, Sem.run_bind, guard_int, Result.andThen_ok]
 simp only [binOp, if_neg (show ¬ (IntKind.u8 ≠ IntKind.u8) by simp), Op.intArith, Sem.run_pure]
 congr 2
 have hx := lt8 x
 have hy := lt8 y
 rw [wrap8z, UInt8.toNat_sub]
 omega
theorem run_mul8 (t : TypeId) (ex ey : Operand) (x y : UInt8) (w : World) : binRun P .mul t ex ey (bU x) (bU y) w = .ok (bU (x * y)) w := by
 simp only [binRun, bU, Sem.run_bind, guard_int, Result.andThen_ok]
 simp only [binOp, if_neg (show ¬ (IntKind.u8 ≠ IntKind.u8) by simp), Op.intArith, Sem.run_pure]
 congr 2
 all_goals (rw [wrap8z, UInt8.toNat_mul]; omega)
theorem ofInt8 (x : UInt8) : BitVec.ofInt 8 (x.toNat : Int) = x.toBitVec := by
 rw [BitVec.ofInt_natCast]
 apply BitVec.eq_of_toNat_eq
 simp
theorem back8 (r : BitVec 8) : IntKind.u8.wrap (r.toNat : Int) = (r.toNat : Int) := by
 have := r.isLt
 rw [wrap8n]; omega
theorem run_xor8 (t : TypeId) (ex ey : Operand) (x y : UInt8) (w : World) : binRun P .xor t ex ey (bU x) (bU y) w = .ok (bU (x ^^^ y)) w := by
 simp only [binRun, bU, Sem.run_bind, guard_int, Result.andThen_ok]
 simp only [binOp, if_neg (show ¬ (IntKind.u8 ≠ IntKind.u8) by simp), Op.intBits, Sem.run_pure]
 show Result.ok (Value.int .u8 (IntKind.u8.wrap ((BitVec.ofInt 8 (x.toNat : Int) ^^^ BitVec.ofInt 8 (y.toNat : Int)).toNat : Int))) w = _
 rw [ofInt8, ofInt8, back8]
 rfl
theorem run_and8 (t : TypeId) (ex ey : Operand) (x y : UInt8) (w : World) : binRun P .and t ex ey (bU x) (bU y) w = .ok (bU (x &&& y)) w := by
 simp only [binRun, bU, Sem.run_bind, guard_int, Result.andThen_ok]
 simp only [binOp, if_neg (show ¬ (IntKind.u8 ≠ IntKind.u8) by simp), Op.intBits, Sem.run_pure]
 show Result.ok (Value.int .u8 (IntKind.u8.wrap ((BitVec.ofInt 8 (x.toNat : Int) &&& BitVec.ofInt 8 (y.toNat : Int)).toNat : Int))) w = _
 rw [ofInt8, ofInt8, back8]
 rfl
theorem run_or8 (t : TypeId) (ex ey : Operand) (x y : UInt8) (w : World) : binRun P .or t ex ey (bU x) (bU y) w = .ok (bU (x ||| y)) w := by
 simp only [binRun, bU, Sem.run_bind, guard_int, Result.andThen_ok]
 simp only [binOp, if_neg (show ¬ (IntKind.u8 ≠ IntKind.u8) by simp), Op.intBits, Sem.run_pure]
 show Result.ok (Value.int .u8 (IntKind.u8.wrap ((BitVec.ofInt 8 (x.toNat : Int) ||| BitVec.ofInt 8 (y.toNat : Int)).toNat : Int))) w = _
 rw [ofInt8, ofInt8, back8]
 rfl
theorem run_not8 (x : UInt8) (w : World) : (Op.unary .xor (bU x)).run P w = .ok (bU (~~~x)) w := by
 show Result.ok (Value.int .u8 (IntKind.u8.wrap ((BitVec.ofInt 8 (255 : Int) ^^^ BitVec.ofInt 8 (x.toNat : Int)).toNat : Int))) w = _
 rw [ofInt8, back8]
 unfold bU
 have h1 : BitVec.ofInt 8 255 = BitVec.allOnes 8 := by decide
 have h2 : (BitVec.ofInt 8 255 ^^^ x.toBitVec).toNat = (~~~x.toBitVec).toNat := by rw [h1, BitVec.allOnes_xor]
 rw [h2]
 rfl
theorem run_quo8 (t : TypeId) (ex ey : Operand) (x y : UInt8) (hy : y ≠ 0) (w : World) : binRun P .quo t ex ey (bU x) (bU y) w = .ok (bU (x / y)) w := by
 have hy' : ¬ ((y.toNat : Int) = 0) := fun e => hy (UInt8.toNat_inj.1 (by simp; omega))
 simp only [binRun, bU, Sem.run_bind, guard_int, Result.andThen_ok]
 simp only [binOp, if_neg (show ¬ (IntKind.u8 ≠ IntKind.u8) by simp), Op.intDiv, if_neg hy', Sem.run_pure]
 congr 2
 all_goals (rw [← Int.ofNat_tdiv, wrap8n, UInt8.toNat_div]; have := lt8 x; have := Nat.div_le_self x.toNat y.toNat; rw [Nat.mod_eq_of_lt (by omega)])
theorem run_rem8 (t : TypeId) (ex ey : Operand) (x y : UInt8) (hy : y ≠ 0) (w : World) : binRun P .rem t ex ey (bU x) (bU y) w = .ok (bU (x % y)) w := by
 have hy' : ¬ ((y.toNat : Int) = 0) := fun e => hy (UInt8.toNat_inj.1 (by simp; omega))
 simp only [binRun, bU, Sem.run_bind, guard_int, Result.andThen_ok]
 simp only [binOp, if_neg (show ¬ (IntKind.u8 ≠ IntKind.u8) by simp), Op.intDiv, if_neg hy', Sem.run_pure]
 congr 2
 all_goals (rw [← Int.ofNat_tmod, UInt8.toNat_mod])
theorem run_shl8 (t : TypeId) (ex ey : Operand) (x : UInt8) (k : IntKind) (n : Nat) (hn : n < 8) (w : World) : binRun P .shl t ex ey (bU x) (.int k (n : Int)) w = .ok (bU (x <<< UInt8.ofNat n)) w := by
 simp only [binRun, bU, Sem.run_bind, guard_int, Result.andThen_ok]
 have h1 : min n 8 = n := by omega
 simp only [binOp, Op.shift, if_neg (show ¬ ((n : Int) < 0) by omega), Sem.run_pure, Int.toNat_natCast, show IntKind.u8.bits = 8 from rfl, h1]
 congr 2
 have e : ((x.toNat : Int) * 2 ^ n) = ((x.toNat * 2 ^ n : Nat) : Int) := by simp
 have h2 : (UInt8.ofNat n).toNat = n := by simp; omega
 rw [e, wrap8n, UInt8.toNat_shiftLeft, h2, Nat.shiftLeft_eq, Nat.mod_eq_of_lt hn]
theorem run_shr8 (t : TypeId) (ex ey : Operand) (x : UInt8) (k : IntKind) (n : Nat) (hn : n < 8) (w : World) : binRun P .shr t ex ey (bU x) (.int k (n : Int)) w = .ok (bU (x >>> UInt8.ofNat n)) w := by
 simp only [binRun, bU, Sem.run_bind, guard_int, Result.andThen_ok]
 have h1 : min n 8 = n := by omega
 simp only [binOp, Op.shift, if_neg (show ¬ ((n : Int) < 0) by omega), Sem.run_pure, Int.toNat_natCast, show IntKind.u8.bits = 8 from rfl, h1]
 congr 2
 have e : ((2 : Int) ^ n) = ((2 ^ n : Nat) : Int) := by simp
 have h2 : (UInt8.ofNat n).toNat = n := by simp; omega
 rw [e, UInt8.toNat_shiftRight, h2, Nat.mod_eq_of_lt hn, Nat.shiftRight_eq_div_pow]
 rw [Int.fdiv_eq_ediv_of_nonneg _ (Int.natCast_nonneg _)]
 rfl
theorem run_eq8 (t : TypeId) (ex ey : Operand) (x y : UInt8) (w : World) : binRun P .eql t ex ey (bU x) (bU y) w = .ok (.bool (x == y)) w := by
 simp only [binRun, bU, Sem.run_bind, guard_int, Result.andThen_ok]
 simp only [binOp, if_neg (show ¬ (IntKind.u8 ≠ IntKind.u8) by simp), Op.intCmp, Sem.run_pure]
 congr 2
 by_cases h : x = y
 ·subst h; simp
 ·have : ¬ ((x.toNat : Int) = y.toNat) := fun e => h (UInt8.toNat_inj.1 (by omega))
  rw [beq_eq_false_iff_ne.2 h, beq_eq_false_iff_ne.2 this]
end words8
section cmps
variable {P : Program}
theorem run_cmp8 (op : BinOp) (t : TypeId) (ex ey : Operand) (x y : UInt8) (w : World) (h : op = .lss ∨ op = .leq ∨ op = .gtr ∨ op = .geq ∨ op = .neq) :
  binRun P op t ex ey (bU x) (bU y) w = .ok (.bool (match op with | .lss => decide (x < y) | .leq => decide (x ≤ y) | .gtr => decide (y < x) | .geq => decide (y ≤ x) | _ => x != y)) w := by
 have e : ((x.toNat : Int) = y.toNat) ↔ x = y := by rw [← UInt8.toNat_inj]; omega
 rcases h with rfl | rfl | rfl | rfl | rfl <;> simp [binRun, bU, guard_int, binOp, Op.intCmp, UInt8.lt_iff_toNat_lt, UInt8.le_iff_toNat_le, bne, e]
 by_cases hxy : x = y
 ·subst hxy; simp
 ·rw [beq_eq_false_iff_ne.2 hxy, beq_eq_false_iff_ne.2 (fun h => hxy (e.1 h))]
theorem run_cmp32 (op : BinOp) (t : TypeId) (ex ey : Operand) (x y : UInt32) (w : World) (h : op = .lss ∨ op = .leq ∨ op = .gtr ∨ op = .geq ∨ op = .neq) :
  binRun P op t ex ey (w32 x) (w32 y) w = .ok (.bool (match op with | .lss => decide (x < y) | .leq => decide (x ≤ y) | .gtr => decide (y < x) | .geq => decide (y ≤ x) | _ => x != y)) w := by
 have e : ((x.toNat : Int) = y.toNat) ↔ x = y := by rw [← UInt32.toNat_inj]; omega
 rcases h with rfl | rfl | rfl | rfl | rfl <;> simp [binRun, w32, guard_int, binOp, Op.intCmp, UInt32.lt_iff_toNat_lt, UInt32.le_iff_toNat_le, bne, e]
 by_cases hxy : x = y
 ·subst hxy; simp
 ·rw [beq_eq_false_iff_ne.2 hxy, beq_eq_false_iff_ne.2 (fun h => hxy (e.1 h))]
theorem run_cmp64 (op : BinOp) (t : TypeId) (ex ey : Operand) (x y : UInt64) (w : World) (h : op = .lss ∨ op = .leq ∨ op = .gtr ∨ op = .geq ∨ op = .neq) :
  binRun P op t ex ey (w64 x) (w64 y) w = .ok (.bool (match op with | .lss => decide (x < y) | .leq => decide (x ≤ y) | .gtr => decide (y < x) | .geq => decide (y ≤ x) | _ => x != y)) w := by
 have e : ((x.toNat : Int) = y.toNat) ↔ x = y := by rw [← UInt64.toNat_inj]; omega
 rcases h with rfl | rfl | rfl | rfl | rfl <;> simp [binRun, w64, guard_int, binOp, Op.intCmp, UInt64.lt_iff_toNat_lt, UInt64.le_iff_toNat_le, bne, e]
 by_cases hxy : x = y
 ·subst hxy; simp
 ·rw [beq_eq_false_iff_ne.2 hxy, beq_eq_false_iff_ne.2 (fun h => hxy (e.1 h))]
end cmps
end Go.Ch
namespace Go.Sx
open Go.RowKit Go.Ch
inductive Sc where
 | b (x : Bool) | k (kd : IntKind) (n : Int) | u8 (x : UInt8) | u32 (x : UInt32) | u64 (x : UInt64)
 | str (l : List UInt8) | er (t : TypeId) (kd : IntKind) (o : Option Int) | v (x : Value)
def Sc.val : Sc → Value
 | .b x => .bool x
 | .k kd n => .int kd n
 | .u8 x => bU x
 | .u32 x => w32 x
 | .u64 x => w64 x
 | .str l => .string ⟨l.toArray⟩
 | .er t kd o => match o with | none => .nilIface | some n => .iface t (.int kd n)
 | .v x => x
def allP : List Prop → Prop
 | [] => True
 | p :: ps => match ps with | [] => p | _ => p ∧ allP ps
theorem allP_cons {p : Prop} {ps : List Prop} : allP (p :: ps) ↔ p ∧ allP ps := by
 cases ps <;> simp [allP]
theorem allP_append : ∀ {ps qs : List Prop}, allP (ps ++ qs) ↔ allP ps ∧ allP qs
 | [], qs => by simp [allP]
 | p :: ps, qs => by rw [List.cons_append, allP_cons, allP_cons, allP_append, and_assoc]
def okI (kd : IntKind) (n : Int) : Prop := kd.wrap n = n
instance (kd : IntKind) (n : Int) : Decidable (okI kd n) := inferInstanceAs (Decidable (kd.wrap n = n))
def bitI (op : BinOp) (kd : IntKind) (x y : Int) : Int :=
 let a := BitVec.ofInt kd.bits x
 let c := BitVec.ofInt kd.bits y
 kd.wrap (match op with | .and => a &&& c | .or => a ||| c | .xor => a ^^^ c | _ => a &&& ~~~c).toNat
def Sc.int? : Sc → Option Int
 | .k _ n => some n
 | .u8 x => some (x.toNat : Int)
 | .u32 x => some (x.toNat : Int)
 | .u64 x => some (x.toNat : Int)
 | _ => none
def Sc.kind? : Sc → Option IntKind
 | .k kd _ => some kd
 | .u8 _ => some .u8
 | .u32 _ => some .u32
 | .u64 _ => some .u64
 | _ => none
theorem Sc.int_val {x : Sc} {n : Int} (h : x.int? = some n) : ∃ kd, x.kind? = some kd ∧ x.val = .int kd n := by
 cases x <;> simp [Sc.int?] at h <;> subst h <;> exact ⟨_, rfl, rfl⟩
def shl8 (x : UInt8) (n : Int) : UInt8 := if n < 8 then x <<< UInt8.ofNat n.toNat else 0
def shr8 (x : UInt8) (n : Int) : UInt8 := if n < 8 then x >>> UInt8.ofNat n.toNat else 0
def shl32 (x : UInt32) (n : Int) : UInt32 := if n < 32 then x <<< UInt32.ofNat n.toNat else 0
def shr32 (x : UInt32) (n : Int) : UInt32 := if n < 32 then x >>> UInt32.ofNat n.toNat else 0
def shl64 (x : UInt64) (n : Int) : UInt64 := if n < 64 then x <<< UInt64.ofNat n.toNat else 0
def shr64 (x : UInt64) (n : Int) : UInt64 := if n < 64 then x >>> UInt64.ofNat n.toNat else 0
def binK (op : BinOp) (kd : IntKind) (a c : Int) : Option (List Prop × Sc) :=
 match op with
 | .add => some ([okI kd (a + c)], .k kd (a + c))
 | .sub => some ([okI kd (a - c)], .k kd (a - c))
 | .mul => some ([okI kd (a * c)], .k kd (a * c))
 | .quo => some ([c ≠ 0, okI kd (a.tdiv c)], .k kd (a.tdiv c))
 | .rem => some ([c ≠ 0], .k kd (a.tmod c))
 | .and => some ([], .k kd (bitI .and kd a c))
 | .or => some ([], .k kd (bitI .or kd a c))
 | .xor => some ([], .k kd (bitI .xor kd a c))
 | .andNot => some ([], .k kd (bitI .andNot kd a c))
 | .eql => some ([], .b (a == c))
 | .neq => some ([], .b (a != c))
 | .lss => some ([], .b (decide (a < c)))
 | .leq => some ([], .b (decide (a ≤ c)))
 | .gtr => some ([], .b (decide (c < a)))
 | .geq => some ([], .b (decide (c ≤ a)))
 | _ => none
def bin8 (op : BinOp) (a c : UInt8) : Option (List Prop × Sc) :=
 match op with
 | .add => some ([], .u8 (a + c))
 | .sub => some ([], .u8 (a - c))
 | .mul => some ([], .u8 (a * c))
 | .quo => some ([c ≠ 0], .u8 (a / c))
 | .rem => some ([c ≠ 0], .u8 (a % c))
 | .and => some ([], .u8 (a &&& c))
 | .or => some ([], .u8 (a ||| c))
 | .xor => some ([], .u8 (a ^^^ c))
 | .eql => some ([], .b (a == c))
 | .neq => some ([], .b (a != c))
 | .lss => some ([], .b (decide (a < c)))
 | .leq => some ([], .b (decide (a ≤ c)))
 | .gtr => some ([], .b (decide (c < a)))
 | .geq => some ([], .b (decide (c ≤ a)))
 | _ => none
def bin32 (op : BinOp) (a c : UInt32) : Option (List Prop × Sc) :=
 match op with
 | .add => some ([], .u32 (a + c))
 | .sub => some ([], .u32 (a - c))
 | .mul => some ([], .u32 (a * c))
 | .quo => some ([c ≠ 0], .u32 (a / c))
 | .rem => some ([c ≠ 0], .u32 (a % c))
 | .and => some ([], .u32 (a &&& c))
 | .or => some ([], .u32 (a ||| c))
 | .xor => some ([], .u32 (a ^^^ c))
 | .eql => some ([], .b (a == c))
 | .neq => some ([], .b (a != c))
 | .lss => some ([], .b (decide (a < c)))
 | .leq => some ([], .b (decide (a ≤ c)))
 | .gtr => some ([], .b (decide (c < a)))
 | .geq => some ([], .b (decide (c ≤ a)))
 | _ => none
def bin64 (op : BinOp) (a c : UInt64) : Option (List Prop × Sc) :=
 match op with
 | .add => some ([], .u64 (a + c))
 | .sub => some ([], .u64 (a - c))
 | .mul => some ([], .u64 (a * c))
 | .quo => some ([c ≠ 0], .u64 (a / c))
 | .rem => some ([c ≠ 0], .u64 (a % c))
 | .and => some ([], .u64 (a &&& c))
 | .or => some ([], .u64 (a ||| c))
 | .xor => some ([], .u64 (a ^^^ c))
 | .eql => some ([], .b (a == c))
 | .neq => some ([], .b (a != c))
 | .lss => some ([], .b (decide (a < c)))
 | .leq => some ([], .b (decide (a ≤ c)))
 | .gtr => some ([], .b (decide (c < a)))
 | .geq => some ([], .b (decide (c ≤ a)))
 | _ => none
def shx (op : BinOp) (x : Sc) (n : Int) : Option (List Prop × Sc) :=
 match op, x with
 | .shl, .u8 a => some ([0 ≤ n], .u8 (shl8 a n))
 | .shr, .u8 a => some ([0 ≤ n], .u8 (shr8 a n))
 | .shl, .u32 a => some ([0 ≤ n], .u32 (shl32 a n))
 | .shr, .u32 a => some ([0 ≤ n], .u32 (shr32 a n))
 | .shl, .u64 a => some ([0 ≤ n], .u64 (shl64 a n))
 | .shr, .u64 a => some ([0 ≤ n], .u64 (shr64 a n))
 | .shl, .k kd a => some ([0 ≤ n, n ≤ kd.bits, okI kd (a * 2 ^ n.toNat)], .k kd (a * 2 ^ n.toNat))
 | .shr, .k kd a => some ([0 ≤ n, n ≤ kd.bits], .k kd (a / 2 ^ n.toNat))
 | _, _ => none
def binS (op : BinOp) (a c : List UInt8) : Option (List Prop × Sc) :=
 match op with
 | .eql => some ([], .b (a == c))
 | .neq => some ([], .b (a != c))
 | .lss => some ([], .b (Op.bytesLess a c))
 | .geq => some ([], .b (!Op.bytesLess a c))
 | .gtr => some ([], .b (!(Op.bytesLess a c || a == c)))
 | .leq => some ([], .b (Op.bytesLess a c || a == c))
 | .add => some ([a.length + c.length ≤ 9223372036854775807], .str (a ++ c))
 | _ => none
section
variable {P : Program}
theorem binS_ok {op : BinOp} {a c : List UInt8} {g : List Prop} {z : Sc} (h : binS op a c = some (g, z)) (hg : allP g) (t : TypeId) (ex ey : Operand) (w : World) :
  binRun P op t ex ey (.string ⟨a.toArray⟩) (.string ⟨c.toArray⟩) w = .ok z.val w := by
 by_cases hadd : op = .add
 ·subst hadd
  simp only [binS, Option.some.injEq, Prod.mk.injEq] at h
  obtain ⟨rfl, rfl⟩ := h
  simp only [allP, and_true] at hg
  have h1 : ¬ (((ByteArray.mk a.toArray).size + (ByteArray.mk c.toArray).size : Nat) : Int) > IntKind.i64.max := by
   have e1 : (ByteArray.mk a.toArray).size = a.length := by simp [ByteArray.size]
   have e2 : (ByteArray.mk c.toArray).size = c.length := by simp [ByteArray.size]
   rw [e1, e2]; simp only [IntKind.max, IntKind.bits, IntKind.signed]; simp; omega
  have h2 : ByteArray.mk a.toArray ++ ByteArray.mk c.toArray = ByteArray.mk (a ++ c).toArray := by
   apply ByteArray.ext
   simp [ByteArray.data_append]
  simp only [binRun, eqGuard, binOp, Op.stringOp, if_neg h1, h2, Sc.val]
  rfl
 ·cases op <;> simp [binS] at h <;> (try exact absurd rfl hadd) <;> obtain ⟨rfl, rfl⟩ := h <;> simp [binRun, eqGuard, binOp, Op.stringOp, mk_toList, Sc.val, bne]
theorem binK_ok {op : BinOp} {kd : IntKind} {a c : Int} {g : List Prop} {z : Sc} (h : binK op kd a c = some (g, z)) (hg : allP g) (t : TypeId) (ex ey : Operand) (w : World) :
  binRun P op t ex ey (.int kd a) (.int kd c) w = .ok z.val w := by
 cases op <;> simp [binK] at h <;> obtain ⟨rfl, rfl⟩ := h <;> simp [allP, okI] at hg <;>
  simp [binRun, guard_int, binOp, Op.intArith, Op.intDiv, Op.intBits, Op.intCmp, Sc.val, bitI, hg, bne]
theorem bin8_ok {op : BinOp} {a c : UInt8} {g : List Prop} {z : Sc} (h : bin8 op a c = some (g, z)) (hg : allP g) (t : TypeId) (ex ey : Operand) (w : World) :
  binRun P op t ex ey (bU a) (bU c) w = .ok z.val w := by
 cases op <;> simp [bin8] at h <;> obtain ⟨rfl, rfl⟩ := h <;> simp [allP] at hg
 case add => exact run_add8 _ _ _ _ _ _
 case sub => exact run_sub8 _ _ _ _ _ _
 case mul => exact run_mul8 _ _ _ _ _ _
 case and => exact run_and8 _ _ _ _ _ _
 case or => exact run_or8 _ _ _ _ _ _
 case xor => exact run_xor8 _ _ _ _ _ _
 case quo => exact run_quo8 _ _ _ _ _ hg _
 case rem => exact run_rem8 _ _ _ _ _ hg _
 case eql => exact run_eq8 _ _ _ _ _ _
 case neq => exact run_cmp8 _ _ _ _ _ _ _ (by simp)
 case lss => exact run_cmp8 _ _ _ _ _ _ _ (by simp)
 case leq => exact run_cmp8 _ _ _ _ _ _ _ (by simp)
 case gtr => exact run_cmp8 _ _ _ _ _ _ _ (by simp)
 case geq => exact run_cmp8 _ _ _ _ _ _ _ (by simp)
theorem bin32_ok {op : BinOp} {a c : UInt32} {g : List Prop} {z : Sc} (h : bin32 op a c = some (g, z)) (hg : allP g) (t : TypeId) (ex ey : Operand) (w : World) :
  binRun P op t ex ey (w32 a) (w32 c) w = .ok z.val w := by
 cases op <;> simp [bin32] at h <;> obtain ⟨rfl, rfl⟩ := h <;> simp [allP] at hg
 case add => exact run_add32 _ _ _ _ _ _
 case sub => exact run_sub32 _ _ _ _ _ _
 case mul => exact run_mul32 _ _ _ _ _ _
 case and => exact run_and32 _ _ _ _ _ _
 case or => exact run_or32 _ _ _ _ _ _
 case xor => exact run_xor32 _ _ _ _ _ _
 case quo => exact run_quo32 _ _ _ _ _ hg _
 case rem => exact run_rem32 _ _ _ _ _ hg _
 case eql => exact run_eq32 _ _ _ _ _ _
 case neq => exact run_cmp32 _ _ _ _ _ _ _ (by simp)
 case lss => exact run_cmp32 _ _ _ _ _ _ _ (by simp)
 case leq => exact run_cmp32 _ _ _ _ _ _ _ (by simp)
 case gtr => exact run_cmp32 _ _ _ _ _ _ _ (by simp)
 case geq => exact run_cmp32 _ _ _ _ _ _ _ (by simp)
theorem bin64_ok {op : BinOp} {a c : UInt64} {g : List Prop} {z : Sc} (h : bin64 op a c = some (g, z)) (hg : allP g) (t : TypeId) (ex ey : Operand) (w : World) :
  binRun P op t ex ey (w64 a) (w64 c) w = .ok z.val w := by
 cases op <;> simp [bin64] at h <;> obtain ⟨rfl, rfl⟩ := h <;> simp [allP] at hg
 case add => exact Go.Ch.run_add64 _ _ _ _ _ _
 case sub => exact Go.Ch.run_sub64 _ _ _ _ _ _
 case mul => exact Go.Ch.run_mul64 _ _ _ _ _ _
 case and => exact Go.Ch.run_and64 _ _ _ _ _ _
 case or => exact Go.Ch.run_or64 _ _ _ _ _ _
 case xor => exact Go.Ch.run_xor64 _ _ _ _ _ _
 case quo => exact Go.Ch.run_quo64 _ _ _ _ _ hg _
 case rem => exact Go.Ch.run_rem64 _ _ _ _ _ hg _
 case eql => exact Go.Ch.run_eq64 _ _ _ _ _ _
 case neq => exact Go.Ch.run_cmp64 _ _ _ _ _ _ _ (by simp)
 case lss => exact Go.Ch.run_cmp64 _ _ _ _ _ _ _ (by simp)
 case leq => exact Go.Ch.run_cmp64 _ _ _ _ _ _ _ (by simp)
 case gtr => exact Go.Ch.run_cmp64 _ _ _ _ _ _ _ (by simp)
 case geq => exact Go.Ch.run_cmp64 _ _ _ _ _ _ _ (by simp)
theorem shl_far (kd kd' : IntKind) (x n : Int) (h : (kd.bits : Int) ≤ n) (h0 : 0 ≤ n) (t ex ey) (w : World) :
  binRun P .shl t ex ey (.int kd x) (.int kd' n) w = .ok (.int kd (kd.wrap (x * 2 ^ kd.bits))) w := by
 have h1 : min n.toNat kd.bits = kd.bits := by omega
 simp [binRun, guard_int, binOp, Op.shift, show ¬ n < 0 by omega, h1]
theorem shr_far (kd kd' : IntKind) (x n : Int) (h : (kd.bits : Int) ≤ n) (h0 : 0 ≤ n) (t ex ey) (w : World) :
  binRun P .shr t ex ey (.int kd x) (.int kd' n) w = .ok (.int kd (x.fdiv (2 ^ kd.bits))) w := by
 have h1 : min n.toNat kd.bits = kd.bits := by omega
 simp [binRun, guard_int, binOp, Op.shift, show ¬ n < 0 by omega, h1]
theorem shx_ok {op : BinOp} {x : Sc} {n : Int} {kd' : IntKind} {g : List Prop} {z : Sc} (h : shx op x n = some (g, z)) (hg : allP g) (t : TypeId) (ex ey : Operand) (w : World) :
  binRun P op t ex ey x.val (.int kd' n) w = .ok z.val w := by
 cases op <;> cases x <;> simp only [shx, reduceCtorEq, Option.some.injEq, Prod.mk.injEq] at h <;> obtain ⟨rfl, rfl⟩ := h <;> simp only [allP] at hg
 case shl.k kd a =>
  obtain ⟨h0, h1, h2⟩ := hg
  have e : min n.toNat kd.bits = n.toNat := by omega
  unfold okI at h2
  simp [binRun, guard_int, binOp, Op.shift, Sc.val, show ¬ n < 0 by omega, e, h2]
 case shr.k kd a =>
  obtain ⟨h0, h1⟩ := hg
  have e : min n.toNat kd.bits = n.toNat := by omega
  have e2 : ((2 : Int) ^ n.toNat) = ((2 ^ n.toNat : Nat) : Int) := by simp
  simp [binRun, guard_int, binOp, Op.shift, Sc.val, show ¬ n < 0 by omega, e]
  rw [e2, Int.fdiv_eq_ediv_of_nonneg _ (Int.natCast_nonneg _)]
 all_goals
  rename_i a
  obtain ⟨m, rfl⟩ := Int.eq_ofNat_of_zero_le hg
 case shl.u8 =>
  by_cases hm : m < 8
  ·have := run_shl8 (P := P) t ex ey a kd' m hm w
   simpa [Sc.val, shl8, hm, show (m : Int) < 8 by omega] using this
  ·have := shl_far (P := P) .u8 kd' a.toNat m (by simp [IntKind.bits]; omega) hg t ex ey w
   simp only [Sc.val, bU, shl8, if_neg (show ¬ (m : Int) < 8 by omega)]
   rw [this, wrap8z]; simp [IntKind.bits]
 case shr.u8 =>
  by_cases hm : m < 8
  ·have := run_shr8 (P := P) t ex ey a kd' m hm w
   simpa [Sc.val, shr8, hm, show (m : Int) < 8 by omega] using this
  ·have := shr_far (P := P) .u8 kd' a.toNat m (by simp [IntKind.bits]; omega) hg t ex ey w
   simp only [Sc.val, bU, shr8, if_neg (show ¬ (m : Int) < 8 by omega)]
   rw [this, Int.fdiv_eq_ediv_of_nonneg _ (by simp [IntKind.bits])]
   have := lt8 a
   simp [IntKind.bits]; omega
 case shl.u32 =>
  by_cases hm : m < 32
  ·have := run_shl32 (P := P) t ex ey a kd' m hm w
   simpa [Sc.val, shl32, hm, show (m : Int) < 32 by omega] using this
  ·have := shl_far (P := P) .u32 kd' a.toNat m (by simp [IntKind.bits]; omega) hg t ex ey w
   simp only [Sc.val, w32, shl32, if_neg (show ¬ (m : Int) < 32 by omega)]
   rw [this, wrap32z]; simp [IntKind.bits]
 case shr.u32 =>
  by_cases hm : m < 32
  ·have := run_shr32 (P := P) t ex ey a kd' m hm w
   simpa [Sc.val, shr32, hm, show (m : Int) < 32 by omega] using this
  ·have := shr_far (P := P) .u32 kd' a.toNat m (by simp [IntKind.bits]; omega) hg t ex ey w
   simp only [Sc.val, w32, shr32, if_neg (show ¬ (m : Int) < 32 by omega)]
   rw [this, Int.fdiv_eq_ediv_of_nonneg _ (by simp [IntKind.bits])]
   have := lt32 a
   simp [IntKind.bits]; omega
 case shl.u64 =>
  by_cases hm : m < 64
  ·have := run_shl64 (P := P) t ex ey a kd' m hm w
   simpa [Sc.val, shl64, hm, show (m : Int) < 64 by omega] using this
  ·have := shl_far (P := P) .u64 kd' a.toNat m (by simp [IntKind.bits]; omega) hg t ex ey w
   simp only [Sc.val, w64, shl64, if_neg (show ¬ (m : Int) < 64 by omega)]
   rw [this, wrap64z]; simp [IntKind.bits]
 case shr.u64 =>
  by_cases hm : m < 64
  ·have := run_shr64 (P := P) t ex ey a kd' m hm w
   simpa [Sc.val, shr64, hm, show (m : Int) < 64 by omega] using this
  ·have := shr_far (P := P) .u64 kd' a.toNat m (by simp [IntKind.bits]; omega) hg t ex ey w
   simp only [Sc.val, w64, shr64, if_neg (show ¬ (m : Int) < 64 by omega)]
   rw [this, Int.fdiv_eq_ediv_of_nonneg _ (by simp [IntKind.bits])]
   have := lt64 a
   simp [IntKind.bits]; omega
end
end Go.Sx
end
section
namespace Go.Sx
open Go.RowKit Go.Ch
inductive Td where
 | sl (e : TypeId) | arr (n : Nat) (e : TypeId) | st (fs : List (TypeId × Nat)) | int (k : IntKind) | bool | str | ifc | ptr (e : TypeId) | oth
def tdOf : TypeDesc → Td
 | .slice e => .sl e
 | .array n e => .arr n e
 | .struct fs => .st (fs.toList.map fun f => (f.type, f.offset))
 | .int k => .int k
 | .bool => .bool
 | .string => .str
 | .interface _ => .ifc
 | .pointer e => .ptr e
 | _ => .oth
inductive Z where
 | int (k : IntKind) | bool | str | nils | ifc | ptr
 deriving DecidableEq
def Z.val : Z → Value
 | .int k => .int k 0
 | .bool => .bool false
 | .str => .string ⟨#[]⟩
 | .nils => .slice none 0 0
 | .ifc => .nilIface
 | .ptr => .pointer none
def zOf : Value → Option Z
 | .int k n => if n = 0 then some (.int k) else none
 | .bool b => if b then none else some .bool
 | .string s => if s.data.size = 0 then some .str else none
 | .slice a n c => match a with | none => if n = 0 ∧ c = 0 then some .nils else none | some _ => none
 | .nilIface => some .ifc
 | .pointer a => match a with | none => some .ptr | some _ => none
 | _ => none
theorem zOf_ok {v : Value} {z : Z} (h : zOf v = some z) : v = z.val := by
 unfold zOf at h
 split at h <;> (try split at h) <;> (try split at h) <;> simp_all [Z.val]
 ·subst h; simp [*]
 ·subst h; simp [*]
 ·subst h; rfl
 ·subst h; rfl
 ·subst h; rfl
 ·subst h; rfl
structure Ti where
 d : Td
 size : Nat
 bytes : Nat
 cmp : Bool
 z : Option (List Z)
def eqOkT (P : Program) (t : TypeId) : Bool := match P.underlying t with
 | some (.struct fs) => !P.stoodInHeld t && (!P.eqGuardType P.depth t && fs.toList.all fun f => f.name != "_")
 | _ => true
def tiOf (P : Program) (t : TypeId) : Option Ti :=
 match P.underlying t with
 | none => none
 | some d => match P.info? t with
  | none => none
  | some i => some ⟨tdOf d, i.size, i.bytes, i.comparable && eqOkT P t, match i.zero with | none => none | some z => z.cells.toList.mapM zOf⟩
abbrev Tab := TypeId → Option Ti
def TabOk (P : Program) (T : Tab) : Prop := ∀ t ti, T t = some ti → tiOf P t = some ti
structure TiOk (P : Program) (t : TypeId) (ti : Ti) : Prop where
 d : ∃ d, P.underlying t = some d ∧ tdOf d = ti.d
 i : ∃ i, P.info? t = some i ∧ i.size = ti.size ∧ i.bytes = ti.bytes ∧ (i.comparable && eqOkT P t) = ti.cmp ∧ ∀ zs, ti.z = some zs → ∃ z, i.zero = some z ∧ z.cells = (zs.map Z.val).toArray
theorem mapM_zOf : ∀ {vs : List Value} {zs : List Z}, vs.mapM zOf = some zs → vs = zs.map Z.val
 | [], zs, h => by simp at h; subst h; rfl
 | v :: vs, zs, h => by
  rw [List.mapM_cons] at h
  cases hv : zOf v with
  | none => simp [hv] at h
  | some z =>
   cases hvs : vs.mapM zOf with
   | none => simp [hv, hvs] at h
   | some zs' =>
    simp [hv, hvs] at h
    subst h
    rw [List.map_cons, ← zOf_ok hv, ← mapM_zOf hvs]
theorem TabOk.at {P : Program} {T : Tab} (h : TabOk P T) {t : TypeId} {ti : Ti} (ht : T t = some ti) : TiOk P t ti := by
 have h1 := h t ti ht
 unfold tiOf at h1
 cases hd : P.underlying t with
 | none => rw [hd] at h1; cases h1
 | some d =>
  cases hi : P.info? t with
  | none => rw [hd, hi] at h1; cases h1
  | some i =>
   rw [hd, hi] at h1
   injection h1 with h1
   subst h1
   refine ⟨⟨d, hd, rfl⟩, i, hi, rfl, rfl, rfl, fun zs hz => ?_⟩
   cases hzz : i.zero with
   | none => simp only [hzz] at hz; cases hz
   | some z =>
    simp only [hzz] at hz
    exact ⟨z, rfl, by rw [← mapM_zOf hz]⟩
section
variable {P : Program} {t : TypeId} {ti : Ti}
theorem TiOk.sl (h : TiOk P t ti) {e} (hd : ti.d = .sl e) : P.underlying t = some (.slice e) := by
 obtain ⟨d, h1, h2⟩ := h.d
 rw [hd] at h2; cases d <;> simp [tdOf] at h2; subst h2; exact h1
theorem TiOk.arr (h : TiOk P t ti) {n e} (hd : ti.d = .arr n e) : P.underlying t = some (.array n e) := by
 obtain ⟨d, h1, h2⟩ := h.d
 rw [hd] at h2; cases d <;> simp [tdOf] at h2; obtain ⟨rfl, rfl⟩ := h2; exact h1
theorem TiOk.int (h : TiOk P t ti) {k} (hd : ti.d = .int k) : P.underlying t = some (.int k) := by
 obtain ⟨d, h1, h2⟩ := h.d
 rw [hd] at h2; cases d <;> simp [tdOf] at h2; subst h2; exact h1
theorem TiOk.str (h : TiOk P t ti) (hd : ti.d = .str) : P.underlying t = some .string := by
 obtain ⟨d, h1, h2⟩ := h.d
 rw [hd] at h2; cases d <;> simp [tdOf] at h2; exact h1
theorem TiOk.bool (h : TiOk P t ti) (hd : ti.d = .bool) : P.underlying t = some .bool := by
 obtain ⟨d, h1, h2⟩ := h.d
 rw [hd] at h2; cases d <;> simp [tdOf] at h2; exact h1
theorem TiOk.ifc (h : TiOk P t ti) (hd : ti.d = .ifc) : ∃ ms, P.underlying t = some (.interface ms) := by
 obtain ⟨d, h1, h2⟩ := h.d
 rw [hd] at h2; cases d <;> simp [tdOf] at h2; exact ⟨_, h1⟩
theorem TiOk.st (h : TiOk P t ti) {fs} (hd : ti.d = .st fs) : ∃ f, P.underlying t = some (.struct f) ∧ f.toList.map (fun f => (f.type, f.offset)) = fs := by
 obtain ⟨d, h1, h2⟩ := h.d
 rw [hd] at h2; cases d <;> simp [tdOf] at h2; exact ⟨_, h1, h2⟩
theorem TiOk.agg (h : TiOk P t ti) (hd : (match ti.d with | .st _ | .arr _ _ => true | _ => false) = true) : ∃ d, P.underlying t = some d ∧ (match d with | .struct _ | .array _ _ => true | _ => false) = true := by
 obtain ⟨d, h1, h2⟩ := h.d
 rw [← h2] at hd
 exact ⟨d, h1, by cases d <;> simp_all [tdOf]⟩
end
inductive Dsh where
 | u8 | u32 | i64 | by (e : TypeId) | wo (e : TypeId) | sl (e : TypeId) (x : Dsh) | pr (a b : Dsh)
 deriving DecidableEq
def Dsh.T : Dsh → Type
 | .u8 => UInt8
 | .u32 => UInt32
 | .i64 => Int
 | .by _ => List UInt8
 | .wo _ => List UInt32
 | .sl _ x => List x.T
 | .pr a b => a.T × b.T
def Dsh.sz : Dsh → Nat
 | .pr a b => a.sz + b.sz
 | _ => 1
def Dsh.df : (x : Dsh) → x.T
 | .u8 => (0 : UInt8)
 | .u32 => (0 : UInt32)
 | .i64 => (0 : Int)
 | .by _ => ([] : List UInt8)
 | .wo _ => ([] : List UInt32)
 | .sl _ _ => []
 | .pr a b => (a.df, b.df)
theorem Dsh.sz_pos : ∀ x : Dsh, 0 < x.sz
 | .pr a b => by have := a.sz_pos; show 0 < a.sz + b.sz; omega
 | .u8 => Nat.one_pos
 | .u32 => Nat.one_pos
 | .i64 => Nat.one_pos
 | .by _ => Nat.one_pos
 | .wo _ => Nat.one_pos
 | .sl _ _ => Nat.one_pos
abbrev Way := List (Nat × Nat)
def At (w : World) (A : Option Addr) (vs : List Value) : Prop := ∀ ad, A = some ad → ∀ j u, vs[j]? = some u → w.cell? (ad.add j) = some u
abbrev gq {α : Type} (l : List α) (k : Nat) : Option α := l[k]?
def DR (w : World) (F : Nat → Prop) (gv : Way → Value) : (x : Dsh) → x.T → (Nat → Way) → Nat → Prop
 | .u8, t, c, f => gv (c f) = bU t
 | .u32, t, c, f => gv (c f) = w32 t
 | .i64, t, c, f => gv (c f) = .int .i64 t
 | .by _, t, c, f => ∃ A cap, gv (c f) = .slice A (List.length (α := UInt8) t) cap ∧ List.length (α := UInt8) t ≤ cap ∧ cap ≤ maxLen ∧ (A = none → cap = 0) ∧ (∀ ad, A = some ad → 0 < List.length (α := UInt8) t → F ad.block) ∧ At w A (List.map bU t)
 | .wo _, t, c, f => ∃ A cap, gv (c f) = .slice A (List.length (α := UInt32) t) cap ∧ List.length (α := UInt32) t ≤ cap ∧ cap ≤ maxLen ∧ (A = none → cap = 0) ∧ (∀ ad, A = some ad → 0 < List.length (α := UInt32) t → F ad.block) ∧ At w A (List.map w32 t)
 | .sl _ x, t, c, f => ∃ A cap, gv (c f) = .slice A (List.length (α := x.T) t) cap ∧ List.length (α := x.T) t ≤ cap ∧ cap ≤ maxLen ∧ (A = none → cap = 0) ∧ (∀ ad, A = some ad → 0 < List.length (α := x.T) t → F ad.block) ∧
   ∀ (k : Nat) (y : x.T), gq (α := x.T) t k = some y → (∀ ad, A = some ad → ∀ g, g < x.sz → w.cell? (ad.add (k * x.sz + g)) = some (gv ((k, g) :: c f))) ∧ DR w F gv x y (fun g => (k, g) :: c f) 0
 | .pr a b, t, c, f => DR w F gv a t.1 c f ∧ DR w F gv b t.2 c (f + a.sz)
theorem At.keepF {w w' : World} {A : Option Addr} {vs : List Value} (h : At w A vs) (hb : ∀ ad, A = some ad → 0 < vs.length → w'.heap[ad.block]? = w.heap[ad.block]?) : At w' A vs := by
 intro ad ha j u hu
 have hl : 0 < vs.length := by have := (List.getElem?_eq_some_iff.1 hu).1; omega
 rw [World.cell?_of_block (w := w) (by rw [block_add]; exact hb ad ha hl)]
 exact h ad ha j u hu
theorem DR.keep {w w' : World} {F : Nat → Prop} {gv : Way → Value} (hF : ∀ g, F g → w'.heap[g]? = w.heap[g]?) : ∀ (x : Dsh) (t : x.T) (c : Nat → Way) (f : Nat), DR w F gv x t c f → DR w' F gv x t c f
 | .u8, _, _, _, h => h
 | .u32, _, _, _, h => h
 | .i64, _, _, _, h => h
 | .by _, t, c, f, h => by
  obtain ⟨A, cap, h1, h2, h3, h4, h5, h6⟩ := h
  exact ⟨A, cap, h1, h2, h3, h4, h5, h6.keepF fun ad ha hl => hF _ (h5 ad ha (Nat.lt_of_lt_of_eq hl (List.length_map (α := UInt8) bU)))⟩
 | .wo _, t, c, f, h => by
  obtain ⟨A, cap, h1, h2, h3, h4, h5, h6⟩ := h
  exact ⟨A, cap, h1, h2, h3, h4, h5, h6.keepF fun ad ha hl => hF _ (h5 ad ha (Nat.lt_of_lt_of_eq hl (List.length_map (α := UInt32) w32)))⟩
 | .sl _ x, t, c, f, h => by
  obtain ⟨A, cap, h1, h2, h3, h4, h5, h6⟩ := h
  refine ⟨A, cap, h1, h2, h3, h4, h5, fun k y hy => ⟨fun ad ha g hg => ?_, DR.keep hF x y _ 0 (h6 k y hy).2⟩⟩
  have := (h6 k y hy).1 ad ha g hg
  rw [World.cell?_of_block (w := w) (by rw [block_add]; exact hF _ (h5 ad ha (by have := (List.getElem?_eq_some_iff.1 hy).1; omega)))]
  exact this
 | .pr a b, t, c, f, h => ⟨DR.keep hF a t.1 c f h.1, DR.keep hF b t.2 c _ h.2⟩
inductive Cl where
 | s (x : Sc) | nils | wh (i : Nat) | sl (i lo n : Nat) | pt (i off : Nat) | junk
 | dv (i : Nat) (p : Way) | dq (i : Nat) (p : Way) (k f sz : Nat) | fp (f : FuncId) (i off : Nat) | pre (i n : Nat) | gh (i : Nat) (p : Way) | gi (i k : Nat)
inductive Cs where
 | b (l : List UInt8) | w (l : List UInt32) | q (l : List UInt64) | z (l : List Int) | c (l : List Cl) | d (x : Dsh) (l : List x.T) | g (j n sz : Nat) (tl : List Cl) | p (j : Nat) (js : List Nat)
inductive A1 where
 | c (x : Cl) | g (n : Nat) (cs : Cs)
inductive AV where
 | c (x : Cl) | g (n : Nat) (cs : Cs) | t (xs : List A1)
def A1.av : A1 → AV
 | .c x => .c x
 | .g n cs => .g n cs
def ghc (j n sz : Nat) : List Cl := (List.range (n * sz)).map fun q => .gh j [(q / sz, q % sz)]
theorem ghc_len (j n sz : Nat) : (ghc j n sz).length = n * sz := by simp [ghc]
def Cs.cl : Cs → List Cl
 | .b l => l.map fun x => .s (.u8 x)
 | .w l => l.map fun x => .s (.u32 x)
 | .q l => l.map fun x => .s (.u64 x)
 | .z l => l.map fun x => .s (.k .i64 x)
 | .c l => l
 | .d x l => List.replicate (l.length * x.sz) .junk
 | .g j n sz tl => ghc j n sz ++ tl
 | .p j js => js.map fun k => .gi j k
inductive Kd where
 | ro (fs : Bool) | row | blk | dead | dp (fs : Bool) | gs (fs : Bool) | od | og
 deriving DecidableEq
structure Oj where
 kd : Kd
 e : TypeId
 sz : Nat
 n : Nat
 cs : Cs
structure Pl where
 A : Option Addr
 n : Nat
 cap : Nat
 sz : Nat
 foot : Nat → Prop
 gv : Way → Value
abbrev pl4 (A : Option Addr) (n cap sz : Nat) : Pl := ⟨A, n, cap, sz, fun _ => False, fun _ => undef⟩
def Dsh.fld : (x : Dsh) → x.T → Nat → Option (Σ y : Dsh, y.T)
 | .pr a b, t, f => match Nat.blt f a.sz with | true => a.fld t.1 f | false => b.fld t.2 (f - a.sz)
 | .u8, t, f => match f with | 0 => some ⟨.u8, t⟩ | _ + 1 => none
 | .u32, t, f => match f with | 0 => some ⟨.u32, t⟩ | _ + 1 => none
 | .i64, t, f => match f with | 0 => some ⟨.i64, t⟩ | _ + 1 => none
 | .by e, t, f => match f with | 0 => some ⟨.by e, t⟩ | _ + 1 => none
 | .wo e, t, f => match f with | 0 => some ⟨.wo e, t⟩ | _ + 1 => none
 | .sl e x, t, f => match f with | 0 => some ⟨.sl e x, t⟩ | _ + 1 => none
def wayD (e : TypeId) (x : Dsh) (l : List x.T) : Way → Option (Σ y : Dsh, y.T)
 | [] => some ⟨.sl e x, l⟩
 | (k, f) :: p => match wayD e x l p with
  | some ⟨.sl _ y, u⟩ => y.fld (List.getD (α := y.T) u k y.df) f
  | _ => none
theorem DR.fld {w : World} {F : Nat → Prop} {gv : Way → Value} : ∀ (x : Dsh) (t : x.T) (c : Nat → Way) (f g : Nat) (y : Dsh) (u : y.T), DR w F gv x t c f → x.fld t g = some ⟨y, u⟩ → DR w F gv y u c (f + g)
 | .pr a b, t, c, f, g, y, u, h, hf => by
  simp only [Dsh.fld] at hf
  split at hf
  ·exact DR.fld a t.1 c f g y u h.1 hf
  ·rename_i hb
   have := DR.fld b t.2 c (f + a.sz) (g - a.sz) y u h.2 hf
   have hge : a.sz ≤ g := Nat.le_of_not_lt fun hlt => by rw [show Nat.blt g a.sz = true from Nat.blt_eq ▸ hlt] at hb; cases hb
   rwa [show f + a.sz + (g - a.sz) = f + g by omega] at this
 | .u8, t, c, f, g, y, u, h, hf => by cases g <;> simp only [Dsh.fld, Option.some.injEq, reduceCtorEq] at hf; cases hf; exact h
 | .u32, t, c, f, g, y, u, h, hf => by cases g <;> simp only [Dsh.fld, Option.some.injEq, reduceCtorEq] at hf; cases hf; exact h
 | .i64, t, c, f, g, y, u, h, hf => by cases g <;> simp only [Dsh.fld, Option.some.injEq, reduceCtorEq] at hf; cases hf; exact h
 | .by _, t, c, f, g, y, u, h, hf => by cases g <;> simp only [Dsh.fld, Option.some.injEq, reduceCtorEq] at hf; cases hf; exact h
 | .wo _, t, c, f, g, y, u, h, hf => by cases g <;> simp only [Dsh.fld, Option.some.injEq, reduceCtorEq] at hf; cases hf; exact h
 | .sl _ _, t, c, f, g, y, u, h, hf => by cases g <;> simp only [Dsh.fld, Option.some.injEq, reduceCtorEq] at hf; cases hf; exact h
def PV (gv : Way → Value) : Way → Prop
 | [] => True
 | (k, _) :: p => (∃ A n c, gv p = .slice A n c ∧ k < n) ∧ PV gv p
def F2 {α β : Type} (R : α → β → Prop) (xs : List α) (ys : List β) : Prop := xs.length = ys.length ∧ ∀ (j : Nat) (x : α) (y : β), xs[j]? = some x → ys[j]? = some y → R x y
theorem F2.at {α β : Type} {R : α → β → Prop} {xs : List α} {ys : List β} (h : F2 R xs ys) {j : Nat} {x : α} (hx : xs[j]? = some x) : ∃ y, ys[j]? = some y ∧ R x y := by
 have hj := (List.getElem?_eq_some_iff.1 hx).1
 have hj' : j < ys.length := by rw [← h.1]; exact hj
 exact ⟨ys[j], List.getElem?_eq_getElem hj', h.2 j x _ hx (List.getElem?_eq_getElem hj')⟩
theorem F2.mono {α β : Type} {R R' : α → β → Prop} {xs : List α} {ys : List β} (h : F2 R xs ys) (hr : ∀ x ∈ xs, ∀ y, R x y → R' x y) : F2 R' xs ys :=
 ⟨h.1, fun j x y hx hy => hr x (List.mem_of_getElem? hx) y (h.2 j x y hx hy)⟩
theorem F2.nil {α β : Type} {R : α → β → Prop} : F2 R ([] : List α) ([] : List β) := ⟨rfl, fun j x y hx => by simp at hx⟩
theorem F2.cons {α β : Type} {R : α → β → Prop} {x : α} {y : β} {xs : List α} {ys : List β} (h : R x y) (hs : F2 R xs ys) : F2 R (x :: xs) (y :: ys) :=
 ⟨by simp [hs.1], fun j a b ha hb => by
  cases j with
  | zero => simp at ha hb; subst ha; subst hb; exact h
  | succ j => exact hs.2 j a b (by simpa using ha) (by simpa using hb)⟩
theorem F2.append {α β : Type} {R : α → β → Prop} {xs xs' : List α} {ys ys' : List β} (h : F2 R xs ys) (h' : F2 R xs' ys') : F2 R (xs ++ xs') (ys ++ ys') := by
 refine ⟨by simp [h.1, h'.1], fun j a b ha hb => ?_⟩
 by_cases hj : j < xs.length
 ·rw [List.getElem?_append_left hj] at ha
  rw [List.getElem?_append_left (by rw [← h.1]; exact hj)] at hb
  exact h.2 j a b ha hb
 ·rw [List.getElem?_append_right (by omega)] at ha
  rw [List.getElem?_append_right (by rw [← h.1]; omega), ← h.1] at hb
  exact h'.2 _ a b ha hb
theorem F2.take {α β : Type} {R : α → β → Prop} {xs : List α} {ys : List β} (h : F2 R xs ys) (n : Nat) : F2 R (xs.take n) (ys.take n) :=
 ⟨by simp [h.1], fun j a b ha hb => by
  rw [List.getElem?_take] at ha hb
  split at ha
  ·rw [if_pos (by assumption)] at hb; exact h.2 j a b ha hb
  ·cases ha⟩
theorem F2.drop {α β : Type} {R : α → β → Prop} {xs : List α} {ys : List β} (h : F2 R xs ys) (n : Nat) : F2 R (xs.drop n) (ys.drop n) :=
 ⟨by simp [h.1], fun j a b ha hb => by
  rw [List.getElem?_drop] at ha hb
  exact h.2 _ a b ha hb⟩
theorem F2.set {α β : Type} {R : α → β → Prop} {xs : List α} {ys : List β} (h : F2 R xs ys) (n : Nat) {x : α} {y : β} (hx : R x y) : F2 R (xs.set n x) (ys.set n y) := by
 refine ⟨by simp [h.1], fun j a b ha hb => ?_⟩
 rw [List.getElem?_set] at ha hb
 by_cases hj : n = j
 ·subst hj
  rw [if_pos rfl] at ha hb
  split at ha
  ·rw [if_pos (by rw [← h.1]; assumption)] at hb
   injection ha with ha; injection hb with hb
   subst ha; subst hb; exact hx
  ·cases ha
 ·rw [if_neg hj] at ha hb
  exact h.2 j a b ha hb
abbrev Pls := Nat → Pl
def clR (ρ : Pls) : Cl → Value → Prop
 | .s x, v => v = x.val
 | .wh i, v => v = .slice (ρ i).A (ρ i).n (ρ i).cap
 | .nils, v => v = .slice none 0 0
 | .sl i lo n, v => lo + n ≤ (ρ i).n ∧ ∃ A c, v = .slice A n c ∧ n ≤ c ∧ c ≤ maxLen ∧ (A = none → c = 0) ∧ (0 < n → A = (ρ i).A.map (·.add (lo * (ρ i).sz)))
 | .pt i off, v => off < (ρ i).n * (ρ i).sz ∧ ∃ ad, (ρ i).A = some ad ∧ v = .pointer (some (ad.add off))
 | .junk, _ => True
 | .dv i p, v => v = (ρ i).gv p ∧ PV (ρ i).gv p ∧ ∃ A n c, v = .slice A n c
 | .dq i p k f sz, v => PV (ρ i).gv p ∧ ∃ A m c ad, (ρ i).gv p = .slice A m c ∧ k < m ∧ A = some ad ∧ f < sz ∧ v = .pointer (some (ad.add (k * sz + f)))
 | .fp f i off, v => off < (ρ i).n * (ρ i).sz ∧ ∃ ad, (ρ i).A = some ad ∧ v = .func (.func f) #[] #[.pointer (some (ad.add off))]
 | .gh i p, v => v = (ρ i).gv p
 | .gi i k, v => v = (ρ i).gv [(k, 0)] ∧ k < (ρ i).n ∧ ∃ A n c, v = .slice A n c
 | .pre i n, v => n ≤ (ρ i).n ∧ v = .slice (ρ i).A n (ρ i).cap
def csR (ρ : Pls) (cs : Cs) (vs : List Value) : Prop := F2 (clR ρ) cs.cl vs
def a1R (ρ : Pls) : A1 → Value → Prop
 | .c x, v => clR ρ x v
 | .g n cs, v => ∃ vs, csR ρ cs vs ∧ vs.length = n ∧ v = .agg vs.toArray
def avR (ρ : Pls) : AV → Value → Prop
 | .c x, v => clR ρ x v
 | .g n cs, v => ∃ vs, csR ρ cs vs ∧ vs.length = n ∧ v = .agg vs.toArray
 | .t xs, v => ∃ vs, F2 (a1R ρ) xs vs ∧ v = .tuple vs.toArray
theorem a1R_av {ρ : Pls} {x : A1} {v : Value} (h : a1R ρ x v) : avR ρ x.av v := by cases x <;> exact h
theorem gi_mono {ρ ρ' : Pls} {j j' : Nat} (h : ρ' j' = ρ j) {js : List Nat} {vs : List Value} (hv : F2 (clR ρ) (js.map fun k => Cl.gi j k) vs) : F2 (clR ρ') (js.map fun k => Cl.gi j' k) vs := by
 refine ⟨by have := hv.1; simpa using this, fun q x y hx hy => ?_⟩
 rw [List.getElem?_map] at hx
 obtain ⟨z, hz, rfl⟩ := Option.map_eq_some_iff.1 hx
 have := hv.2 q (.gi j z) y (by rw [List.getElem?_map, hz]; rfl) hy
 simp only [clR] at this ⊢
 rw [h]; exact this
theorem csR_map {ρ : Pls} {α : Type} (l : List α) (f : α → Sc) (vs : List Value) : F2 (clR ρ) (l.map fun x => Cl.s (f x)) vs ↔ vs = l.map fun x => (f x).val := by
 constructor
 ·intro h
  apply List.ext_getElem?
  intro j
  by_cases hj : j < l.length
  ·have h1 : (l.map fun x => Cl.s (f x))[j]? = some (.s (f l[j])) := by simp [List.getElem?_eq_getElem hj]
   obtain ⟨v, hv, hr⟩ := h.at h1
   rw [hv, hr]
   simp [List.getElem?_eq_getElem hj]
  ·have h1 := h.1
   simp at h1
   rw [List.getElem?_eq_none (by omega), List.getElem?_eq_none (by simp; omega)]
 ·rintro rfl
  refine ⟨by simp, fun j x y hx hy => ?_⟩
  simp only [List.getElem?_map] at hx hy
  cases h : l[j]? with
  | none => simp [h] at hx
  | some a => simp [h] at hx hy; subst hx; subst hy; rfl
theorem csR_b {ρ : Pls} {l : List UInt8} {vs : List Value} : csR ρ (.b l) vs ↔ vs = l.map bU := csR_map l _ vs
theorem csR_w {ρ : Pls} {l : List UInt32} {vs : List Value} : csR ρ (.w l) vs ↔ vs = l.map w32 := csR_map l _ vs
theorem csR_q {ρ : Pls} {l : List UInt64} {vs : List Value} : csR ρ (.q l) vs ↔ vs = l.map w64 := csR_map l _ vs
theorem csR_z {ρ : Pls} {l : List Int} {vs : List Value} : csR ρ (.z l) vs ↔ vs = l.map (Value.int .i64) := csR_map l _ vs
def DpR (w : World) (p : Pl) (o : Oj) : Prop := match o.cs with
 | .d x l => (p.sz = o.sz ∧ p.n = o.n ∧ o.n = l.length ∧ o.sz = x.sz) ∧ p.gv [] = .slice p.A p.n p.cap ∧ (∀ g, p.foot g → g < w.heap.size) ∧ DR w p.foot p.gv (.sl o.e x) l (fun _ => []) 0
 | _ => False
def GsR (w : World) (p : Pl) (o : Oj) : Prop := p.A = none ∧ match o.cs with
 | .d x l => (p.sz = o.sz ∧ p.n = o.n ∧ o.n = l.length ∧ o.sz = x.sz) ∧ (∀ g, p.foot g → g < w.heap.size) ∧ ∀ (k : Nat) (y : x.T), gq l k = some y → DR w p.foot p.gv x y (fun g => [(k, g)]) 0
 | _ => False
def ogV (gv : Way → Value) (x : Dsh) (k : Nat) : Value := gv [(k, x.sz - 1)]
def OgEl (w : World) (gv : Way → Value) : (x : Dsh) → x.T → Nat → Prop
 | .by e, l, k => w.ownsRow 0 e 1 (gv [(k, 0)]) (List.length (α := UInt8) l) (List.map (α := UInt8) bU l)
 | .pr .u8 (.by e), t, k => gv [(k, 0)] = bU t.1 ∧ w.ownsRow 0 e 1 (gv [(k, 1)]) (List.length (α := UInt8) t.2) (List.map (α := UInt8) bU t.2)
 | _, _, _ => False
def OgC (w : World) (gv : Way → Value) (F : Nat → Prop) (x : Dsh) (l : List x.T) : Prop :=
 (∀ (k : Nat) (y : x.T), gq l k = some y → OgEl w gv x y k) ∧ (∀ g, F g ↔ ∃ k, k < l.length ∧ (ogV gv x k).ownBlock = some g) ∧
 ∀ (k k' g : Nat), k < l.length → k' < l.length → (ogV gv x k).ownBlock = some g → (ogV gv x k').ownBlock = some g → k = k'
def OgR (w : World) (p : Pl) (o : Oj) : Prop := p.A = none ∧ match o.cs with
 | .d x l => (p.sz = o.sz ∧ p.n = o.n ∧ o.n = l.length ∧ o.sz = x.sz) ∧ OgC w p.gv p.foot x l
 | _ => False
def OdR (w : World) (p : Pl) (o : Oj) : Prop := match o.cs with
 | .d x l => (p.sz = o.sz ∧ p.n = o.n ∧ o.n = l.length ∧ o.sz = x.sz) ∧ (∃ F : Nat → Prop, OgC w p.gv F x l ∧ (∀ g, p.foot g ↔ F g ∨ ∃ ad, p.A = some ad ∧ ad.block = g) ∧ ∀ ad, p.A = some ad → ¬ F ad.block) ∧
   ∃ vs : List Value, (∀ (k g : Nat), k < l.length → g < x.sz → vs[k * x.sz + g]? = some (p.gv [(k, g)])) ∧ w.ownsRow 0 o.e o.sz (.slice p.A p.n p.cap) p.n vs
 | _ => False
def objR (ρ : Pls) (w : World) (p : Pl) (o : Oj) : Prop :=
 match o.kd with
 | .dead => True
 | .ro _ => (p.sz = o.sz ∧ p.n = o.n ∧ o.cs.cl.length = o.n * o.sz) ∧ (p.n ≤ p.cap ∧ p.cap ≤ maxLen ∧ (p.A = none → p.cap = 0)) ∧ ∃ vs, csR ρ o.cs vs ∧ At w p.A vs
 | .row => (p.sz = o.sz ∧ p.n = o.n ∧ o.cs.cl.length = o.n * o.sz) ∧ ∃ vs, csR ρ o.cs vs ∧ w.ownsRow 0 o.e o.sz (.slice p.A p.n p.cap) p.n vs
 | .blk => (p.sz = o.sz ∧ p.n = o.n ∧ o.cs.cl.length = o.n * o.sz) ∧ ∃ b vs, p.A = some ⟨b, 0, none⟩ ∧ csR ρ o.cs vs ∧ Blk w b o.e vs.toArray
 | .dp _ => DpR w p o
 | .gs _ => GsR w p o
 | .od => OdR w p o
 | .og => OgR w p o
def objAt (p : Pl) (o : Oj) (g : Nat) : Prop := match o.kd with
 | .dead => False
 | .ro _ => p.n * p.sz ≠ 0 ∧ ∃ ad, p.A = some ad ∧ ad.block = g
 | .dp _ => p.foot g
 | .gs _ => p.foot g
 | .od => p.foot g
 | .og => p.foot g
 | _ => ∃ ad, p.A = some ad ∧ ad.block = g
def Oj.own (o : Oj) : Bool := match o.kd with | .row | .blk | .od | .og => true | _ => false
def Oj.wr (o : Oj) : Bool := match o.kd with | .row | .blk => true | _ => false
theorem Oj.wr_own {o : Oj} (h : o.wr = true) : o.own = true := by
 unfold Oj.wr at h; unfold Oj.own
 cases hk : o.kd <;> simp only [hk] at h ⊢ <;> cases h
def Oj.fsh (o : Oj) : Bool := match o.kd with | .row | .blk | .od | .og | .ro true | .dp true | .gs true => true | _ => false
theorem Oj.fsh_own {o : Oj} (h : o.own = true) : o.fsh = true := by
 unfold Oj.own at h; unfold Oj.fsh
 cases hk : o.kd <;> simp only [hk] at h ⊢ <;> cases h
structure Bs where
 p : Nat → Prop
 gv : Nat → Value
 q : Nat → Prop
instance : CoeFun Bs fun _ => Nat → Prop := ⟨Bs.p⟩
def noB (gv : Nat → Value) : Bs := ⟨fun _ => False, gv, fun _ => False⟩
def gvOf (bs : Bs) (t : Nat) : Value := if t < 1000000 then .pointer (some ⟨t, 0, none⟩) else bs.gv (t - 1000000)
structure Kp (bs : Bs) (w0 w : World) : Prop where
 os : w.os = w0.os
 tape : w.tape = w0.tape
 output : w.output = w0.output
 size : w0.heap.size ≤ w.heap.size
 block : ∀ k, k < w0.heap.size → ¬ bs k → w.heap[k]? = w0.heap[k]?
theorem Kp.refl (bs : Bs) (w : World) : Kp bs w w := ⟨rfl, rfl, rfl, Nat.le_refl _, fun _ _ _ => rfl⟩
theorem Kp.grown {bs : Bs} {w0 w w' : World} {row : Option Nat} (h : Kp bs w0 w) (hg : w.grownBy w' row) (hr : ∀ g, row = some g → w0.heap.size ≤ g ∨ bs g) : Kp bs w0 w' :=
 ⟨hg.os.trans h.os, hg.tape.trans h.tape, hg.output.trans h.output, Nat.le_trans h.size hg.size, fun k hk hb => (hg.block k (Nat.lt_of_lt_of_le hk h.size) (fun e => (hr k e.symm).elim (fun h1 => absurd hk (by omega)) hb)).trans (h.block k hk hb)⟩
theorem Kp.drew {bs : Bs} {w0 w : World} (h : Kp bs w0 w) : Kp bs w0 w.drew := ⟨h.os, h.tape, h.output, h.size, h.block⟩
theorem Kp.ext {bs : Bs} {w0 w w' : World} (h : Kp bs w0 w) (hx : Ext w w') : Kp bs w0 w' :=
 ⟨hx.os.trans h.os, hx.tape.trans h.tape, hx.output.trans h.output, Nat.le_trans h.size hx.size, fun k hk hb => (hx.block k (Nat.lt_of_lt_of_le hk h.size)).trans (h.block k hk hb)⟩
theorem Kp.below {gv : Nat → Value} {w0 w : World} (h : Kp (noB gv) w0 w) : Ext w0 w := ⟨h.os, h.tape, h.output, h.size, fun k hk => h.block k hk (fun e => e)⟩
theorem At.keep {w w' : World} {A : Option Addr} {vs : List Value} (h : At w A vs) (hb : ∀ ad, A = some ad → vs ≠ [] → w'.heap[ad.block]? = w.heap[ad.block]?) : At w' A vs := by
 intro ad ha j u hu
 have h1 := h ad ha j u hu
 have hne : vs ≠ [] := by rintro rfl; simp at hu
 rw [World.cell?_of_block (w := w) (by rw [block_add]; exact hb ad ha hne)]
 exact h1
theorem csR.len {ρ : Pls} {cs : Cs} {vs : List Value} (h : csR ρ cs vs) : vs.length = cs.cl.length := h.1.symm
theorem gq_getD {α : Type} {l : List α} {k : Nat} {d : α} (h : k < l.length) : gq l k = some (l.getD k d) := by
 unfold gq; rw [List.getD_eq_getElem?_getD, List.getElem?_eq_getElem h]; rfl
theorem way_ok {w : World} {F : Nat → Prop} {gv : Way → Value} {e : TypeId} {x : Dsh} {l : List x.T} (h : DR w F gv (.sl e x) l (fun _ => []) 0) : ∀ (q : Way) (y : Dsh) (u : y.T), PV gv q → wayD e x l q = some ⟨y, u⟩ → ∃ c f, c f = q ∧ DR w F gv y u c f
 | [], y, u, _, hw => by
  simp only [wayD, Option.some.injEq] at hw
  cases hw
  exact ⟨fun _ => [], 0, rfl, h⟩
 | (k, f) :: p, y, u, hp, hw => by
  simp only [wayD] at hw
  split at hw
  ·rename_i e' z v hv
   obtain ⟨c, f', hc, hd⟩ := way_ok h p _ _ hp.2 hv
   obtain ⟨A, cap, h1, h2, h3, h4, h5, h6⟩ := hd
   obtain ⟨A', n', c', h7, h8⟩ := hp.1
   rw [← hc, h1] at h7
   injection h7 with a b d
   have hk : k < List.length (α := z.T) v := by rw [b]; exact h8
   obtain ⟨_, h9⟩ := h6 k (List.getD (α := z.T) v k z.df) (gq_getD hk)
   have := DR.fld z _ _ 0 f y u h9 hw
   rw [Nat.zero_add] at this
   exact ⟨_, f, by rw [hc], this⟩
  ·cases hw
theorem DpR.keep {w w' : World} {p : Pl} {o : Oj} (h : DpR w p o) (hb : ∀ g, g < w.heap.size → p.foot g → w'.heap[g]? = w.heap[g]?) : DpR w' p o := by
 unfold DpR at h ⊢
 split at h
 ·obtain ⟨h0, h1, h2, h3⟩ := h
  refine ⟨h0, h1, fun g hg => ?_, h3.keep (fun g hg => hb g (h2 g hg) hg)⟩
  have e := hb g (h2 g hg) hg
  rw [Array.getElem?_eq_getElem (h2 g hg)] at e
  exact (Array.getElem?_eq_some_iff.1 e).1
 ·exact h
theorem ownsRow_keep {w w' : World} {e : TypeId} {sz n : Nat} {v : Value} {vs : List Value} (h : w.ownsRow 0 e sz v n vs) (hb : ∀ g, g < w.heap.size → v.ownBlock = some g → w'.heap[g]? = w.heap[g]?) : w'.ownsRow 0 e sz v n vs := by
 refine ⟨h.1, ?_⟩
 rcases h.2 with hr2 | ⟨g, cap, cur, hv, hg0, hg, r⟩
 ·exact .inl hr2
 ·refine .inr ⟨g, cap, cur, hv, hg0, ?_, r⟩
  rw [hb g (Array.getElem?_eq_some_iff.1 hg).1 (by rw [hv]; rfl)]; exact hg
theorem OgEl.keep {w w' : World} {gv : Way → Value} {k : Nat} : ∀ {x : Dsh} {y : x.T}, OgEl w gv x y k → (∀ g, g < w.heap.size → (ogV gv x k).ownBlock = some g → w'.heap[g]? = w.heap[g]?) → OgEl w' gv x y k
 | .by e, l, h, hb => ownsRow_keep h hb
 | .pr .u8 (.by e), t, h, hb => ⟨h.1, ownsRow_keep h.2 hb⟩
theorem OgC.keep {w w' : World} {gv : Way → Value} {F : Nat → Prop} {x : Dsh} {l : List x.T} (h : OgC w gv F x l) (hb : ∀ g, g < w.heap.size → F g → w'.heap[g]? = w.heap[g]?) : OgC w' gv F x l :=
 ⟨fun k y hy => (h.1 k y hy).keep fun g hg ho => hb g hg ((h.2.1 g).2 ⟨k, (List.getElem?_eq_some_iff.1 hy).1, ho⟩), h.2.1, h.2.2⟩
theorem OgR.keep {w w' : World} {p : Pl} {o : Oj} (h : OgR w p o) (hb : ∀ g, g < w.heap.size → p.foot g → w'.heap[g]? = w.heap[g]?) : OgR w' p o := by
 unfold OgR at h ⊢
 refine ⟨h.1, ?_⟩
 have h := h.2
 split at h
 ·exact ⟨h.1, h.2.keep hb⟩
 ·exact h
theorem OdR.keep {w w' : World} {p : Pl} {o : Oj} (h : OdR w p o) (hb : ∀ g, g < w.heap.size → p.foot g → w'.heap[g]? = w.heap[g]?) : OdR w' p o := by
 unfold OdR at h ⊢
 split at h
 ·obtain ⟨h0, ⟨F, h1, h2, h3⟩, vs, h4, h5⟩ := h
  refine ⟨h0, ⟨F, h1.keep fun g hg hF => hb g hg ((h2 g).2 (.inl hF)), h2, h3⟩, vs, h4, ownsRow_keep h5 fun g hg ho => hb g hg ((h2 g).2 (.inr ?_))⟩
  cases hA : p.A with
  | none => rw [hA] at ho; cases ho
  | some ad => rw [hA] at ho; injection ho with ho; exact ⟨ad, rfl, ho⟩
 ·exact h
theorem OgR.read {ρ : Pls} {w : World} {p : Pl} {o : Oj} (h : OgR w p o) : (p.sz = o.sz ∧ p.n = o.n ∧ o.cs.cl.length = o.n * o.sz) ∧ ∃ vs, csR ρ o.cs vs ∧ At w p.A vs := by
 obtain ⟨hA, h⟩ := h
 split at h
 ·rename_i x l hcs
  obtain ⟨⟨e1, e2, e3, e4⟩, _⟩ := h
  refine ⟨⟨e1, e2, by rw [hcs]; simp [Cs.cl, e3, e4]⟩, List.replicate (l.length * x.sz) undef, ⟨by rw [hcs]; simp [Cs.cl], fun j y u hy hu => ?_⟩, fun ad ha => by rw [hA] at ha; cases ha⟩
  rw [hcs] at hy
  simp only [Cs.cl, List.getElem?_replicate] at hy
  split at hy
  ·injection hy with hy; subst hy; exact True.intro
  ·cases hy
 ·exact h.elim
theorem OdR.slc {w : World} {p : Pl} {o : Oj} (h : OdR w p o) : p.n ≤ p.cap ∧ p.cap ≤ maxLen ∧ (p.A = none → p.cap = 0) := by
 unfold OdR at h
 split at h
 ·obtain ⟨_, _, vs, _, hr⟩ := h
  rcases hr.2 with ⟨hv, hn⟩ | ⟨g, cap, cur, hv, _, _, h1, h2, _⟩
  ·injection hv with a b c
   exact ⟨by omega, by rw [c]; simp [maxLen], fun _ => c⟩
  ·injection hv with a b c
   subst c
   exact ⟨h1, h2, fun e => by rw [e] at a; cases a⟩
 ·exact h.elim
theorem OdR.read {ρ : Pls} {w : World} {p : Pl} {o : Oj} (h : OdR w p o) : (p.sz = o.sz ∧ p.n = o.n ∧ o.cs.cl.length = o.n * o.sz) ∧ ∃ vs, csR ρ o.cs vs ∧ At w p.A vs := by
 unfold OdR at h
 split at h
 ·rename_i x l hcs
  obtain ⟨⟨e1, e2, e3, e4⟩, _, vs, h4, hr⟩ := h
  have hl : vs.length = l.length * x.sz := by have := hr.1; rw [this, e2, e3, e4]
  refine ⟨⟨e1, e2, by rw [hcs]; simp [Cs.cl, e3, e4]⟩, vs, ⟨by rw [hcs]; simp [Cs.cl, hl], fun j y u hy hu => ?_⟩, fun ad ha j u hu => ?_⟩
  ·rw [hcs] at hy
   simp only [Cs.cl, List.getElem?_replicate] at hy
   split at hy
   ·injection hy with hy; subst hy; exact True.intro
   ·cases hy
  ·rcases hr.2 with ⟨hv, hn⟩ | ⟨g, cap, cur, hv, _⟩
   ·have := hr.1; rw [hn, Nat.zero_mul] at this
    rw [List.eq_nil_of_length_eq_zero this] at hu; simp at hu
   ·injection hv with hv1
    rw [ha] at hv1; injection hv1 with hv1; subst hv1
    exact World.ownsRow.cells hr (g := g) (by rw [ha]; rfl) j u hu
 ·exact h.elim
theorem GsR.keep {w w' : World} {p : Pl} {o : Oj} (h : GsR w p o) (hb : ∀ g, g < w.heap.size → p.foot g → w'.heap[g]? = w.heap[g]?) : GsR w' p o := by
 unfold GsR at h ⊢
 refine ⟨h.1, ?_⟩
 have h := h.2
 split at h
 ·obtain ⟨h0, h2, h3⟩ := h
  refine ⟨h0, fun g hg => ?_, fun k y hy => (h3 k y hy).keep (fun g hg => hb g (h2 g hg) hg)⟩
  have e := hb g (h2 g hg) hg
  rw [Array.getElem?_eq_getElem (h2 g hg)] at e
  exact (Array.getElem?_eq_some_iff.1 e).1
 ·exact h
theorem GsR.read {ρ : Pls} {w : World} {p : Pl} {o : Oj} (h : GsR w p o) : (p.sz = o.sz ∧ p.n = o.n ∧ o.cs.cl.length = o.n * o.sz) ∧ ∃ vs, csR ρ o.cs vs ∧ At w p.A vs := by
 obtain ⟨hA, h⟩ := h
 split at h
 ·rename_i x l hcs
  obtain ⟨⟨e1, e2, e3, e4⟩, _⟩ := h
  refine ⟨⟨e1, e2, by rw [hcs]; simp [Cs.cl, e3, e4]⟩, List.replicate (l.length * x.sz) undef, ⟨by rw [hcs]; simp [Cs.cl], fun j y u hy hu => ?_⟩, fun ad ha => by rw [hA] at ha; cases ha⟩
  rw [hcs] at hy
  simp only [Cs.cl, List.getElem?_replicate] at hy
  split at hy
  ·injection hy with hy; subst hy; exact True.intro
  ·cases hy
 ·exact h.elim
theorem DpR.slc {w : World} {p : Pl} {o : Oj} (h : DpR w p o) : p.n ≤ p.cap ∧ p.cap ≤ maxLen ∧ (p.A = none → p.cap = 0) := by
 unfold DpR at h
 split at h
 ·obtain ⟨h0, h1, h2, A, cap, h3, h4, h5, h6, _⟩ := h
  rw [h1] at h3
  injection h3 with a b c
  subst a; subst c
  exact ⟨by rw [b]; exact h4, h5, h6⟩
 ·exact h.elim
theorem DpR.read {ρ : Pls} {w : World} {p : Pl} {o : Oj} (h : DpR w p o) : (p.sz = o.sz ∧ p.n = o.n ∧ o.cs.cl.length = o.n * o.sz) ∧ ∃ vs, csR ρ o.cs vs ∧ At w p.A vs := by
 unfold DpR at h
 split at h
 ·rename_i x l hcs
  obtain ⟨⟨e1, e2, e3, e4⟩, h1, h2, A, cap, h3, h4, h5, h6, h7, h8⟩ := h
  rw [h1] at h3
  injection h3 with a b c
  have hl : o.cs.cl.length = o.n * o.sz := by rw [hcs]; simp [Cs.cl, e3, e4]
  refine ⟨⟨e1, e2, hl⟩, (List.range (l.length * x.sz)).map (fun j => p.gv [(j / x.sz, j % x.sz)]), ⟨by rw [hcs]; simp [Cs.cl], fun j y u hy hu => ?_⟩, fun ad ha j u hu => ?_⟩
  ·rw [hcs] at hy
   simp only [Cs.cl, List.getElem?_replicate] at hy
   split at hy
   ·injection hy with hy; subst hy; exact True.intro
   ·cases hy
  ·rw [List.getElem?_map] at hu
   have hj : j < l.length * x.sz := by
    by_cases hj : j < l.length * x.sz
    ·exact hj
    ·rw [List.getElem?_eq_none (by simp; omega)] at hu; cases hu
   rw [List.getElem?_range hj] at hu
   injection hu with hu; subst hu
   have hp := x.sz_pos
   have hk : j / x.sz < l.length := Nat.div_lt_of_lt_mul (by rw [Nat.mul_comm]; exact hj)
   have := (h8 (j / x.sz) l[j / x.sz] (List.getElem?_eq_getElem hk)).1 ad (by rw [← a]; exact ha) (j % x.sz) (Nat.mod_lt _ hp)
   rw [Nat.div_add_mod'] at this
   exact this
 ·exact h.elim
theorem objR.keep {ρ : Pls} {w w' : World} {p : Pl} {o : Oj} (h : objR ρ w p o) (hb : ∀ g, g < w.heap.size → objAt p o g → w'.heap[g]? = w.heap[g]?) : objR ρ w' p o := by
 unfold objR at h ⊢
 unfold objAt at hb
 cases hk : o.kd with
 | dead => rw [hk] at h; exact h
 | ro fs =>
  simp only [hk] at h hb ⊢
  obtain ⟨h0, h1, vs, hc, hA⟩ := h
  refine ⟨h0, h1, vs, hc, hA.keep fun ad ha hne => ?_⟩
  have hl := csR.len hc
  have hn : p.n * p.sz ≠ 0 := by
   intro e
   rw [h0.2.2, ← h0.2.1, ← h0.1, e] at hl
   exact hne (List.eq_nil_of_length_eq_zero hl)
  cases hv : vs[0]? with
  | none => exact absurd (List.eq_nil_of_length_eq_zero (by rw [List.getElem?_eq_none_iff] at hv; omega)) hne
  | some u =>
   have := World.block_lt_of_cell? _ _ (hA ad ha 0 u hv)
   rw [block_add] at this
   exact hb _ this ⟨hn, ad, ha, rfl⟩
 | row =>
  simp only [hk] at h hb ⊢
  obtain ⟨h0, vs, hc, hr⟩ := h
  refine ⟨h0, vs, hc, hr.1, ?_⟩
  rcases hr.2 with hr2 | ⟨g, cap, cur, hv, hg0, hg, r⟩
  ·exact .inl hr2
  ·refine .inr ⟨g, cap, cur, hv, hg0, ?_, r⟩
   injection hv with hv1
   rw [hb g (Array.getElem?_eq_some_iff.1 hg).1 ⟨_, hv1, rfl⟩]; exact hg
 | blk =>
  simp only [hk] at h hb ⊢
  obtain ⟨h0, b, vs, hA, hc, hB⟩ := h
  refine ⟨h0, b, vs, hA, hc, ?_⟩
  unfold Blk
  rw [hb b hB.lt ⟨_, hA, rfl⟩]
  exact hB
 | dp fs =>
  simp only [hk] at h hb ⊢
  exact h.keep hb
 | gs fs =>
  simp only [hk] at h hb ⊢
  exact h.keep hb
 | od =>
  simp only [hk] at h hb ⊢
  exact h.keep hb
 | og =>
  simp only [hk] at h hb ⊢
  exact h.keep hb
theorem objR.read {ρ : Pls} {w : World} {p : Pl} {o : Oj} (h : objR ρ w p o) (hk : o.kd ≠ .dead) : (p.sz = o.sz ∧ p.n = o.n ∧ o.cs.cl.length = o.n * o.sz) ∧ ∃ vs, csR ρ o.cs vs ∧ At w p.A vs := by
 unfold objR at h
 cases hkd : o.kd with
 | dead => exact absurd hkd hk
 | ro fs => simp only [hkd] at h; exact ⟨h.1, h.2.2⟩
 | row =>
  simp only [hkd] at h
  obtain ⟨h0, vs, hc, hr⟩ := h
  refine ⟨h0, vs, hc, fun ad ha j u hu => ?_⟩
  rcases hr.2 with ⟨hv, hn⟩ | ⟨g, cap, cur, hv, _⟩
  ·have := hr.1; rw [hn, Nat.zero_mul] at this
   rw [List.eq_nil_of_length_eq_zero this] at hu; simp at hu
  ·injection hv with hv1
   rw [ha] at hv1; injection hv1 with hv1; subst hv1
   exact World.ownsRow.cells hr (g := g) (by rw [ha]; rfl) j u hu
 | blk =>
  simp only [hkd] at h
  obtain ⟨h0, b, vs, hA, hc, hB⟩ := h
  refine ⟨h0, vs, hc, fun ad ha j u hu => ?_⟩
  rw [hA] at ha; injection ha with ha; subst ha
  have e1 : (⟨b, 0, none⟩ : Addr).add j = ⟨b, j, none⟩ := by unfold Addr.add; split <;> simp_all
  rw [e1, hB.cell]
  simpa using hu
 | dp fs =>
  simp only [hkd] at h
  exact h.read
 | gs fs =>
  simp only [hkd] at h
  exact h.read
 | od =>
  simp only [hkd] at h
  exact h.read
 | og =>
  simp only [hkd] at h
  exact h.read
theorem objR.slc {ρ : Pls} {w : World} {p : Pl} {o : Oj} (h : objR ρ w p o) (hk : (∃ b, o.kd = .ro b) ∨ o.kd = .row ∨ ∃ b, o.kd = .dp b) : p.n ≤ p.cap ∧ p.cap ≤ maxLen ∧ (p.A = none → p.cap = 0) := by
 unfold objR at h
 rcases hk with ⟨b, hk⟩ | hk | ⟨b, hk⟩
 ·simp only [hk] at h; exact h.2.1
 ·simp only [hk] at h
  obtain ⟨h0, vs, hc, hr⟩ := h
  rcases hr.2 with ⟨hv, hn⟩ | ⟨g, cap, cur, hv, _, _, h1, h2, _⟩
  ·injection hv with a b c
   exact ⟨by omega, by rw [c]; simp [maxLen], fun _ => c⟩
  ·injection hv with a b c
   subst c
   exact ⟨h1, h2, fun e => by rw [e] at a; cases a⟩
 ·simp only [hk] at h; exact h.slc
abbrev Hp := List Oj
def HpR (ρ : Pls) (w : World) (H : Hp) : Prop := ∀ (i : Nat) (o : Oj), H[i]? = some o → objR ρ w (ρ i) o
def SepR (ρ : Pls) (H : Hp) : Prop := ∀ (i j : Nat) (a b : Oj) (g : Nat), i ≠ j → H[i]? = some a → H[j]? = some b → a.own = true → objAt (ρ i) a g → ¬ objAt (ρ j) b g
def OwnR (bs : Bs) (w0 : World) (ρ : Pls) (H : Hp) : Prop := ∀ (i : Nat) (a : Oj) (g : Nat), H[i]? = some a → a.fsh = true → objAt (ρ i) a g → w0.heap.size ≤ g ∨ bs g ∨ (a.own = false ∧ bs.q g)
theorem OwnR.o {bs : Bs} {w0 : World} {ρ : Pls} {H : Hp} (h : OwnR bs w0 ρ H) {i : Nat} {a : Oj} {g : Nat} (hi : H[i]? = some a) (ho : a.own = true) (hat : objAt (ρ i) a g) : w0.heap.size ≤ g ∨ bs g := by
 rcases h i a g hi (Oj.fsh_own ho) hat with h1 | h1 | ⟨h1, _⟩
 ·exact .inl h1
 ·exact .inr h1
 ·rw [ho] at h1; cases h1
theorem own3 {bs : Bs} {w0 : World} {g : Nat} {p r : Prop} (h : w0.heap.size ≤ g ∨ bs g ∨ (p ∧ bs.q g)) (hr : r) : w0.heap.size ≤ g ∨ bs g ∨ (r ∧ bs.q g) := h.imp_right (·.imp_right fun h => ⟨hr, h.2⟩)
theorem two3 {bs : Bs} {w0 : World} {g : Nat} {p : Prop} (h : w0.heap.size ≤ g ∨ bs g) : w0.heap.size ≤ g ∨ bs g ∨ p := h.imp_right .inl
abbrev Fr := List (Nat × AV)
structure S where
 fr : Fr
 gl : Fr
 H : Hp
def FrR (ρ : Pls) (fr : Fr) (a : Act) : Prop := ∀ t x, fr.lookup t = some x → avR ρ x (a.tmps.getD t undef)
def GlR (bs : Bs) (ρ : Pls) (gl : Fr) : Prop := ∀ t x, gl.lookup t = some x → avR ρ x (gvOf bs t)
def glk (gl : Fr) (g : Nat) : Option AV := match decide (g < 1000000) with | true => gl.lookup g | false => none
theorem glk_ok {bs : Bs} {ρ : Pls} {gl : Fr} {g : Nat} {x : AV} (h : glk gl g = some x) (hgl : GlR bs ρ gl) : gl.lookup g = some x ∧ avR ρ x (.pointer (some ⟨g, 0, none⟩)) := by
 unfold glk at h
 split at h
 ·rename_i hd
  simp only [decide_eq_true_eq] at hd
  have := hgl g x h
  unfold gvOf at this
  rw [if_pos hd] at this
  exact ⟨h, this⟩
 ·cases h
structure RelA (ρ : Pls) (bs : Bs) (w0 : World) (s : S) (a : Act) (w : World) : Prop where
 fr : FrR ρ s.fr a
 gl : GlR bs ρ s.gl
 hp : HpR ρ w s.H
 sep : SepR ρ s.H
 own : OwnR bs w0 ρ s.H
 kp : Kp bs w0 w
structure Rel (N : Nat) (bs : Bs) (w0 : World) (s : S) (a : Act) (w : World) : Prop where
 dfr : a.defers = []
 size : a.tmps.size = N
 ex : ∃ ρ, RelA ρ bs w0 s a w
end Go.Sx
end
section
namespace Go.Sx
open Go.RowKit Go.Ch
def Z.cl : Z → Cl
 | .int .u8 => .s (.u8 0)
 | .int .u32 => .s (.u32 0)
 | .int .u64 => .s (.u64 0)
 | .int k => .s (.k k 0)
 | .bool => .s (.b false)
 | .str => .s (.str [])
 | .nils => .nils
 | .ifc => .s (.v .nilIface)
 | .ptr => .s (.v (.pointer none))
theorem Z.cl_ok (ρ : Pls) (z : Z) : clR ρ z.cl z.val := by
 cases z with
 | int k => cases k <;> rfl
 | _ => rfl
def cv : Value → Option AV
 | .bool b => some (.c (.s (.b b)))
 | .int k n => match k with
  | .u8 => if 0 ≤ n ∧ n < 256 then some (.c (.s (.u8 (UInt8.ofNat n.toNat)))) else none
  | .u32 => if 0 ≤ n ∧ n < 4294967296 then some (.c (.s (.u32 (UInt32.ofNat n.toNat)))) else none
  | .u64 => if 0 ≤ n ∧ n < 18446744073709551616 then some (.c (.s (.u64 (UInt64.ofNat n.toNat)))) else none
  | _ => some (.c (.s (.k k n)))
 | .string s => some (.c (.s (.str s.data.toList)))
 | .nilIface => some (.c (.s (.v .nilIface)))
 | .slice a n c => match a with | none => (match n, c with | 0, 0 => some (.c .nils) | _, _ => none) | some _ => none
 | .pointer a => match a with | none => some (.c (.s (.v (.pointer none)))) | some _ => none
 | _ => none
theorem cv_ok {v : Value} {x : AV} (h : cv v = some x) (ρ : Pls) : avR ρ x v := by
 unfold cv at h
 split at h
 ·injection h with h; subst h; rfl
 ·split at h
  ·split at h
   ·rename_i hn; injection h with h; subst h
    show _ = bU _; unfold bU; simp; omega
   ·cases h
  ·split at h
   ·rename_i hn; injection h with h; subst h
    show _ = w32 _; unfold w32; simp; omega
   ·cases h
  ·split at h
   ·rename_i hn; injection h with h; subst h
    show _ = w64 _; unfold w64; simp; omega
   ·cases h
  ·injection h with h; subst h; rfl
 ·injection h with h; subst h; rfl
 ·injection h with h; subst h; rfl
 ·split at h
  ·split at h
   ·injection h with h; subst h; rfl
   ·cases h
  ·cases h
 ·split at h
  ·injection h with h; subst h; rfl
  ·cases h
 ·cases h
def ev0 (fr gl : Fr) : Operand → Option AV
 | .tmp t => fr.lookup t
 | .const v => cv v
 | .global g => glk gl g
 | .func f => some (.c (.s (.v (.func (.func f) #[] #[]))))
theorem ev0_ok {bs : Bs} {ρ : Pls} {fr gl : Fr} {a : Act} (h1 : FrR ρ fr a) (h2 : GlR bs ρ gl) (x : Operand) (v : AV) (h : ev0 fr gl x = some v) : avR ρ v (a.eval x) := by
 cases x with
 | tmp t => exact h1 t v h
 | const c => exact cv_ok h ρ
 | global g => exact (glk_ok h h2).2
 | func f => injection h with h; subst h; rfl
def live (H : Hp) (i : Nat) : Option Oj := match H[i]? with
 | none => none
 | some o => match o.kd with | .dead | .gs _ | .og => none | _ => some o
theorem live_ok {H : Hp} {i : Nat} {o : Oj} (h : live H i = some o) : H[i]? = some o ∧ o.kd ≠ .dead := by
 unfold live at h
 cases hi : H[i]? with
 | none => rw [hi] at h; cases h
 | some o' =>
  rw [hi] at h
  cases hk : o'.kd <;> simp only [hk] at h
  ·injection h with h; subst h; exact ⟨rfl, by rw [hk]; simp⟩
  ·injection h with h; subst h; exact ⟨rfl, by rw [hk]; simp⟩
  ·injection h with h; subst h; exact ⟨rfl, by rw [hk]; simp⟩
  ·cases h
  ·injection h with h; subst h; exact ⟨rfl, by rw [hk]; simp⟩
  ·cases h
  ·injection h with h; subst h; exact ⟨rfl, by rw [hk]; simp⟩
  ·cases h
theorem live_gs {H : Hp} {i : Nat} {o : Oj} (h : live H i = some o) (b : Bool) : o.kd ≠ .gs b := by
 intro hk
 unfold live at h
 split at h
 ·cases h
 ·split at h
  ·cases h
  ·cases h
  ·cases h
  ·rename_i h1 h2 h3
   injection h with h; subst h
   exact h2 _ hk
theorem live_og {H : Hp} {i : Nat} {o : Oj} (h : live H i = some o) : o.kd ≠ .og := by
 intro hk
 unfold live at h
 split at h
 ·cases h
 ·split at h
  ·cases h
  ·cases h
  ·cases h
  ·rename_i h1 h2 h3
   injection h with h; subst h
   exact h3 hk
def liveS (H : Hp) (i : Nat) : Option Oj := match H[i]? with
 | none => none
 | some o => match o.kd with | .ro _ | .row | .dp _ => some o | _ => none
theorem liveS_ok {H : Hp} {i : Nat} {o : Oj} (h : liveS H i = some o) : H[i]? = some o ∧ ((∃ b, o.kd = .ro b) ∨ o.kd = .row ∨ ∃ b, o.kd = .dp b) := by
 unfold liveS at h
 cases hi : H[i]? with
 | none => rw [hi] at h; cases h
 | some o' =>
  rw [hi] at h
  cases hk : o'.kd <;> simp only [hk] at h
  ·injection h with h; subst h; exact ⟨rfl, .inl ⟨_, hk⟩⟩
  ·injection h with h; subst h; exact ⟨rfl, .inr (.inl hk)⟩
  ·cases h
  ·cases h
  ·injection h with h; subst h; exact ⟨rfl, .inr (.inr ⟨_, hk⟩)⟩
  ·cases h
  ·cases h
  ·cases h
theorem nd {o : Oj} (h : (∃ b, o.kd = .ro b) ∨ o.kd = .row ∨ ∃ b, o.kd = .dp b) : o.kd ≠ .dead := by rcases h with ⟨_, h⟩ | h | ⟨_, h⟩ <;> rw [h] <;> simp
def liveR (H : Hp) (i : Nat) : Option Oj := match H[i]? with
 | none => none
 | some o => match o.kd with | .ro _ | .row => some o | _ => none
theorem liveR_ok {H : Hp} {i : Nat} {o : Oj} (h : liveR H i = some o) : liveS H i = some o ∧ H[i]? = some o ∧ ((∃ b, o.kd = .ro b) ∨ o.kd = .row) := by
 unfold liveR at h
 unfold liveS
 cases hi : H[i]? with
 | none => rw [hi] at h; cases h
 | some o' =>
  rw [hi] at h
  cases hk : o'.kd <;> simp only [hk] at h ⊢
  ·injection h with h; subst h; exact ⟨rfl, rfl, .inl ⟨_, hk⟩⟩
  ·injection h with h; subst h; exact ⟨rfl, rfl, .inr hk⟩
  ·cases h
  ·cases h
  ·cases h
  ·cases h
  ·cases h
  ·cases h
def Oj.deep (o : Oj) : Bool := match o.kd with | .dp _ | .gs _ | .od | .og => true | _ => false
theorem not_dp {ρ : Pls} {w : World} {p : Pl} {o : Oj} {l : List Cl} (h : objR ρ w p o) (hc : o.cs = .c l) : o.deep = false := by
 unfold objR at h
 unfold Oj.deep
 cases hk : o.kd <;> simp only [hk] at h ⊢
 ·unfold DpR at h
  rw [hc] at h
  exact h.elim
 ·unfold GsR at h
  rw [hc] at h
  exact h.2.elim
 ·unfold OdR at h
  rw [hc] at h
  exact h.elim
 ·unfold OgR at h
  rw [hc] at h
  exact h.2.elim
def dvD (H : Hp) (i : Nat) (p : Way) : Option (Σ y : Dsh, y.T) := match H[i]? with
 | none => none
 | some o => match o.kd, o.cs with | .dp _, .d x l => wayD o.e x l p | _, _ => none
theorem dvD_ok {ρ : Pls} {w : World} {H : Hp} (hp : HpR ρ w H) {i : Nat} {p : Way} {y : Dsh} {u : y.T} (h : dvD H i p = some ⟨y, u⟩) (hv : PV (ρ i).gv p) : ∃ c f, c f = p ∧ DR w (ρ i).foot (ρ i).gv y u c f := by
 unfold dvD at h
 split at h
 ·cases h
 ·rename_i o ho
  have hr := hp i o ho
  split at h
  ·rename_i x l hk hc
   unfold objR at hr
   simp only [hk] at hr
   unfold DpR at hr
   split at hr
   ·rename_i x' l' hc'
    rw [hc] at hc'
    cases hc'
    exact way_ok hr.2.2.2 p y u hv h
   ·exact hr.elim
  ·cases h
def mulS (k sz : Nat) : Nat := match sz with | 1 => k | _ => k * sz
theorem mulS_eq (k sz : Nat) : mulS k sz = k * sz := by unfold mulS; split <;> simp
def addO (off k : Nat) : Nat := match k with | 0 => off | _ => off + k
theorem addO_eq (off k : Nat) : addO off k = off + k := by unfold addO; split <;> simp
def oddA (off k : Nat) : Nat := match off with | 0 => k | _ => off + k
theorem oddA_eq (off k : Nat) : oddA off k = off + k := by unfold oddA; split <;> simp
def Cs.at (cs : Cs) (off : Nat) : Option Cl := match cs with
 | .b l => some (.s (.u8 (l.getD off 0)))
 | .w l => some (.s (.u32 (l.getD off 0)))
 | .q l => some (.s (.u64 (l.getD off 0)))
 | .z l => some (.s (.k .i64 (l.getD off 0)))
 | .c l => l[off]?
 | .d _ _ => none
 | .g _ _ _ _ => none
 | .p j js => some (.gi j (js.getD off 0))
theorem Cs.at_ok {cs : Cs} {off : Nat} {x : Cl} (h : cs.at off = some x) (hlt : off < cs.cl.length) : cs.cl[off]? = some x := by
 cases cs with
 | c l => exact h
 | d x l => cases h
 | g j n sz tl => cases h
 | _ =>
  injection h with h
  subst h
  simp [Cs.cl] at hlt
  simp [Cs.cl, hlt]
def Cs.part (cs : Cs) (off size : Nat) : Cs := match cs with
 | .b l => .b ((l.drop off).take size)
 | .w l => .w ((l.drop off).take size)
 | .q l => .q ((l.drop off).take size)
 | .z l => .z ((l.drop off).take size)
 | .c l => .c ((l.drop off).take size)
 | .d x l => .c (((List.replicate (l.length * x.sz) Cl.junk).drop off).take size)
 | .g j n sz tl => .c (((ghc j n sz ++ tl).drop off).take size)
 | .p j js => .p j ((js.drop off).take size)
theorem Cs.part_cl (cs : Cs) (off size : Nat) : (cs.part off size).cl = (cs.cl.drop off).take size := by
 cases cs <;> simp [Cs.part, Cs.cl]
def lenC (H : Hp) : Cl → Option Nat
 | .wh i => match liveS H i with | some o => some o.n | none => none
 | .sl _ _ n => some n
 | .nils => some 0
 | .dv i p => (match dvD H i p with
  | some ⟨.by _, t⟩ => some (List.length (α := UInt8) t)
  | some ⟨.wo _, t⟩ => some (List.length (α := UInt32) t)
  | some ⟨.sl _ x, t⟩ => some (List.length (α := x.T) t)
  | _ => none)
 | _ => none
theorem lenC_ok {ρ : Pls} {w : World} {H : Hp} (hp : HpR ρ w H) {x : Cl} {n : Nat} (h : lenC H x = some n) {v : Value} (hv : clR ρ x v) : ∃ A c, v = .slice A n c := by
 cases x with
 | wh i =>
  simp only [lenC] at h
  cases hl : liveS H i with
  | none => rw [hl] at h; cases h
  | some o =>
   rw [hl] at h; injection h with h
   obtain ⟨h1, h2⟩ := liveS_ok hl
   have h3 := (hp i o h1).read (nd h2)
   exact ⟨_, _, by rw [hv, h3.1.2.1, h]⟩
 | sl i lo m =>
  injection h with h
  obtain ⟨_, A, c, hv, _⟩ := hv
  exact ⟨A, c, by rw [hv, h]⟩
 | nils => injection h with h; exact ⟨none, 0, by rw [hv, h]⟩
 | dv i p =>
  simp only [lenC] at h
  split at h
  ·rename_i e t hd
   injection h with h; subst h
   obtain ⟨c, f, hc, A, cap, h1, _⟩ := dvD_ok hp hd hv.2.1
   exact ⟨A, cap, by rw [hv.1, ← hc, h1]⟩
  ·rename_i e t hd
   injection h with h; subst h
   obtain ⟨c, f, hc, A, cap, h1, _⟩ := dvD_ok hp hd hv.2.1
   exact ⟨A, cap, by rw [hv.1, ← hc, h1]⟩
  ·rename_i e x t hd
   injection h with h; subst h
   obtain ⟨c, f, hc, A, cap, h1, _⟩ := dvD_ok hp hd hv.2.1
   exact ⟨A, cap, by rw [hv.1, ← hc, h1]⟩
  ·cases h
 | _ => cases h
theorem At.drop {w : World} {A : Option Addr} {vs : List Value} (h : At w A vs) (k n : Nat) : At w (A.map (·.add k)) ((vs.drop k).take n) := by
 intro ad ha j u hu
 cases A with
 | none => cases ha
 | some a0 =>
  injection ha with ha; subst ha
  rw [add_add]
  rw [List.getElem?_take] at hu
  split at hu
  ·rw [List.getElem?_drop] at hu
   exact h a0 rfl _ u hu
  ·cases hu
structure SlR (w : World) (v : Value) (n sz : Nat) (vs : List Value) : Prop where
 len : vs.length = n * sz
 ex : ∃ A c, v = .slice A n c ∧ n ≤ c ∧ c ≤ maxLen ∧ (A = none → c = 0) ∧ At w A vs
theorem SlR.sl {w : World} {v : Value} {n : Nat} {vs : List Value} (h : SlR w v n 1 vs) : Sl w w.heap.size v vs := by
 obtain ⟨hl, A, c, rfl, h1, h2, h3, h4⟩ := h
 rw [Nat.mul_one] at hl
 exact ⟨Nat.le_refl _, A, c, by rw [hl], by omega, h2, h3, fun ad ha j u hu => ⟨by have := World.block_lt_of_cell? _ _ (h4 ad ha j u hu); rwa [block_add] at this, h4 ad ha j u hu⟩⟩
def slc (H : Hp) : Cl → Option (Oj × Nat × Nat)
 | .wh i => match liveS H i with | some o => some (o, 0, o.n) | none => none
 | .sl i lo n => match liveS H i with | some o => some (o, lo, n) | none => none
 | .dv i p => (match dvD H i p with
  | some ⟨.by e, t⟩ => some (⟨.ro false, e, 1, List.length (α := UInt8) t, .b t⟩, 0, List.length (α := UInt8) t)
  | some ⟨.wo e, t⟩ => some (⟨.ro false, e, 1, List.length (α := UInt32) t, .w t⟩, 0, List.length (α := UInt32) t)
  | _ => none)
 | _ => none
theorem slc_ok {ρ : Pls} {w : World} {H : Hp} (hp : HpR ρ w H) {x : Cl} {o : Oj} {lo n : Nat} (h : slc H x = some (o, lo, n)) {v : Value} (hv : clR ρ x v) :
  lo + n ≤ o.n ∧ o.cs.cl.length = o.n * o.sz ∧ ∃ vs, csR ρ o.cs vs ∧ SlR w v n o.sz ((vs.drop (lo * o.sz)).take (n * o.sz)) := by
 cases x with
 | wh i =>
  simp only [slc] at h
  cases hl : liveS H i with
  | none => rw [hl] at h; cases h
  | some o' =>
   rw [hl] at h; injection h with h
   simp only [Prod.mk.injEq] at h
   obtain ⟨rfl, rfl, rfl⟩ := h
   obtain ⟨h1, h2⟩ := liveS_ok hl
   obtain ⟨⟨e1, e2, e3⟩, vs, hc, hA⟩ := (hp i o' h1).read (nd h2)
   obtain ⟨g1, g2, g3⟩ := (hp i o' h1).slc h2
   have hlen : vs.length = o'.n * o'.sz := by rw [hc.len, e3]
   refine ⟨by omega, e3, vs, hc, by simp [hlen], _, _, by rw [hv, e2], by omega, g2, g3, ?_⟩
   rw [Nat.zero_mul, List.drop_zero, List.take_of_length_le (by omega)]
   exact hA
 | sl i lo' m =>
  simp only [slc] at h
  cases hl : liveS H i with
  | none => rw [hl] at h; cases h
  | some o' =>
   rw [hl] at h; injection h with h
   simp only [Prod.mk.injEq] at h
   obtain ⟨rfl, rfl, rfl⟩ := h
   obtain ⟨h1, h2⟩ := liveS_ok hl
   obtain ⟨⟨e1, e2, e3⟩, vs, hc, hA⟩ := (hp i o' h1).read (nd h2)
   have hlen : vs.length = o'.n * o'.sz := by rw [hc.len, e3]
   obtain ⟨g0, A, c, rfl, g1, g2, g3, g4⟩ := hv
   have hle : lo' * o'.sz + m * o'.sz ≤ o'.n * o'.sz := by rw [← Nat.add_mul]; exact Nat.mul_le_mul_right _ (by omega)
   refine ⟨by omega, e3, vs, hc, by rw [List.length_take, List.length_drop]; omega, A, c, rfl, g1, g2, g3, fun ad ha j u hu => ?_⟩
   have hm : 0 < m := by
    rcases Nat.eq_zero_or_pos m with hm | hm
    ·subst hm; simp at hu
    ·exact hm
   have h5 := g4 hm
   rw [e1] at h5
   exact (hA.drop _ _) ad (by rw [← h5]; exact ha) j u hu
 | dv i p =>
  simp only [slc] at h
  split at h
  ·rename_i e t hd
   change List UInt8 at t
   injection h with h
   simp only [Prod.mk.injEq] at h
   obtain ⟨rfl, rfl, rfl⟩ := h
   obtain ⟨c, f, hc, A, cap, h1, h2, h3, h4, h5, h6⟩ := dvD_ok hp hd hv.2.1
   refine ⟨Nat.le_of_eq (Nat.zero_add _), by simp [Cs.cl], t.map bU, csR_b.2 rfl, by simp, A, cap, by rw [hv.1, ← hc, h1], h2, h3, h4, ?_⟩
   rw [Nat.zero_mul, List.drop_zero, Nat.mul_one, List.take_of_length_le (Nat.le_of_eq (List.length_map bU))]
   exact h6
  ·rename_i e t hd
   change List UInt32 at t
   injection h with h
   simp only [Prod.mk.injEq] at h
   obtain ⟨rfl, rfl, rfl⟩ := h
   obtain ⟨c, f, hc, A, cap, h1, h2, h3, h4, h5, h6⟩ := dvD_ok hp hd hv.2.1
   refine ⟨Nat.le_of_eq (Nat.zero_add _), by simp [Cs.cl], t.map w32, csR_w.2 rfl, by simp, A, cap, by rw [hv.1, ← hc, h1], h2, h3, h4, ?_⟩
   rw [Nat.zero_mul, List.drop_zero, Nat.mul_one, List.take_of_length_le (Nat.le_of_eq (List.length_map w32))]
   exact h6
  ·cases h
 | _ => cases h
def giD (H : Hp) (i k : Nat) : Option (List UInt8) := match H[i]? with
 | some o => (match o.kd, o.cs with
  | .dp _, .d (.by _) l => some (List.getD (α := List UInt8) l k [])
  | .gs _, .d (.by _) l => some (List.getD (α := List UInt8) l k [])
  | _, _ => none)
 | none => none
theorem giD_ok {ρ : Pls} {w : World} {H : Hp} (hp : HpR ρ w H) {i k : Nat} {l : List UInt8} (h : giD H i k = some l) {v : Value} (hv : clR ρ (.gi i k) v) :
  ∃ A cap, v = .slice A l.length cap ∧ l.length ≤ cap ∧ cap ≤ maxLen ∧ (A = none → cap = 0) ∧ (∀ ad, A = some ad → 0 < l.length → (ρ i).foot ad.block) ∧ At w A (l.map bU) := by
 obtain ⟨hv1, hv2, _⟩ := hv
 unfold giD at h
 split at h
 ·rename_i o ho
  have hr := hp i o ho
  split at h
  ·rename_i b e t hk hc
   injection h with h
   unfold objR at hr
   simp only [hk] at hr
   unfold DpR at hr
   rw [hc] at hr
   obtain ⟨⟨e1, e2, e3, e4⟩, h1, h2, A, cap, h3, h4, h5, h6, h7, h8⟩ := hr
   have hkl : k < List.length (α := List UInt8) t := Nat.lt_of_lt_of_eq hv2 (e2.trans e3)
   have := (h8 k (List.getD (α := List UInt8) t k []) (gq_getD hkl)).2
   subst h
   rw [hv1]
   exact this
  ·rename_i b e t hk hc
   injection h with h
   unfold objR at hr
   simp only [hk] at hr
   unfold GsR at hr
   rw [hc] at hr
   obtain ⟨_, ⟨e1, e2, e3, e4⟩, h2, h8⟩ := hr
   have hkl : k < List.length (α := List UInt8) t := Nat.lt_of_lt_of_eq hv2 (e2.trans e3)
   have := h8 k (List.getD (α := List UInt8) t k []) (gq_getD hkl)
   subst h
   rw [hv1]
   exact this
  ·cases h
 ·cases h
def viewB (H : Hp) (x : Cl) : Option (List UInt8) := match x with
 | .nils => some []
 | .wh i => match liveS H i with | some o => (match o.sz, o.cs with | 1, .b l => some l | _, _ => none) | none => none
 | .sl i lo n => match liveS H i with | some o => (match o.sz, o.cs with | 1, .b l => some ((l.drop lo).take n) | _, _ => none) | none => none
 | .dv i p => (match dvD H i p with | some ⟨.by _, t⟩ => some t | _ => none)
 | .gi i k => giD H i k
 | _ => none
theorem viewB_ok {ρ : Pls} {w : World} {H : Hp} (hp : HpR ρ w H) {x : Cl} {l : List UInt8} (h : viewB H x = some l) {v : Value} (hv : clR ρ x v) : Sl w w.heap.size v (l.map bU) := by
 cases x with
 | wh i =>
  simp only [viewB] at h
  cases hl : liveS H i with
  | none => rw [hl] at h; cases h
  | some o =>
   simp only [hl] at h
   split at h
   ·rename_i hs hcs
    injection h with h; subst h
    obtain ⟨h1, h2, vs, hc, hS⟩ := slc_ok hp (x := .wh i) (o := o) (lo := 0) (n := o.n) (by simp [slc, hl]) hv
    rw [hs] at hS h2
    rw [hcs] at hc h2
    obtain rfl := csR_b.1 hc
    simp [Cs.cl] at h2
    have := hS.sl
    rw [List.take_of_length_le (by simp; omega)] at this
    simpa using this
   ·cases h
 | sl i lo n =>
  simp only [viewB] at h
  cases hl : liveS H i with
  | none => rw [hl] at h; cases h
  | some o =>
   simp only [hl] at h
   split at h
   ·rename_i hs hcs
    injection h with h; subst h
    obtain ⟨h1, h2, vs, hc, hS⟩ := slc_ok hp (x := .sl i lo n) (o := o) (lo := lo) (n := n) (by simp [slc, hl]) hv
    rw [hs] at hS
    rw [hcs] at hc
    obtain rfl := csR_b.1 hc
    have := hS.sl
    simpa [List.map_take, List.map_drop] using this
   ·cases h
 | nils => injection h with h; subst h; rw [show v = _ from hv]; exact Sl.nil w _ (Nat.le_refl _)
 | dv i p =>
  simp only [viewB] at h
  split at h
  ·rename_i e t hd
   change List UInt8 at t
   injection h with h; subst h
   obtain ⟨h1, h2, vs, hc, hS⟩ := slc_ok hp (x := .dv i p) (o := ⟨.ro false, e, 1, List.length (α := UInt8) t, .b t⟩) (lo := 0) (n := List.length (α := UInt8) t) (by simp only [slc, hd]) hv
   obtain rfl := csR_b.1 hc
   have := hS.sl
   rw [Nat.zero_mul, List.drop_zero, Nat.mul_one, List.take_of_length_le (Nat.le_of_eq (List.length_map bU))] at this
   exact this
  ·cases h
 | gi i k =>
  obtain ⟨A, cap, rfl, h1, h2, h3, _, h4⟩ := giD_ok hp h hv
  refine ⟨Nat.le_refl _, A, cap, by rw [List.length_map], by rw [List.length_map]; exact h1, h2, h3, fun ad ha j u hu => ?_⟩
  have hc := h4 ad ha j u hu
  have := World.block_lt_of_cell? _ _ hc
  rw [block_add] at this
  exact ⟨this, hc⟩
 | _ => cases h
end Go.Sx
end
section
namespace Go.Sx
open Go.RowKit Go.Ch
def isAggT : Td → Bool | .st _ | .arr _ _ => true | _ => false
def isConst : Operand → Bool | .const _ => true | _ => false
def opB (op : BinOp) (g : List Prop) (b : Bool) : Option (List Prop × Sc) := match op with
 | .eql => some (g, .b b)
 | .neq => some (g, .b (!b))
 | _ => none
def cmpT (T : Tab) (t : TypeId) (k : IntKind) : Bool := match T t with
 | some ti => (match ti.d with | .int k' => decide (k = k') && ti.cmp | _ => false)
 | none => false
def ifcT (T : Tab) (t : TypeId) : Bool := match T t with
 | some ti => (match ti.d with | .ifc => true | _ => false)
 | none => false
def boolT (T : Tab) (t : TypeId) : Bool := match T t with
 | some ti => (match ti.d with | .bool => true | _ => false)
 | none => false
def binEr (T : Tab) (op : BinOp) (t : TypeId) (cst : Bool) (t1 : TypeId) (k1 : IntKind) (o : Option Int) (y : Sc) : Option (List Prop × Sc) :=
 match ifcT T t with
 | false => none
 | true => match y with
  | .v v => (match v with | .nilIface => (match cst with | true => opB op [] o.isNone | false => none) | _ => none)
  | .er t2 k2 o2 => (match decide (t1 = t2) && (decide (k1 = k2) && cmpT T t1 k1) with | true => opB op [¬ (o = none ∧ o2 = none)] (o == o2) | false => none)
  | _ => none
def binx (T : Tab) (op : BinOp) (t : TypeId) (cst : Bool) (x y : Sc) : Option (List Prop × Sc) :=
 match op with
 | .shl => (match y.int? with | some n => shx .shl x n | none => none)
 | .shr => (match y.int? with | some n => shx .shr x n | none => none)
 | _ => match x with
  | .k kd a => (match y with | .k kd' c => (match decide (kd = kd') with | true => binK op kd a c | false => none) | _ => none)
  | .u8 a => (match y with | .u8 c => bin8 op a c | _ => none)
  | .u32 a => (match y with | .u32 c => bin32 op a c | _ => none)
  | .u64 a => (match y with | .u64 c => bin64 op a c | _ => none)
  | .str a => (match y with | .str c => binS op a c | _ => none)
  | .b a => (match y with | .b c => (match boolT T t with | true => opB op [] (a == c) | false => none) | _ => none)
  | .er t1 k1 o => binEr T op t cst t1 k1 o y
  | .v _ => none
section
variable {P : Program} {T : Tab}
theorem eq_er_nil (t t1 : TypeId) (ms) (k : IntKind) (ht : P.underlying t = some (.interface ms)) (o : Option Int) (w : World) :
  (Op.equal t (Sc.er t1 k o).val .nilIface).run P w = .ok o.isNone w := by
 cases o with
 | none =>
  unfold Op.equal Op.maxDepth Op.equalIn
  rw [Sem.run_bind, run_underlying ht w]
  simp [Sc.val]
 | some n =>
  unfold Op.equal Op.maxDepth Op.equalIn
  rw [Sem.run_bind, run_underlying ht w]
  simp [Sc.val]
theorem eq_er_er (t t1 : TypeId) (ms) (k : IntKind) (ht : P.underlying t = some (.interface ms)) (h1 : P.underlying t1 = some (.int k)) {i : TypeInfo} (hi : P.info? t1 = some i) (hc : i.comparable = true) (o o' : Option Int) (w : World) :
  (Op.equal t (Sc.er t1 k o).val (Sc.er t1 k o').val).run P w = .ok (o == o') w := by
 cases o with
 | none =>
  cases o' with
  | none =>
   unfold Op.equal Op.maxDepth Op.equalIn
   rw [Sem.run_bind, run_underlying ht w]
   simp [Sc.val]
  | some m =>
   unfold Op.equal Op.maxDepth Op.equalIn
   rw [Sem.run_bind, run_underlying ht w]
   simp [Sc.val]
 | some n =>
  cases o' with
  | none =>
   unfold Op.equal Op.maxDepth Op.equalIn
   rw [Sem.run_bind, run_underlying ht w]
   simp [Sc.val]
  | some m =>
   unfold Op.equal Op.maxDepth
   simp only [Sc.val]
   rw [run_equalIn_iface_int 9998 n m ht h1 hi hc]
   simp
theorem cmpT_ok (hT : TabOk P T) {t : TypeId} {k : IntKind} (h : cmpT T t k = true) : P.underlying t = some (.int k) ∧ ∃ i, P.info? t = some i ∧ i.comparable = true := by
 unfold cmpT at h
 cases hti : T t with
 | none => simp [hti] at h
 | some ti =>
  rw [hti] at h
  cases hd : ti.d <;> simp [hd] at h
  obtain ⟨rfl, hc⟩ := h
  obtain ⟨i, hi, _, _, h3, _⟩ := (hT.at hti).i
  rw [hc, Bool.and_eq_true] at h3
  exact ⟨(hT.at hti).int hd, i, hi, h3.1⟩
theorem ifcT_ok (hT : TabOk P T) {t : TypeId} (h : ifcT T t = true) : ∃ ms, P.underlying t = some (.interface ms) := by
 unfold ifcT at h
 cases hti : T t with
 | none => simp [hti] at h
 | some ti =>
  rw [hti] at h
  cases hd : ti.d <;> simp [hd] at h
  exact (hT.at hti).ifc hd
theorem boolT_ok (hT : TabOk P T) {t : TypeId} (h : boolT T t = true) : P.underlying t = some .bool := by
 unfold boolT at h
 cases hti : T t with
 | none => simp [hti] at h
 | some ti =>
  rw [hti] at h
  cases hd : ti.d <;> simp [hd] at h
  exact (hT.at hti).bool hd
theorem opB_ok {op : BinOp} {g g' : List Prop} {b : Bool} {z : Sc} (h : opB op g b = some (g', z)) : g = g' ∧ ((op = .eql ∧ z = .b b) ∨ (op = .neq ∧ z = .b (!b))) := by
 cases op <;> simp [opB] at h
 ·exact ⟨h.1, .inl ⟨rfl, h.2.symm⟩⟩
 ·exact ⟨h.1, .inr ⟨rfl, h.2.symm⟩⟩
def nInt : Value → Bool | .int _ _ | .string _ | .float _ _ | .complex _ _ _ | .pointer _ => false | _ => true
theorem run_eqOp {op : BinOp} {t : TypeId} {ex ey : Operand} {x y : Value} {b : Bool} {z : Sc} {w : World} (hx : nInt x = true) (hg : ∀ op, (eqGuard op t ex ey x y).run P w = .ok () w)
  (he : (Op.equal t x y).run P w = .ok b w) (h : (op = .eql ∧ z = .b b) ∨ (op = .neq ∧ z = .b (!b))) : binRun P op t ex ey x y w = .ok z.val w := by
 rcases h with ⟨rfl, rfl⟩ | ⟨rfl, rfl⟩ <;> simp only [binRun, Sem.run_bind, hg, Result.andThen_ok] <;> cases x <;> simp [nInt] at hx <;> simp [binOp, he, Sc.val]
theorem nInt_er (t1 : TypeId) (k : IntKind) (o : Option Int) : nInt (Sc.er t1 k o).val = true := by cases o <;> rfl
theorem binEr_ok (hT : TabOk P T) {op : BinOp} {t t1 : TypeId} {k1 : IntKind} {o : Option Int} {ex ey : Operand} {y : Sc} {g : List Prop} {z : Sc} (h : binEr T op t (isConst ex || isConst ey) t1 k1 o y = some (g, z)) (hg : allP g) (w : World) :
  binRun P op t ex ey (Sc.er t1 k1 o).val y.val w = .ok z.val w := by
 have hsome : ∀ (op : BinOp) (t1 : TypeId) (v v' : Value), (eqGuard op t ex ey (.iface t1 v) v').run P w = .ok () w := by
  intro op t1 v v'
  cases op <;> simp [eqGuard]
 have hsome' : ∀ (op : BinOp) (t1 : TypeId) (v : Value), (eqGuard op t ex ey .nilIface (.iface t1 v)).run P w = .ok () w := by
  intro op t1 v
  cases op <;> simp [eqGuard]
 unfold binEr at h
 cases hi : ifcT T t with
 | false => simp [hi] at h
 | true =>
  obtain ⟨ms, hms⟩ := ifcT_ok hT hi
  simp only [hi] at h
  cases y with
  | v v =>
   cases v <;> simp only [reduceCtorEq] at h
   cases hc : (isConst ex || isConst ey) with
   | false => simp [hc] at h
   | true =>
    simp only [hc] at h
    obtain ⟨rfl, h2⟩ := opB_ok h
    refine run_eqOp (nInt_er _ _ _) (fun op => ?_) (eq_er_nil t t1 ms k1 hms o w) h2
    cases o with
    | none => cases op <;> simp [eqGuard, Sc.val] <;> (cases ex <;> cases ey <;> simp_all [isConst])
    | some n => exact hsome _ _ _ _
  | er t2 k2 o2 =>
   simp only at h
   cases hc : (decide (t1 = t2) && (decide (k1 = k2) && cmpT T t1 k1)) with
   | false => simp [hc] at h
   | true =>
    simp only [hc] at h
    simp only [Bool.and_eq_true, decide_eq_true_eq] at hc
    obtain ⟨rfl, rfl, hc⟩ := hc
    obtain ⟨rfl, h2⟩ := opB_ok h
    obtain ⟨h3, i, h4, h5⟩ := cmpT_ok hT hc
    refine run_eqOp (nInt_er _ _ _) (fun op => ?_) (eq_er_er t t1 ms k1 hms h3 h4 h5 o o2 w) h2
    simp only [allP] at hg
    cases o with
    | none => cases o2 with
     | none => simp at hg
     | some m => exact hsome' _ _ _
    | some n => exact hsome _ _ _ _
  | _ => simp at h
theorem binx_ok (hT : TabOk P T) {op : BinOp} {t : TypeId} {ex ey : Operand} {x y : Sc} {g : List Prop} {z : Sc} (h : binx T op t (isConst ex || isConst ey) x y = some (g, z)) (hg : allP g) (w : World) :
  binRun P op t ex ey x.val y.val w = .ok z.val w := by
 have hsh : ∀ (op' : BinOp), (match y.int? with | some n => shx op' x n | none => none) = some (g, z) → binRun P op' t ex ey x.val y.val w = .ok z.val w := by
  intro op' h
  cases hy : y.int? with
  | none => rw [hy] at h; cases h
  | some n =>
   rw [hy] at h
   obtain ⟨kd, _, hv⟩ := Sc.int_val hy
   rw [hv]
   exact shx_ok h hg t ex ey w
 unfold binx at h
 split at h
 ·exact hsh _ h
 ·exact hsh _ h
 ·cases x with
  | k kd a =>
   cases y <;> simp only [reduceCtorEq] at h
   rename_i kd' c
   by_cases hk : kd = kd'
   ·subst hk
    simp only [decide_true] at h
    exact binK_ok h hg t ex ey w
   ·simp [hk] at h
  | u8 a => cases y <;> simp only [reduceCtorEq] at h; exact bin8_ok h hg t ex ey w
  | u32 a => cases y <;> simp only [reduceCtorEq] at h; exact bin32_ok h hg t ex ey w
  | u64 a => cases y <;> simp only [reduceCtorEq] at h; exact bin64_ok h hg t ex ey w
  | str a => cases y <;> simp only [reduceCtorEq] at h; exact binS_ok h hg t ex ey w
  | b a =>
   cases y <;> simp only [reduceCtorEq] at h
   rename_i c
   cases hb : boolT T t with
   | false => simp [hb] at h
   | true =>
    simp only [hb] at h
    obtain ⟨rfl, h2⟩ := opB_ok h
    have h3 := boolT_ok hT hb
    refine run_eqOp rfl (fun op => by cases op <;> simp [eqGuard, Sc.val]) ?_ h2
    unfold Op.equal Op.maxDepth Op.equalIn
    rw [Sem.run_bind, run_underlying h3 w]
    simp [Sc.val]
  | er t1 k1 o => exact binEr_ok hT h hg w
  | v v => simp at h
end
end Go.Sx
end
section
namespace Go.Sx
open Go.RowKit Go.Ch
def cvI (k : IntKind) (x : Sc) : Option (List Prop × Sc) := match k with
 | .u8 => (match x with | .k _ n => some ([], .u8 (UInt8.ofInt n)) | .u8 a => some ([], .u8 a) | .u32 a => some ([], .u8 a.toUInt8) | .u64 a => some ([], .u8 a.toUInt8) | _ => none)
 | .u32 => (match x with | .k _ n => some ([], .u32 (UInt32.ofInt n)) | .u8 a => some ([], .u32 a.toUInt32) | .u32 a => some ([], .u32 a) | .u64 a => some ([], .u32 a.toUInt32) | _ => none)
 | .u64 => (match x with | .k _ n => some ([], .u64 (UInt64.ofInt n)) | .u8 a => some ([], .u64 a.toUInt64) | .u32 a => some ([], .u64 a.toUInt64) | .u64 a => some ([], .u64 a) | _ => none)
 | .i64 => (match x with | .k _ n => some ([okI .i64 n], .k .i64 n) | .u8 a => some ([], .k .i64 (a.toNat : Int)) | .u32 a => some ([], .k .i64 (a.toNat : Int)) | .u64 a => some ([], .k .i64 (IntKind.i64.wrap (a.toNat : Int))) | _ => none)
 | k => (match x with | .k _ n => some ([], .k k (k.wrap n)) | .u8 a => some ([], .k k (k.wrap (a.toNat : Int))) | .u32 a => some ([], .k k (k.wrap (a.toNat : Int))) | .u64 a => some ([], .k k (k.wrap (a.toNat : Int))) | _ => none)
def convx (T : Tab) (s t : TypeId) (x : Sc) : Option (List Prop × Sc) := match T s, T t with
 | some ts, some tt => (match tt.d with
  | .int k => cvI k x
  | .str => (match ts.d, x with | .str, .str l => some ([], .str l) | _, _ => none)
  | _ => none)
 | _, _ => none
section
variable {P : Program} {T : Tab}
theorem ofInt8V (n : Int) : bU (UInt8.ofInt n) = .int .u8 (IntKind.u8.wrap n) := by
 unfold bU
 rw [wrap8z]
 congr 1
 rw [show UInt8.ofInt n = UInt8.ofNat (n % 256).toNat from rfl]
 simp
 omega
theorem ofInt32V (n : Int) : w32 (UInt32.ofInt n) = .int .u32 (IntKind.u32.wrap n) := by
 unfold w32
 rw [wrap32z]
 congr 1
 rw [show UInt32.ofInt n = UInt32.ofNat (n % 4294967296).toNat from rfl]
 simp
 omega
theorem ofInt64V (n : Int) : w64 (UInt64.ofInt n) = .int .u64 (IntKind.u64.wrap n) := by
 unfold w64
 rw [wrap64z]
 congr 1
 rw [show UInt64.ofInt n = UInt64.ofNat (n % 18446744073709551616).toNat from rfl]
 simp
 omega
theorem cvI_ok {k : IntKind} {x z : Sc} {g : List Prop} (h : cvI k x = some (g, z)) (hg : allP g) : ∃ kd n, x.val = .int kd n ∧ z.val = .int k (k.wrap n) := by
 cases x with
 | k kd n =>
  refine ⟨kd, n, rfl, ?_⟩
  cases k <;> simp only [cvI] at h <;> injection h with h <;> simp only [Prod.mk.injEq] at h <;> obtain ⟨rfl, rfl⟩ := h
  case u8 => exact ofInt8V n
  case u32 => exact ofInt32V n
  case u64 => exact ofInt64V n
  case i64 => simp only [allP, okI] at hg; simp only [Sc.val, hg]
  all_goals rfl
 | u8 a =>
  refine ⟨.u8, a.toNat, rfl, ?_⟩
  have := lt8 a
  cases k <;> simp only [cvI] at h <;> injection h with h <;> simp only [Prod.mk.injEq] at h <;> obtain ⟨rfl, rfl⟩ := h
  case u8 => simp only [Sc.val, bU, wrap8n]; congr 2; omega
  case u32 => simp only [Sc.val, w32, wrap32n]; congr 2; simp <;> omega
  case u64 => simp only [Sc.val, w64, wrap64n]; congr 2; simp <;> omega
  case i64 => simp only [Sc.val]; congr 1; rw [IntWalk.i64_in _ (by omega)]
  all_goals rfl
 | u32 a =>
  refine ⟨.u32, a.toNat, rfl, ?_⟩
  have := lt32 a
  cases k <;> simp only [cvI] at h <;> injection h with h <;> simp only [Prod.mk.injEq] at h <;> obtain ⟨rfl, rfl⟩ := h
  case u8 => simp only [Sc.val, bU, wrap8n]; simp
  case u32 => simp only [Sc.val, w32, wrap32n]; congr 2; omega
  case u64 => simp only [Sc.val, w64, wrap64n]; congr 2; simp <;> omega
  case i64 => simp only [Sc.val]; congr 1; rw [IntWalk.i64_in _ (by omega)]
  all_goals rfl
 | u64 a =>
  refine ⟨.u64, a.toNat, rfl, ?_⟩
  have := lt64 a
  cases k <;> simp only [cvI] at h <;> injection h with h <;> simp only [Prod.mk.injEq] at h <;> obtain ⟨rfl, rfl⟩ := h
  case u8 => simp only [Sc.val, bU, wrap8n]; simp
  case u32 => simp only [Sc.val, w32, wrap32n]; simp
  case u64 => simp only [Sc.val, w64, wrap64n]; congr 2; omega
  all_goals rfl
 | _ => cases k <;> simp [cvI] at h
theorem run_convII {s t : TypeId} {ds : TypeDesc} {k k' : IntKind} (hs : P.underlying s = some ds) (ht : P.underlying t = some (.int k')) (a : Int) (w : World) : (convert s t (.int k a)).run P w = .ok (.int k' (k'.wrap a)) w := run_convi hs ht a w
theorem convx_ok (hT : TabOk P T) {s t : TypeId} {x z : Sc} {g : List Prop} (h : convx T s t x = some (g, z)) (hg : allP g) (w : World) : (convert s t x.val).run P w = .ok z.val w := by
 unfold convx at h
 cases hs : T s with
 | none => simp [hs] at h
 | some ts =>
  cases ht : T t with
  | none => simp [hs, ht] at h
  | some tt =>
   simp only [hs, ht] at h
   cases hd : tt.d <;> simp only [hd, reduceCtorEq] at h
   case int k =>
    obtain ⟨ds, e1, _⟩ := (hT.at hs).d
    have e2 := (hT.at ht).int hd
    obtain ⟨kd, n, h1, h2⟩ := cvI_ok h hg
    rw [h1, h2]
    exact run_convII e1 e2 n w
   case str =>
    cases hds : ts.d <;> simp only [hds, reduceCtorEq] at h
    cases x <;> simp only [reduceCtorEq] at h
    injection h with h; simp only [Prod.mk.injEq] at h; obtain ⟨rfl, rfl⟩ := h
    have e1 := (hT.at hs).str hds
    have e2 := (hT.at ht).str hd
    unfold convert
    rw [Sem.run_bind, run_underlying e1 w, Result.andThen_ok, Sem.run_bind, run_underlying e2 w, Result.andThen_ok]
    simp [Sc.val]
variable {ρ : Pls} {w : World} {H : Hp} {ae : Operand → Option AV} {ev : Operand → Value}
def intA (x : AV) : Option Int := match x with | .c c => (match c with | .s s => s.int? | _ => none) | _ => none
theorem intA_ok {x : AV} {n : Int} (h : intA x = some n) {v : Value} (hv : avR ρ x v) : ∃ kd, v = .int kd n := by
 cases x with
 | c c => cases c with
  | s s =>
   obtain ⟨kd, _, h2⟩ := Sc.int_val (x := s) h
   exact ⟨kd, by rw [← h2]; exact hv⟩
  | _ => cases h
 | _ => cases h
def Cl.id? : Cl → Option Nat
 | .wh i => some i
 | .sl i _ _ => some i
 | .pt i _ => some i
 | _ => none
theorem slc_pl (hp : HpR ρ w H) {y : Cl} {o : Oj} {lo n i : Nat} (h : slc H y = some (o, lo, n)) (hi : y.id? = some i) {v : Value} (hv : clR ρ y v) :
  (ρ i).sz = o.sz ∧ (ρ i).n = o.n ∧ ∀ A c, v = .slice A n c → 0 < n → A = (ρ i).A.map (·.add (lo * o.sz)) := by
 cases y with
 | wh j =>
  injection hi with hi; subst hi
  simp only [slc] at h
  cases hl : liveS H j with
  | none => rw [hl] at h; cases h
  | some o' =>
   rw [hl] at h; injection h with h
   simp only [Prod.mk.injEq] at h
   obtain ⟨rfl, rfl, rfl⟩ := h
   obtain ⟨h1, h2⟩ := liveS_ok hl
   obtain ⟨⟨e1, e2, e3⟩, _⟩ := (hp j o' h1).read (nd h2)
   refine ⟨e1, e2, fun A c hv' _ => ?_⟩
   rw [show v = _ from hv] at hv'
   injection hv' with a b c
   rw [← a, Nat.zero_mul]
   cases (ρ j).A with
   | none => rfl
   | some ad => simp [Addr.add]
 | sl j lo' m =>
  injection hi with hi; subst hi
  simp only [slc] at h
  cases hl : liveS H j with
  | none => rw [hl] at h; cases h
  | some o' =>
   rw [hl] at h; injection h with h
   simp only [Prod.mk.injEq] at h
   obtain ⟨rfl, rfl, rfl⟩ := h
   obtain ⟨h1, h2⟩ := liveS_ok hl
   obtain ⟨⟨e1, e2, e3⟩, _⟩ := (hp j o' h1).read (nd h2)
   obtain ⟨_, A, c, rfl, _, _, _, g4⟩ := hv
   refine ⟨e1, e2, fun A' c' hv' hm => ?_⟩
   injection hv' with a b c
   rw [← a, ← e1]; exact g4 hm
 | dv _ _ => cases hi
 | _ => cases h
def deepIx (H : Hp) : Cl → Option (Nat × Way × Nat × Nat × Nat)
 | .wh i => (match H[i]? with | some o => (match o.kd, o.cs with | .dp _, .d x _ => some (i, [], 0, o.n, x.sz) | _, _ => none) | none => none)
 | .sl i lo n => (match H[i]? with | some o => (match o.kd, o.cs with | .dp _, .d x _ => some (i, [], lo, n, x.sz) | _, _ => none) | none => none)
 | .dv i p => (match dvD H i p with | some ⟨.sl _ x, t⟩ => some (i, p, 0, List.length (α := x.T) t, x.sz) | some ⟨.by _, t⟩ => some (i, p, 0, List.length (α := UInt8) t, 1) | some ⟨.wo _, t⟩ => some (i, p, 0, List.length (α := UInt32) t, 1) | _ => none)
 | _ => none
theorem deepIx_ok (hp : HpR ρ w H) {y : Cl} {i : Nat} {p : Way} {lo m sz : Nat} (h : deepIx H y = some (i, p, lo, m, sz)) {v : Value} (hv : clR ρ y v) :
  ∃ A c, v = .slice A m c ∧ m ≤ c ∧ (A = none → c = 0) ∧ PV (ρ i).gv p ∧ 0 < sz ∧ ∃ A0 M c0, (ρ i).gv p = .slice A0 M c0 ∧ lo + m ≤ M ∧ (0 < m → A = A0.map (·.add (lo * sz))) := by
 have key : ∀ {j : Nat} {o : Oj} {x : Dsh} {l : List x.T} {fs : Bool}, H[j]? = some o → o.kd = .dp fs → o.cs = .d x l → o.n = (ρ j).n ∧ (ρ j).sz = x.sz ∧ (ρ j).gv [] = .slice (ρ j).A (ρ j).n (ρ j).cap ∧ ((ρ j).n ≤ (ρ j).cap ∧ (ρ j).cap ≤ maxLen ∧ ((ρ j).A = none → (ρ j).cap = 0)) := by
  intro j o x l fs ho hk hc
  have hr := hp j o ho
  unfold objR at hr
  simp only [hk] at hr
  have hs := hr.slc
  unfold DpR at hr
  split at hr
  ·rename_i x' l' hc'
   rw [hc] at hc'
   cases hc'
   exact ⟨hr.1.2.1.symm, hr.1.1.trans hr.1.2.2.2, hr.2.1, hs⟩
  ·exact hr.elim
 cases y with
 | wh j =>
  simp only [deepIx] at h
  split at h
  ·rename_i o ho
   split at h
   ·rename_i x l hk hc
    injection h with h
    simp only [Prod.mk.injEq] at h
    obtain ⟨rfl, rfl, rfl, rfl, rfl⟩ := h
    obtain ⟨k1, k2, k3, k4, k5, k6⟩ := key ho hk hc
    refine ⟨_, _, by rw [show v = _ from hv, k1], by rw [k1]; exact k4, k6, True.intro, x.sz_pos, _, _, _, k3, by omega, fun _ => ?_⟩
    rw [Nat.zero_mul]
    cases (ρ j).A with
    | none => rfl
    | some ad => simp [Addr.add]
   ·cases h
  ·cases h
 | sl j lo' n =>
  simp only [deepIx] at h
  split at h
  ·rename_i o ho
   split at h
   ·rename_i x l hk hc
    injection h with h
    simp only [Prod.mk.injEq] at h
    obtain ⟨rfl, rfl, rfl, rfl, rfl⟩ := h
    obtain ⟨k1, k2, k3, _⟩ := key ho hk hc
    obtain ⟨g0, A, c, rfl, g1, g2, g3, g4⟩ := hv
    exact ⟨A, c, rfl, g1, g3, True.intro, x.sz_pos, _, _, _, k3, g0, fun hm => by rw [← k2]; exact g4 hm⟩
   ·cases h
  ·cases h
 | dv j q =>
  simp only [deepIx] at h
  split at h
  ·rename_i e x t hd
   injection h with h
   simp only [Prod.mk.injEq] at h
   obtain ⟨rfl, rfl, rfl, rfl, rfl⟩ := h
   obtain ⟨c, f, hc, A, cap, h1, h2, h3, h4, _⟩ := dvD_ok hp hd hv.2.1
   rw [hc] at h1
   refine ⟨A, cap, by rw [hv.1, h1], h2, h4, hv.2.1, x.sz_pos, A, _, cap, h1, by omega, fun _ => ?_⟩
   rw [Nat.zero_mul]
   cases A with
   | none => rfl
   | some ad => simp [Addr.add]
  ·rename_i e t hd
   injection h with h
   simp only [Prod.mk.injEq] at h
   obtain ⟨rfl, rfl, rfl, rfl, rfl⟩ := h
   obtain ⟨c, f, hc, A, cap, h1, h2, h3, h4, _⟩ := dvD_ok hp hd hv.2.1
   rw [hc] at h1
   refine ⟨A, cap, by rw [hv.1, h1], h2, h4, hv.2.1, Nat.one_pos, A, _, cap, h1, by omega, fun _ => ?_⟩
   cases A with
   | none => rfl
   | some ad => simp [Addr.add]
  ·rename_i e t hd
   injection h with h
   simp only [Prod.mk.injEq] at h
   obtain ⟨rfl, rfl, rfl, rfl, rfl⟩ := h
   obtain ⟨c, f, hc, A, cap, h1, h2, h3, h4, _⟩ := dvD_ok hp hd hv.2.1
   rw [hc] at h1
   refine ⟨A, cap, by rw [hv.1, h1], h2, h4, hv.2.1, Nat.one_pos, A, _, cap, h1, by omega, fun _ => ?_⟩
   cases A with
   | none => rfl
   | some ad => simp [Addr.add]
  ·cases h
 | _ => cases h
def ixA (T : Tab) (H : Hp) (t : TypeId) (x : AV) (n : Int) : Option (List Prop × AV) := match T t, x with
 | some ti, .c y => (match ti.d with
  | .sl e => (match deepIx H y with
   | some (i, p, lo, m, sz) => (match T e with
   | some te => (match decide (te.size = sz) with | true => some ([0 ≤ n, n < (m : Int)], .c (.dq i p (oddA lo n.toNat) 0 sz)) | false => none)
   | none => none)
   | none => match T e, slc H y, y.id? with
   | some te, some (o, lo, m), some i => (match decide (te.size = o.sz ∧ 0 < te.size) with
    | true => some ([0 ≤ n, n < (m : Int)], .c (.pt i (mulS (oddA lo n.toNat) o.sz)))
    | false => none)
   | _, _, _ => none)
  | .arr N e => (match T e, y with
   | some te, .pt i off => (match live H i with
    | some o => (match decide (oddA off (N * te.size) ≤ o.n * o.sz ∧ 0 < te.size) with | true => some ([0 ≤ n, n < (N : Int)], .c (.pt i (oddA off (mulS n.toNat te.size)))) | false => none)
    | none => none)
   | _, _ => none)
  | _ => none)
 | _, _ => none
theorem pt_lt {N : Nat} (hp : HpR ρ w H) {i : Nat} {o : Oj} (hl : live H i = some o) (h : N ≤ o.n * o.sz) : N ≤ (ρ i).n * (ρ i).sz := by
 obtain ⟨h1, h2⟩ := live_ok hl
 obtain ⟨⟨e1, e2, _⟩, _⟩ := (hp i o h1).read h2
 rw [e1, e2]; exact h
theorem ixA_ok (hT : TabOk P T) (hp : HpR ρ w H) {t : TypeId} {x : AV} {n : Int} {g : List Prop} {z : AV} (h : ixA T H t x n = some (g, z)) (hg : allP g) {v : Value} (hv : avR ρ x v) (kd : IntKind) :
  ∃ u, (Instr.indexAt t v (.int kd n)).run P w = .ok u w ∧ avR ρ z u := by
 unfold ixA at h
 cases ht : T t with
 | none => simp [ht] at h
 | some ti =>
  cases x with
  | c y =>
   simp only [ht] at h
   cases hd : ti.d <;> simp only [hd, reduceCtorEq] at h
   case sl e =>
    have ut := (hT.at ht).sl hd
    split at h
    ·rename_i i p lo m sz hdx
     split at h
     ·rename_i te he
      split at h
      ·rename_i hdec
       simp only [decide_eq_true_eq] at hdec
       injection h with h; simp only [Prod.mk.injEq] at h; obtain ⟨rfl, rfl⟩ := h
       obtain ⟨h0, h1⟩ := allP_cons.1 hg
       simp only [allP] at h1
       obtain ⟨ie, hie, hs1, _⟩ := (hT.at he).i
       obtain ⟨A, c, rfl, g1, g2, g3, g4, A0, M, c0, g5, g6, g7⟩ := deepIx_ok hp hdx hv
       have hm : n.toNat < m := by omega
       have hA' := g7 (by omega)
       cases hh : A0 with
       | none => rw [hh] at hA'; have := g2 hA'; omega
       | some ad =>
        rw [hh] at hA' g5
        refine ⟨.pointer (some ((ad.add (lo * sz)).add (n.toNat * te.size))), ?_, g3, some ad, M, c0, ad, g5, ?_, rfl, g4, ?_⟩
        ·simp [Instr.indexAt, asIntOf, run_underlying ut, sizeOf, typeInfo, hie, hs1, h0, h1, hA']
        ·rw [oddA_eq]; omega
        ·rw [add_add, oddA_eq, Nat.add_mul, hdec, Nat.add_zero]
      ·cases h
     ·cases h
    split at h
    ·rename_i te o lo m i he hs hi
     split at h
     ·rename_i hdec
      simp only [decide_eq_true_eq] at hdec
      obtain ⟨hsz, hpos⟩ := hdec
      injection h with h; simp only [Prod.mk.injEq] at h; obtain ⟨rfl, rfl⟩ := h
      obtain ⟨h0, h1⟩ := allP_cons.1 hg
      simp only [allP] at h1
      obtain ⟨ie, hie, hs1, _⟩ := (hT.at he).i
      obtain ⟨hle, hlen, vs, hc, hS⟩ := slc_ok hp hs hv
      obtain ⟨e1, e2, hA⟩ := slc_pl hp hs hi hv
      obtain ⟨A, c, rfl, g1, g2, g3, g4⟩ := hS.ex
      have hm : n.toNat < m := by omega
      have hA' := hA A c rfl (by omega)
      cases hh : (ρ i).A with
      | none => rw [hh] at hA'; have := g3 hA'; omega
      | some ad =>
       rw [hh] at hA'
       refine ⟨.pointer (some ((ad.add (lo * o.sz)).add (n.toNat * te.size))), ?_, ?_, ad, hh, ?_⟩
       ·simp [Instr.indexAt, asIntOf, run_underlying ut, sizeOf, typeInfo, hie, hs1, h0, h1, hA']
       ·rw [mulS_eq, oddA_eq, e1, e2]; exact Nat.mul_lt_mul_of_pos_right (by omega) (by omega)
       ·rw [add_add, mulS_eq, oddA_eq, Nat.add_mul, hsz]
     ·cases h
    ·cases h
   case arr N e =>
    have ut := (hT.at ht).arr hd
    split at h
    ·rename_i te i off he
     cases hl : live H i with
     | none => simp [hl] at h
     | some o =>
      simp only [hl] at h
      split at h
      ·rename_i hdec
       simp only [decide_eq_true_eq, oddA_eq] at hdec
       obtain ⟨hb, hpos⟩ := hdec
       injection h with h; simp only [Prod.mk.injEq] at h; obtain ⟨rfl, rfl⟩ := h
       obtain ⟨h0, h1⟩ := allP_cons.1 hg
       simp only [allP] at h1
       obtain ⟨ie, hie, hs1, _⟩ := (hT.at he).i
       obtain ⟨hlt, ad, hA, rfl⟩ := hv
       have hb' := pt_lt hp hl hb
       have hn : n.toNat < N := by omega
       have hmul : n.toNat * te.size + te.size ≤ N * te.size := by
        have := Nat.mul_le_mul_right te.size (show n.toNat + 1 ≤ N by omega)
        rwa [Nat.add_mul, Nat.one_mul] at this
       refine ⟨.pointer (some ((ad.add off).add (n.toNat * te.size))), ?_, ?_, ad, hA, ?_⟩
       ·simp [Instr.indexAt, asIntOf, Instr.sureAddr, run_underlying ut, sizeOf, typeInfo, hie, hs1, h0, h1]
       ·rw [oddA_eq, mulS_eq]; omega
       ·rw [add_add, oddA_eq, mulS_eq]
      ·cases h
    ·cases h
  | _ => simp [ht] at h
theorem run_isAggT {t : TypeId} {ti : Ti} (h : TiOk P t ti) (w : World) : (isAgg t).run P w = .ok (isAggT ti.d) w := by
 obtain ⟨d, h1, h2⟩ := h.d
 unfold isAgg
 rw [Sem.run_bind, run_underlying h1 w, ← h2]
 cases d <;> simp [tdOf, isAggT]
def dcell : (Σ y : Dsh, y.T) → Nat → Way → Option Cl
 | ⟨.u8, t⟩, _, _ => some (.s (.u8 t))
 | ⟨.u32, t⟩, _, _ => some (.s (.u32 t))
 | ⟨.i64, t⟩, _, _ => some (.s (.k .i64 t))
 | ⟨.by _, _⟩, i, q => some (.dv i q)
 | ⟨.wo _, _⟩, i, q => some (.dv i q)
 | ⟨.sl _ _, _⟩, i, q => some (.dv i q)
 | ⟨.pr _ _, _⟩, _, _ => none
def dcl (H : Hp) (i : Nat) (q : Way) : Option Cl := match dvD H i q with | some s => dcell s i q | none => none
theorem dcl_ok (hp : HpR ρ w H) {i : Nat} {q : Way} {c : Cl} (h : dcl H i q = some c) (hv : PV (ρ i).gv q) : clR ρ c ((ρ i).gv q) := by
 unfold dcl at h
 split at h
 ·rename_i s hs
  obtain ⟨y, u⟩ := s
  obtain ⟨g, f, hc, hd⟩ := dvD_ok hp hs hv
  cases y <;> simp only [dcell, Option.some.injEq, reduceCtorEq] at h <;> subst h
  ·rw [← hc]; exact hd
  ·rw [← hc]; exact hd
  ·rw [← hc]; exact hd
  all_goals
   obtain ⟨A, cap, h1, _⟩ := hd
   rw [hc] at h1
   exact ⟨rfl, hv, A, _, cap, h1⟩
 ·cases h
def dcls (H : Hp) (i : Nat) (p : Way) (k : Nat) : Nat → Nat → Option (List Cl)
 | _, 0 => some []
 | f, n + 1 => match dcl H i ((k, f) :: p), dcls H i p k (f + 1) n with | some c, some l => some (c :: l) | _, _ => none
theorem dq_cell (hp : HpR ρ w H) {i : Nat} {p : Way} {k sz : Nat} {e : TypeId} {x : Dsh} {t : (Dsh.sl e x).T} (h : dvD H i p = some ⟨.sl e x, t⟩) (hx : x.sz = sz) {A : Option Addr} {m c : Nat} {ad : Addr} (hv : PV (ρ i).gv p) (h1 : (ρ i).gv p = .slice A m c) (hk : k < m) (hA : A = some ad) {g : Nat} (hg : g < sz) :
  w.cell? (ad.add (k * sz + g)) = some ((ρ i).gv ((k, g) :: p)) := by
 obtain ⟨c', f', hc, A', cap, g1, g2, g3, g4, g5, g6⟩ := dvD_ok hp h hv
 rw [hc, h1] at g1
 injection g1 with a b d
 have hkl : k < List.length (α := x.T) t := by rw [← b]; exact hk
 have := (g6 k (List.getD (α := x.T) t k x.df) (gq_getD hkl)).1 ad (by rw [← a]; exact hA) g (by rw [hx]; exact hg)
 rw [hx, hc] at this
 exact this
theorem dcls_ok (hp : HpR ρ w H) {i : Nat} {p : Way} {k : Nat} (hv : ∀ f, PV (ρ i).gv ((k, f) :: p)) : ∀ (n f : Nat) (l : List Cl), dcls H i p k f n = some l → F2 (clR ρ) l ((List.range n).map fun j => (ρ i).gv ((k, f + j) :: p))
 | 0, f, l, h => by
  simp only [dcls, Option.some.injEq] at h
  subst h; exact F2.nil
 | n + 1, f, l, h => by
  simp only [dcls] at h
  split at h
  ·rename_i c l' h1 h2
   injection h with h; subst h
   have ih := dcls_ok hp hv n (f + 1) l' h2
   rw [List.range_succ_eq_map, List.map_cons, List.map_map]
   refine F2.cons (dcl_ok hp h1 (hv f)) ?_
   have e : (fun j => (ρ i).gv ((k, f + 1 + j) :: p)) = (fun j => (ρ i).gv ((k, f + j) :: p)) ∘ Nat.succ := by
    funext j; simp only [Function.comp]; rw [show f + 1 + j = f + j.succ by omega]
   rw [e] at ih
   exact ih
  ·cases h
theorem at_map {α : Type} (f : α → Value) (l : List α) (k : Nat) (d : α) (h : k < l.length) : (l.map f)[k]? = some (f (l.getD k d)) := by
 rw [List.getElem?_map, show l[k]? = some (l.getD k d) from gq_getD h]; rfl
def tailC (u8 : Bool) : List Cl → Option (Nat × Cl)
 | [] => none
 | .s (.u8 y) :: l => (match u8 with | true => some (0, .s (.u8 y)) | false => (match tailC u8 l with | some (k, c) => some (k + 1, c) | none => none))
 | .wh r :: l => (match u8 with | false => some (0, .wh r) | true => (match tailC u8 l with | some (k, c) => some (k + 1, c) | none => none))
 | .nils :: l => (match u8 with | false => some (0, .nils) | true => (match tailC u8 l with | some (k, c) => some (k + 1, c) | none => none))
 | _ => none
theorem tailC_ok {u8 : Bool} : ∀ {l : List Cl} {k : Nat} {c : Cl}, tailC u8 l = some (k, c) → l[k]? = some c
 | [], k, c, h => by cases h
 | x :: l, k, c, h => by
  have rec' : ∀ {k : Nat} {c : Cl}, (match tailC u8 l with | some (k, c) => some (k + 1, c) | none => none) = some (k, c) → (x :: l)[k]? = some c := fun {k c} h => by
   split at h
   ·rename_i k' c' h'
    injection h with h; injection h with h1 h2; subst h1; subst h2
    rw [List.getElem?_cons_succ]; exact tailC_ok h'
   ·cases h
  unfold tailC at h
  split at h
  ·cases h
  ·rename_i y l' he
   injection he with he1 he2; subst he1; subst he2
   split at h
   ·injection h with h; injection h with h1 h2; subst h1; subst h2; rfl
   ·exact rec' h
  ·rename_i r l' he
   injection he with he1 he2; subst he1; subst he2
   split at h
   ·injection h with h; injection h with h1 h2; subst h1; subst h2; rfl
   ·exact rec' h
  ·rename_i l' he
   injection he with he1 he2; subst he1; subst he2
   split at h
   ·injection h with h; injection h with h1 h2; subst h1; subst h2; rfl
   ·exact rec' h
  ·cases h
def isU8T : Td → Bool | .int .u8 => true | _ => false
def ldT (d : Td) (off : Nat) (o : Oj) : Option (List Prop × AV) := match o.cs with
 | .g _ n sz tl => (match tailC (isU8T d) tl with | some (k, c) => some ([off = n * sz + k], .c c) | none => none)
 | _ => none
def tailW (size : Nat) : Cs → Option (Nat × List Cl)
 | .g _ n sz tl => (match Nat.beq tl.length size with | true => some (n * sz, tl) | false => none)
 | _ => none
theorem tailW_ok {size : Nat} {cs : Cs} {n : Nat} {tl : List Cl} (h : tailW size cs = some (n, tl)) : tl.length = size ∧ (cs.cl.drop n).take size = tl ∧ n + size = cs.cl.length := by
 unfold tailW at h
 split at h
 ·rename_i j n' sz' tl'
  split at h
  ·rename_i hb
   injection h with h; injection h with h1 h2; subst h1; subst h2
   have hb := Nat.eq_of_beq_eq_true hb
   refine ⟨hb, ?_, ?_⟩
   ·show ((ghc j n' sz' ++ tl').drop (n' * sz')).take size = tl'
    rw [List.drop_left' (ghc_len _ _ _), ← hb, List.take_length]
   ·show _ = (ghc j n' sz' ++ tl').length
    rw [List.length_append, ghc_len, hb]
  ·cases h
 ·cases h
def ldW (size off : Nat) (o : Oj) : Option (List Prop × AV) := match tailW size o.cs with
 | some (n, tl) => some ([off = n], .g size (.c tl))
 | none => some ([off + size ≤ o.n * o.sz], .g size (o.cs.part off size))
def isBlk : Kd → Bool | .blk => true | _ => false
def ldA (T : Tab) (H : Hp) (t : TypeId) (x : AV) : Option (List Prop × AV) := match T t, x with
 | some ti, .c (.pt i off) => (match live H i with
  | some o => (match isAggT ti.d with
   | false => (match o.cs.at off with | some c => some ([], .c c) | none => ldT ti.d off o)
   | true => (match isBlk o.kd && decide (off = 0 ∧ ti.size = o.n * o.sz) with
    | true => some ([], .g ti.size o.cs)
    | false => ldW ti.size off o))
  | none => none)
 | some ti, .c (.dq i p k f sz) => (match dvD H i p with
  | some ⟨.sl _ x, _⟩ => (match decide (x.sz = sz), isAggT ti.d with
   | true, false => (match dcl H i ((k, f) :: p) with | some c => some ([], .c c) | none => none)
   | true, true => (match decide (f + ti.size ≤ sz), dcls H i p k f ti.size with | true, some l => some ([], .g ti.size (.c l)) | _, _ => none)
   | _, _ => none)
  | some ⟨.by _, t⟩ => (match sz, isAggT ti.d with | 1, false => some ([], .c (.s (.u8 (List.getD (α := UInt8) t k 0)))) | _, _ => none)
  | some ⟨.wo _, t⟩ => (match sz, isAggT ti.d with | 1, false => some ([], .c (.s (.u32 (List.getD (α := UInt32) t k 0)))) | _, _ => none)
  | _ => none)
 | _, _ => none
theorem ldA_ok (hT : TabOk P T) (hp : HpR ρ w H) {t : TypeId} {x : AV} {g : List Prop} {z : AV} (h : ldA T H t x = some (g, z)) (hg : allP g) {v : Value} (hv : avR ρ x v) :
  ∃ u, (Instr.loadAt t v).run P w = .ok u w ∧ avR ρ z u := by
 unfold ldA at h
 split at h
 ·rename_i ti i off ht
  cases hl : live H i with
  | none => simp [hl] at h
  | some o =>
   simp only [hl] at h
   obtain ⟨h1, h2⟩ := live_ok hl
   obtain ⟨⟨e1, e2, e3⟩, vs, hc, hA⟩ := (hp i o h1).read h2
   obtain ⟨hlt, ad, hAd, rfl⟩ := hv
   rw [e1, e2, ← e3] at hlt
   have hlen : vs.length = o.cs.cl.length := hc.len
   cases hag : isAggT ti.d with
   | false =>
    simp only [hag] at h
    cases hat : o.cs.at off with
    | none =>
     simp only [hat] at h
     unfold ldT at h
     split at h
     ·rename_i j' n' sz' tl hcs
      split at h
      ·rename_i k c htc
       injection h with h; simp only [Prod.mk.injEq] at h; obtain ⟨rfl, rfl⟩ := h
       have hoff : off = n' * sz' + k := by simpa [allP] using hg
       have hq : o.cs.cl[n' * sz' + k]? = some c := by
        rw [hcs]
        show (ghc j' n' sz' ++ tl)[_]? = _
        rw [List.getElem?_append_right (by simp [ghc])]
        simp only [ghc, List.length_map, List.length_range, Nat.add_sub_cancel_left]
        exact tailC_ok htc
       obtain ⟨u, hu, hr⟩ := F2.at hc hq
       rw [← hoff] at hu
       have hcell := hA ad hAd off u hu
       refine ⟨u, ?_, hr⟩
       simp [Instr.loadAt, Instr.sureAddr, loadVar, run_isAggT (hT.at ht), hag, hcell]
      ·cases h
     ·cases h
    | some c =>
     simp only [hat] at h
     injection h with h; simp only [Prod.mk.injEq] at h; obtain ⟨rfl, rfl⟩ := h
     obtain ⟨u, hu, hr⟩ := F2.at hc (Cs.at_ok hat hlt)
     have hcell := hA ad hAd off u hu
     refine ⟨u, ?_, hr⟩
     simp [Instr.loadAt, Instr.sureAddr, loadVar, run_isAggT (hT.at ht), hag, hcell]
   | true =>
    simp only [hag] at h
    obtain ⟨ii, hii, hs1, _⟩ := (hT.at ht).i
    have key : ∀ (cs : List Value), cs.length = ti.size → (∀ j u, cs[j]? = some u → w.cell? ((ad.add off).add j) = some u) → (Instr.loadAt t (.pointer (some (ad.add off)))).run P w = .ok (.agg cs.toArray) w := by
     intro cs hcl hcc
     have hl := run_loadCells_list (P := P) w (ad.add off) cs hcc
     rw [hcl] at hl
     simp [Instr.loadAt, Instr.sureAddr, loadVar, run_isAggT (hT.at ht), hag, sizeOf, typeInfo, hii, hs1, hl]
    split at h
    ·rename_i hdec
     simp only [Bool.and_eq_true, decide_eq_true_eq] at hdec
     obtain ⟨_, rfl, hs⟩ := hdec
     injection h with h; simp only [Prod.mk.injEq] at h; obtain ⟨rfl, rfl⟩ := h
     have hl3 : vs.length = ti.size := by rw [hlen, e3, hs]
     refine ⟨_, key vs hl3 (fun j u hu => ?_), vs, hc, hl3, rfl⟩
     rw [add_add, Nat.zero_add]; exact hA ad hAd j u hu
    ·unfold ldW at h
     split at h
     ·rename_i n' tl htw
      injection h with h; simp only [Prod.mk.injEq] at h; obtain ⟨rfl, rfl⟩ := h
      obtain rfl : off = n' := by simpa [allP] using hg
      obtain ⟨t1, t2, t3⟩ := tailW_ok htw
      have hl3 : ((vs.drop off).take ti.size).length = ti.size := by rw [List.length_take, List.length_drop]; omega
      refine ⟨_, key _ hl3 (fun j u hu => ?_), _, ?_, hl3, rfl⟩
      ·exact (hA.drop off ti.size) (ad.add off) (by rw [hAd]; rfl) j u hu
      ·have hd : F2 (clR ρ) ((o.cs.cl.drop off).take ti.size) ((vs.drop off).take ti.size) := (F2.drop hc off).take _
       rw [t2] at hd
       exact hd
     injection h with h; simp only [Prod.mk.injEq] at h; obtain ⟨rfl, rfl⟩ := h
     simp only [allP] at hg
     have hl3 : ((vs.drop off).take ti.size).length = ti.size := by rw [List.length_take, List.length_drop]; omega
     refine ⟨_, key _ hl3 (fun j u hu => ?_), _, ?_, hl3, rfl⟩
     ·exact (hA.drop off ti.size) (ad.add off) (by rw [hAd]; rfl) j u hu
     ·unfold csR
      rw [Cs.part_cl]
      exact (F2.drop hc off).take _
 ·rename_i ti i p k f sz ht
  obtain ⟨hpv, A, m, c, ad, g1, g2, g3, g4, rfl⟩ := hv
  have hpk : ∀ f, PV (ρ i).gv ((k, f) :: p) := fun f => ⟨⟨A, m, c, g1, g2⟩, hpv⟩
  split at h
  ·rename_i e x t hd
   split at h
   ·rename_i hx hag
    simp only [decide_eq_true_eq] at hx
    split at h
    ·rename_i cl hcl
     injection h with h; simp only [Prod.mk.injEq] at h; obtain ⟨rfl, rfl⟩ := h
     have hcell := dq_cell hp hd hx hpv g1 g2 g3 g4
     refine ⟨_, ?_, dcl_ok hp hcl (hpk f)⟩
     simp [Instr.loadAt, Instr.sureAddr, loadVar, run_isAggT (hT.at ht), hag, hcell]
    ·cases h
   ·rename_i hx hag
    simp only [decide_eq_true_eq] at hx
    split at h
    ·rename_i l hle hl
     simp only [decide_eq_true_eq] at hle
     injection h with h; simp only [Prod.mk.injEq] at h; obtain ⟨rfl, rfl⟩ := h
     obtain ⟨ii, hii, hs1, _⟩ := (hT.at ht).i
     have hF := dcls_ok hp hpk ti.size f l hl
     have hlen : ((List.range ti.size).map fun j => (ρ i).gv ((k, f + j) :: p)).length = ti.size := by simp
     have hl2 := run_loadCells_list (P := P) w (ad.add (k * sz + f)) ((List.range ti.size).map fun j => (ρ i).gv ((k, f + j) :: p)) (fun j u hu => by
      rw [List.getElem?_map] at hu
      have hj : j < ti.size := by
       by_cases hj : j < ti.size
       ·exact hj
       ·rw [List.getElem?_eq_none (by simp; omega)] at hu; cases hu
      rw [List.getElem?_range hj] at hu
      injection hu with hu; subst hu
      rw [add_add, Nat.add_assoc]
      exact dq_cell hp hd hx hpv g1 g2 g3 (by omega))
     rw [hlen] at hl2
     refine ⟨.agg ((List.range ti.size).map fun j => (ρ i).gv ((k, f + j) :: p)).toArray, ?_, _, hF, hlen, rfl⟩
     simp [Instr.loadAt, Instr.sureAddr, loadVar, run_isAggT (hT.at ht), hag, sizeOf, typeInfo, hii, hs1, hl2]
    ·cases h
   ·cases h
  ·rename_i e t hd
   split at h
   ·rename_i hag
    injection h with h; simp only [Prod.mk.injEq] at h; obtain ⟨rfl, rfl⟩ := h
    obtain rfl : f = 0 := by omega
    obtain ⟨c', f', hc, A', cap, q1, q2, q3, q4, q5, q6⟩ := dvD_ok hp hd hpv
    rw [hc, g1] at q1
    injection q1 with a b d
    have hk : k < List.length (α := UInt8) t := by rw [← b]; exact g2
    have hcell := q6 ad (by rw [← a]; exact g3) k (bU (List.getD (α := UInt8) t k 0)) (at_map bU t k 0 hk)
    refine ⟨_, ?_, rfl⟩
    rw [Nat.mul_one, Nat.add_zero]
    simp [Instr.loadAt, Instr.sureAddr, loadVar, run_isAggT (hT.at ht), hag, hcell, bU, Sc.val]
   ·cases h
  ·rename_i e t hd
   split at h
   ·rename_i hag
    injection h with h; simp only [Prod.mk.injEq] at h; obtain ⟨rfl, rfl⟩ := h
    obtain rfl : f = 0 := by omega
    obtain ⟨c', f', hc, A', cap, q1, q2, q3, q4, q5, q6⟩ := dvD_ok hp hd hpv
    rw [hc, g1] at q1
    injection q1 with a b d
    have hk : k < List.length (α := UInt32) t := by rw [← b]; exact g2
    have hcell := q6 ad (by rw [← a]; exact g3) k (w32 (List.getD (α := UInt32) t k 0)) (at_map w32 t k 0 hk)
    refine ⟨_, ?_, rfl⟩
    rw [Nat.mul_one, Nat.add_zero]
    simp [Instr.loadAt, Instr.sureAddr, loadVar, run_isAggT (hT.at ht), hag, hcell, w32, Sc.val]
   ·cases h
  ·cases h
 ·cases h
end
end Go.Sx
end
section
namespace Go.Sx
open Go.RowKit Go.Ch
section
variable {P : Program} {T : Tab} {ρ : Pls} {w : World} {H : Hp}
def isRowZ (o : Oj) (y : Cl) : Bool := match o.kd, o.cs, y with | .row, .z _, .wh _ => true | .row, .c _, .wh _ => !Nat.beq o.sz 1 | .row, .g _ _ _ (_ :: _), .wh _ => true | .row, .b _, .wh _ => true | _, _, _ => false
def slA (T : Tab) (H : Hp) (t : TypeId) (x : AV) (lo hi mx : Option Int) : Option (List Prop × AV) := match T t, x with
 | some ti, .c y => (match ti.d with
  | .sl e => (match T e, slc H y, y.id? with
   | some te, some (o, l0, m), some i => (match decide (te.size = o.sz) with
    | true => (match lo, hi, mx with
     | none, none, none => some ([], .c y)
     | some a, none, none => some ([0 ≤ a, a ≤ (m : Int)], .c (.sl i (oddA l0 a.toNat) (m - a.toNat)))
     | none, some b, none => some ([0 ≤ b, b ≤ (m : Int)], .c (match isRowZ o y with | true => .pre i b.toNat | false => .sl i l0 b.toNat))
     | some a, some b, none => some ([0 ≤ a, a ≤ b, b ≤ (m : Int)], .c (.sl i (oddA l0 a.toNat) (b.toNat - a.toNat)))
     | none, some b, some c => some ([0 ≤ b, b ≤ c, c ≤ (m : Int)], .c (.sl i l0 b.toNat))
     | _, _, _ => none)
    | false => none)
   | _, _, _ => none)
  | .str => (match y with
   | .s (.str l) => (match lo, hi, mx with
    | none, none, none => some ([], .c (.s (.str l)))
    | some a, none, none => some ([0 ≤ a, a ≤ (l.length : Int)], .c (.s (.str (l.drop a.toNat))))
    | none, some b, none => some ([0 ≤ b, b ≤ (l.length : Int)], .c (.s (.str (l.take b.toNat))))
    | some a, some b, none => some ([0 ≤ a, a ≤ b, b ≤ (l.length : Int)], .c (.s (.str ((l.take b.toNat).drop a.toNat))))
    | _, _, _ => none)
   | _ => none)
  | .arr m e => (match T e, y, lo, hi, mx with
   | some te, .pt i 0, none, none, none => (match live H i with
    | some o => (match decide (te.size = 1 ∧ o.sz = 1 ∧ m ≤ o.n ∧ m ≤ 1000000) with | true => some ([], .c (.sl i 0 m)) | false => none)
    | none => none)
   | _, _, _, _, _ => none)
  | _ => none)
 | _, _ => none
theorem run_sliceBound (kd : IntKind) (b : Int) (y : Nat) (code : BoundsCode) (h0 : 0 ≤ b) (h1 : b ≤ (y : Int)) (w : World) : (Instr.sliceBound (.int kd b) y code).run P w = .ok b.toNat w := by
 simp [Instr.sliceBound, asIntOf, h0, h1]
theorem run_slice_of {t e : TypeId} {ie : TypeInfo} (ut : P.underlying t = some (.slice e)) (hie : P.info? e = some ie) (A : Option Addr) (n c : Nat) (lo hi mx : Option Value) (l h m : Nat)
  (hb : (Instr.sliceBounds true n c lo hi mx).run P w = .ok (l, h, m) w) :
  (Instr.sliceAt t (.slice A n c) lo hi mx).run P w = .ok (.slice (if m = l then A else A.map (·.add (l * ie.size))) (h - l) (m - l)) w := by
 simp [Instr.sliceAt, Instr.slice, run_underlying ut, hb, sizeOf, typeInfo, hie]
def okV (x : Option Int) (v : Option Value) : Prop := match x, v with
 | none, none => True
 | some n, some v => ∃ kd, v = .int kd n
 | _, _ => False
theorem slA_ok (hT : TabOk P T) (hp : HpR ρ w H) {t : TypeId} {x : AV} {lo hi mx : Option Int} {vl vh vm : Option Value} (h1 : okV lo vl) (h2 : okV hi vh) (h3 : okV mx vm) {g : List Prop} {z : AV} (h : slA T H t x lo hi mx = some (g, z)) (hg : allP g) {v : Value} (hv : avR ρ x v) :
  ∃ u, (Instr.sliceAt t v vl vh vm).run P w = .ok u w ∧ avR ρ z u := by
 unfold slA at h
 split at h
 ·rename_i ti y ht
  cases hd : ti.d <;> simp only [hd, reduceCtorEq] at h
  case arr m e =>
   have ut := (hT.at ht).arr hd
   split at h
   ·rename_i te i he
    split at h
    ·rename_i o hl
     split at h
     ·rename_i hdec
      simp only [decide_eq_true_eq] at hdec
      obtain ⟨d1, d2, d3, d4⟩ := hdec
      injection h with h; simp only [Prod.mk.injEq] at h; obtain ⟨rfl, rfl⟩ := h
      obtain ⟨ie, hie, hs1, _⟩ := (hT.at he).i
      obtain ⟨l1, l2⟩ := live_ok hl
      obtain ⟨⟨e1, e2, e3⟩, _⟩ := (hp i o l1).read l2
      obtain ⟨hlt, ad, hA, rfl⟩ := hv
      cases vl with
      | some _ => exact h1.elim
      | none =>
       cases vh with
       | some _ => exact h2.elim
       | none =>
        cases vm with
        | some _ => exact h3.elim
        | none =>
         have z0 : ∀ x : Addr, x.add 0 = x := fun x => by simp [Addr.add]
         refine ⟨.slice (some ad) m m, ?_, ?_⟩
         ·simp [Instr.sliceAt, run_underlying ut, Instr.sureAddr, Instr.sliceBounds, sizeOf, typeInfo, hie, z0]
         ·refine ⟨by omega, some ad, m, rfl, Nat.le_refl _, by unfold maxLen; omega, (fun e => by cases e), fun _ => by rw [hA]; simp [z0]⟩
     ·cases h
    ·cases h
   ·cases h
  case sl e =>
   have ut := (hT.at ht).sl hd
   split at h
   ·rename_i te o l0 m i he hs hi'
    split at h
    ·rename_i hdec
     simp only [decide_eq_true_eq] at hdec
     obtain ⟨ie, hie, hs1, _⟩ := (hT.at he).i
     obtain ⟨hle, hlen, vs, hc, hS⟩ := slc_ok hp hs hv
     obtain ⟨e1, e2, hA⟩ := slc_pl hp hs hi' hv
     obtain ⟨A, c, rfl, g1, g2, g3, g4⟩ := hS.ex
     have key : ∀ (l h m' : Nat), l ≤ h → h ≤ m → h ≤ m' → m' ≤ c → (Instr.sliceBounds true m c vl vh vm).run P w = .ok (l, h, m') w →
       ∃ u, (Instr.sliceAt t (.slice A m c) vl vh vm).run P w = .ok u w ∧ clR ρ (.sl i (l0 + l) (h - l)) u := by
      intro l h m' k1 k2 k3 k4 hb
      refine ⟨_, run_slice_of ut hie A m c vl vh vm l h m' hb, by omega, _, m' - l, rfl, by omega, by omega, ?_, ?_⟩
      ·intro hn
       split at hn
       ·omega
       ·cases A with
        | none => have := g3 rfl; omega
        | some ad => cases hn
      ·intro hpos
       rw [if_neg (by omega)]
       have hA' := hA A c rfl (by omega)
       rw [hA', e1, hs1, hdec]
       cases (ρ i).A with
       | none => rfl
       | some ad => simp [add_add, Nat.add_mul]
     cases lo with
     | none =>
      cases vl with
      | some _ => exact h1.elim
      | none =>
       cases hi with
       | none =>
        cases mx with
        | some _ => simp at h
        | none =>
         cases vh with
         | some _ => exact h2.elim
         | none =>
          cases vm with
          | some _ => exact h3.elim
          | none =>
           injection h with h; simp only [Prod.mk.injEq] at h; obtain ⟨rfl, rfl⟩ := h
           refine ⟨.slice A m c, ?_, hv⟩
           rw [run_slice_of ut hie A m c none none none 0 m c (by simp [Instr.sliceBounds])]
           congr 1
           simp only [Nat.zero_mul, Nat.sub_zero]
           split
           ·rfl
           ·cases A <;> simp [Addr.add]
       | some b =>
        cases vh with
        | none => exact h2.elim
        | some vb =>
         obtain ⟨kb, rfl⟩ := h2
         cases mx with
         | none =>
          cases vm with
          | some _ => exact h3.elim
          | none =>
           injection h with h; simp only [Prod.mk.injEq] at h; obtain ⟨rfl, rfl⟩ := h
           obtain ⟨b0, b1⟩ := allP_cons.1 hg
           simp only [allP] at b1
           have := key 0 b.toNat c (by omega) (by omega) (by omega) (by omega) (by simp [Instr.sliceBounds, run_sliceBound kb b c _ b0 (by omega)])
           simp only [Nat.add_zero, Nat.sub_zero] at this
           cases hz : isRowZ o y with
           | false => exact this
           | true =>
            have hwh : y = .wh i := by
             unfold isRowZ at hz
             split at hz
             ·injection hi' with hi'; subst hi'; rfl
             ·injection hi' with hi'; subst hi'; rfl
             ·injection hi' with hi'; subst hi'; rfl
             ·injection hi' with hi'; subst hi'; rfl
             ·cases hz
            subst hwh
            ·have hv2 : Value.slice A m c = .slice (ρ i).A (ρ i).n (ρ i).cap := hv
             injection hv2 with a1 a2 a3
             refine ⟨_, run_slice_of ut hie A m c none (some (.int kb b)) none 0 b.toNat c (by simp [Instr.sliceBounds, run_sliceBound kb b c _ b0 (by omega)]), ?_⟩
             refine ⟨by omega, ?_⟩
             rw [Nat.sub_zero, Nat.sub_zero, Nat.zero_mul, a3, ← a1]
             congr 1
             split
             ·rfl
             ·cases A <;> simp [Addr.add]
         | some cc =>
          cases vm with
          | none => exact h3.elim
          | some vc =>
           obtain ⟨kc, rfl⟩ := h3
           injection h with h; simp only [Prod.mk.injEq] at h; obtain ⟨rfl, rfl⟩ := h
           obtain ⟨b0, b1⟩ := allP_cons.1 hg
           obtain ⟨b1, b2⟩ := allP_cons.1 b1
           simp only [allP] at b2
           have := key 0 b.toNat cc.toNat (by omega) (by omega) (by omega) (by omega) (by simp [Instr.sliceBounds, run_sliceBound kc cc c _ (by omega) (by omega), run_sliceBound kb b cc.toNat _ b0 (by omega)])
           simp only [Nat.add_zero, Nat.sub_zero] at this
           exact this
     | some a =>
      cases vl with
      | none => exact h1.elim
      | some va =>
       obtain ⟨ka, rfl⟩ := h1
       cases mx with
       | some _ => cases hi <;> simp at h
       | none =>
        cases vm with
        | some _ => exact h3.elim
        | none =>
         cases hi with
         | none =>
          cases vh with
          | some _ => exact h2.elim
          | none =>
           injection h with h; simp only [Prod.mk.injEq] at h; obtain ⟨rfl, rfl⟩ := h
           obtain ⟨b0, b1⟩ := allP_cons.1 hg
           simp only [allP] at b1
           have := key a.toNat m c (by omega) (by omega) (by omega) (by omega) (by simp [Instr.sliceBounds, run_sliceBound ka a m _ b0 b1])
           rw [oddA_eq]; exact this
         | some b =>
          cases vh with
          | none => exact h2.elim
          | some vb =>
           obtain ⟨kb, rfl⟩ := h2
           injection h with h; simp only [Prod.mk.injEq] at h; obtain ⟨rfl, rfl⟩ := h
           obtain ⟨b0, b1⟩ := allP_cons.1 hg
           obtain ⟨b1, b2⟩ := allP_cons.1 b1
           simp only [allP] at b2
           have := key a.toNat b.toNat c (by omega) (by omega) (by omega) (by omega) (by simp [Instr.sliceBounds, run_sliceBound kb b c _ (by omega) (by omega), run_sliceBound ka a b.toNat _ b0 (by omega)])
           rw [oddA_eq]; exact this
    ·cases h
   ·cases h
  case str =>
   have ut := (hT.at ht).str hd
   split at h
   ·rename_i l
    have hv' : v = .string ⟨l.toArray⟩ := hv
    subst hv'
    have hsz : (ByteArray.mk l.toArray).size = l.length := by simp [ByteArray.size]
    have key : ∀ (a b : Nat), (Instr.sliceBounds false l.length l.length vl vh none).run P w = .ok (a, b, l.length) w → vm = none →
      ∃ u, (Instr.sliceAt t (.string ⟨l.toArray⟩) vl vh vm).run P w = .ok u w ∧ u = .string ⟨((l.take b).drop a).toArray⟩ := by
     intro a b hb hm
     subst hm
     refine ⟨_, ?_, rfl⟩
     have e : (ByteArray.mk l.toArray).extract a b = ⟨((l.take b).drop a).toArray⟩ := by
      apply ByteArray.ext
      simp [ByteArray.data_extract, List.drop_take]
     simp [Instr.sliceAt, Instr.slice, run_underlying ut, hsz, hb, e]
    cases mx with
    | some _ => cases lo <;> cases hi <;> simp at h
    | none =>
     cases vm with
     | some _ => exact h3.elim
     | none =>
      cases lo with
      | none =>
       cases vl with
       | some _ => exact h1.elim
       | none =>
        cases hi with
        | none =>
         cases vh with
         | some _ => exact h2.elim
         | none =>
          injection h with h; simp only [Prod.mk.injEq] at h; obtain ⟨rfl, rfl⟩ := h
          obtain ⟨u, hu, rfl⟩ := key 0 l.length (by simp [Instr.sliceBounds]) rfl
          exact ⟨_, hu, by show _ = Value.string _; simp⟩
        | some b =>
         cases vh with
         | none => exact h2.elim
         | some vb =>
          obtain ⟨kb, rfl⟩ := h2
          injection h with h; simp only [Prod.mk.injEq] at h; obtain ⟨rfl, rfl⟩ := h
          obtain ⟨b0, b1⟩ := allP_cons.1 hg
          simp only [allP] at b1
          obtain ⟨u, hu, rfl⟩ := key 0 b.toNat (by simp [Instr.sliceBounds, run_sliceBound kb b l.length _ b0 b1]) rfl
          exact ⟨_, hu, by show _ = Value.string _; simp⟩
      | some a =>
       cases vl with
       | none => exact h1.elim
       | some va =>
        obtain ⟨ka, rfl⟩ := h1
        cases hi with
        | none =>
         cases vh with
         | some _ => exact h2.elim
         | none =>
          injection h with h; simp only [Prod.mk.injEq] at h; obtain ⟨rfl, rfl⟩ := h
          obtain ⟨b0, b1⟩ := allP_cons.1 hg
          simp only [allP] at b1
          obtain ⟨u, hu, rfl⟩ := key a.toNat l.length (by simp [Instr.sliceBounds, run_sliceBound ka a l.length _ b0 b1]) rfl
          exact ⟨_, hu, by show _ = Value.string _; simp⟩
        | some b =>
         cases vh with
         | none => exact h2.elim
         | some vb =>
          obtain ⟨kb, rfl⟩ := h2
          injection h with h; simp only [Prod.mk.injEq] at h; obtain ⟨rfl, rfl⟩ := h
          obtain ⟨b0, b1⟩ := allP_cons.1 hg
          obtain ⟨b1, b2⟩ := allP_cons.1 b1
          simp only [allP] at b2
          obtain ⟨u, hu, rfl⟩ := key a.toNat b.toNat (by simp [Instr.sliceBounds, run_sliceBound kb b l.length _ (by omega) (by omega), run_sliceBound ka a b.toNat _ b0 (by omega)]) rfl
          exact ⟨_, hu, rfl⟩
   ·cases h
 ·cases h
def fldT (T : Tab) (t : TypeId) (f : Nat) : Option (TypeId × Nat) := match T t with
 | some ti => (match ti.d with | .st fs => fs[f]? | _ => none)
 | none => none
theorem fldT_ok (hT : TabOk P T) {t ft fo : TypeId} {f : Nat} (h : fldT T t f = some (ft, fo)) : ∃ fs fd, P.underlying t = some (.struct fs) ∧ fs[f]? = some fd ∧ fd.type = ft ∧ fd.offset = fo := by
 unfold fldT at h
 cases ht : T t with
 | none => simp [ht] at h
 | some ti =>
  simp only [ht] at h
  cases hd : ti.d <;> simp only [hd, reduceCtorEq] at h
  rename_i l
  obtain ⟨fs, h1, h2⟩ := (hT.at ht).st hd
  rw [← h2, List.getElem?_map] at h
  cases hf : fs.toList[f]? with
  | none => simp [hf] at h
  | some fd =>
   simp only [hf, Option.map_some, Option.some.injEq, Prod.mk.injEq] at h
   exact ⟨fs, fd, h1, by rw [← Array.getElem?_toList]; exact hf, h.1, h.2⟩
def faA (T : Tab) (H : Hp) (t : TypeId) (x : AV) (f : Nat) : Option (List Prop × AV) := match fldT T t f, x with
 | some (ft, fo), .c (.pt i off) => (match T ft, live H i with
  | some tf, some o => (match decide (0 < tf.size), o.kd with
   | true, .blk => (match decide (addO off fo < o.n * o.sz) with | true => some ([], .c (.pt i (addO off fo))) | false => none)
   | true, _ => some ([addO off fo < o.n * o.sz], .c (.pt i (addO off fo)))
   | false, _ => none)
  | _, _ => none)
 | some (ft, fo), .c (.dq i p k f sz) => (match T ft with
  | some tf => (match decide (0 < tf.size ∧ f + fo < sz) with | true => some ([], .c (.dq i p k (f + fo) sz)) | false => none)
  | none => none)
 | _, _ => none
theorem faA_ok (hT : TabOk P T) (hp : HpR ρ w H) {t : TypeId} {x : AV} {f : Nat} {g : List Prop} {z : AV} (h : faA T H t x f = some (g, z)) (hg : allP g) {v : Value} (hv : avR ρ x v) :
  ∃ u, (Instr.fieldAt t v f).run P w = .ok u w ∧ avR ρ z u := by
 unfold faA at h
 split at h
 ·rename_i ft fo i off hf
  split at h
  ·rename_i tf o htf hl
   obtain ⟨fs, fd, ut, hfd, rfl, rfl⟩ := fldT_ok hT hf
   obtain ⟨h1, h2⟩ := live_ok hl
   obtain ⟨⟨e1, e2, e3⟩, _⟩ := (hp i o h1).read h2
   obtain ⟨hlt, ad, hA, rfl⟩ := hv
   obtain ⟨ie, hie, hs1, _⟩ := (hT.at htf).i
   have key : 0 < tf.size → addO off fd.offset < o.n * o.sz → ∃ u, (Instr.fieldAt t (.pointer (some (ad.add off))) f).run P w = .ok u w ∧ avR ρ (.c (.pt i (addO off fd.offset))) u := by
    intro hpos hb
    refine ⟨.pointer (some ((ad.add off).add fd.offset)), ?_, by rw [e1, e2]; exact hb, ad, hA, by rw [add_add, addO_eq]⟩
    have hne : ie.size ≠ 0 := by omega
    simp [Instr.fieldAt, run_underlying ut, hfd, Instr.sureAddr, fieldPlace, sizeOf, typeInfo, hie, hne]
   split at h
   ·rename_i hpos _
    split at h
    ·rename_i hb
     injection h with h; simp only [Prod.mk.injEq] at h; obtain ⟨rfl, rfl⟩ := h
     exact key (by simpa using hpos) (by simpa using hb)
    ·cases h
   ·rename_i hpos _
    injection h with h; simp only [Prod.mk.injEq] at h; obtain ⟨rfl, rfl⟩ := h
    exact key (by simpa using hpos) hg
   ·cases h
  ·cases h
 ·rename_i ft fo i p k f' sz hf
  split at h
  ·rename_i tf htf
   split at h
   ·rename_i hdec
    simp only [decide_eq_true_eq] at hdec
    obtain ⟨fs, fd, ut, hfd, rfl, rfl⟩ := fldT_ok hT hf
    obtain ⟨hpv, A, m, c, ad, g1, g2, g3, g4, rfl⟩ := hv
    obtain ⟨ie, hie, hs1, _⟩ := (hT.at htf).i
    injection h with h; simp only [Prod.mk.injEq] at h; obtain ⟨rfl, rfl⟩ := h
    have hne : ie.size ≠ 0 := by omega
    refine ⟨.pointer (some ((ad.add (k * sz + f')).add fd.offset)), ?_, hpv, A, m, c, ad, g1, g2, g3, hdec.2, by rw [add_add, Nat.add_assoc]⟩
    simp [Instr.fieldAt, run_underlying ut, hfd, Instr.sureAddr, fieldPlace, sizeOf, typeInfo, hie, hne]
   ·cases h
  ·cases h
 ·cases h
def ptA (T : Tab) (t : TypeId) (n : Nat) (cs : Cs) (off : Nat) : Option (List Prop × AV) := match T t with
 | some ti => (match isAggT ti.d with
  | false => (match cs.at off with | some c => some ([off < n], .c c) | none => none)
  | true => some ([off + ti.size ≤ n], .g ti.size (cs.part off ti.size)))
 | none => none
theorem ptA_ok (hT : TabOk P T) {t : TypeId} {n : Nat} {cs : Cs} {off : Nat} {g : List Prop} {z : AV} (h : ptA T t n cs off = some (g, z)) (hg : allP g) {vs : List Value} (hc : csR ρ cs vs) (hn : vs.length = n) :
  ∃ u, (part t vs.toArray off).run P w = .ok u w ∧ avR ρ z u := by
 unfold ptA at h
 cases ht : T t with
 | none => simp [ht] at h
 | some ti =>
  simp only [ht] at h
  obtain ⟨ie, hie, hs1, _⟩ := (hT.at ht).i
  cases hag : isAggT ti.d with
  | false =>
   simp only [hag] at h
   cases hat : cs.at off with
   | none => simp [hat] at h
   | some c =>
    simp only [hat] at h
    injection h with h; simp only [Prod.mk.injEq] at h; obtain ⟨rfl, rfl⟩ := h
    simp only [allP] at hg
    obtain ⟨u, hu, hr⟩ := F2.at hc (Cs.at_ok hat (by rw [← hc.len, hn]; exact hg))
    refine ⟨u, ?_, hr⟩
    have hu' : vs.toArray[off]? = some u := by simpa using hu
    unfold part
    rw [Sem.run_bind, run_isAggT (hT.at ht), hag, Result.andThen_ok]
    simp only [hu', Bool.false_eq_true, if_false, Sem.run_pure]
  | true =>
   simp only [hag] at h
   injection h with h; simp only [Prod.mk.injEq] at h; obtain ⟨rfl, rfl⟩ := h
   simp only [allP] at hg
   refine ⟨.agg ((vs.drop off).take ti.size).toArray, ?_, (vs.drop off).take ti.size, ?_, by rw [List.length_take, List.length_drop]; omega, rfl⟩
   ·have e : vs.toArray.extract off (off + ti.size) = ((vs.drop off).take ti.size).toArray := by
     apply Array.ext'
     simp [List.extract_eq_take_drop]
    unfold part
    rw [Sem.run_bind, run_isAggT (hT.at ht), hag, Result.andThen_ok]
    simp [sizeOf, typeInfo, hie, hs1, e]
   ·unfold csR
    rw [Cs.part_cl]
    exact (F2.drop hc off).take _
def fdA (T : Tab) (t : TypeId) (x : AV) (f : Nat) : Option (List Prop × AV) := match fldT T t f, x with
 | some (ft, fo), .g n cs => ptA T ft n cs fo
 | _, _ => none
theorem fdA_ok (hT : TabOk P T) {t : TypeId} {x : AV} {f : Nat} {g : List Prop} {z : AV} (h : fdA T t x f = some (g, z)) (hg : allP g) {v : Value} (hv : avR ρ x v) :
  ∃ u, (Instr.field t v f).run P w = .ok u w ∧ avR ρ z u := by
 unfold fdA at h
 split at h
 ·rename_i ft fo n cs hf
  obtain ⟨fs, fd, ut, hfd, rfl, rfl⟩ := fldT_ok hT hf
  obtain ⟨vs, hc, hn, rfl⟩ := hv
  obtain ⟨u, hu, hr⟩ := ptA_ok hT h hg hc hn (w := w)
  exact ⟨u, by simp [Instr.field, run_underlying ut, hfd, asAgg, hu], hr⟩
 ·cases h
def ixV (T : Tab) (t : TypeId) (x : AV) (n : Int) : Option (List Prop × AV) := match T t with
 | some ti => (match ti.d, x with
  | .arr N e, .g m cs => (match T e with
   | some te => (match decide (te.size = 1 ∧ m = N), isAggT te.d, cs.at n.toNat with
    | true, false, some c => some ([0 ≤ n, n < (N : Int)], .c c)
    | _, _, _ => none)
   | none => none)
  | .str, .c (.s (.str l)) => some ([0 ≤ n, n < (l.length : Int)], .c (.s (.u8 (l.getD n.toNat 0))))
  | _, _ => none)
 | none => none
theorem ixV_ok (hT : TabOk P T) {t : TypeId} {x : AV} {n : Int} {g : List Prop} {z : AV} (h : ixV T t x n = some (g, z)) (hg : allP g) {v : Value} (hv : avR ρ x v) (kd : IntKind) :
  ∃ u, (Instr.index t v (.int kd n)).run P w = .ok u w ∧ avR ρ z u := by
 unfold ixV at h
 cases ht : T t with
 | none => simp [ht] at h
 | some ti =>
  simp only [ht] at h
  split at h
  ·rename_i N e m cs hd
   have ut := (hT.at ht).arr hd
   cases he : T e with
   | none => simp [he] at h
   | some te =>
    simp only [he] at h
    split at h
    ·rename_i c hdec hag hat
     simp only [decide_eq_true_eq] at hdec
     obtain ⟨hs, rfl⟩ := hdec
     injection h with h; simp only [Prod.mk.injEq] at h; obtain ⟨rfl, rfl⟩ := h
     obtain ⟨h0, h1⟩ := allP_cons.1 hg
     simp only [allP] at h1
     obtain ⟨ie, hie, hs1, _⟩ := (hT.at he).i
     obtain ⟨vs, hc, hn, rfl⟩ := hv
     obtain ⟨u, hu, hr⟩ := F2.at hc (Cs.at_ok hat (by rw [← hc.len, hn]; omega))
     refine ⟨u, ?_, hr⟩
     have hu' : vs.toArray[n.toNat]? = some u := by simpa using hu
     have hp1 : (part e vs.toArray n.toNat).run P w = .ok u w := by
      unfold part
      rw [Sem.run_bind, run_isAggT (hT.at he), hag, Result.andThen_ok]
      simp only [hu', Bool.false_eq_true, if_false, Sem.run_pure]
     simp [Instr.index, asIntOf, run_underlying ut, sizeOf, typeInfo, hie, hs1, hs, h0, h1, hp1]
    ·cases h
  ·rename_i l hd
   have ut := (hT.at ht).str hd
   injection h with h; simp only [Prod.mk.injEq] at h; obtain ⟨rfl, rfl⟩ := h
   obtain ⟨h0, h1⟩ := allP_cons.1 hg
   simp only [allP] at h1
   have hv' : v = .string ⟨l.toArray⟩ := hv
   subst hv'
   refine ⟨_, ?_, rfl⟩
   have hlt : n.toNat < l.length := by omega
   have e1 : (ByteArray.mk l.toArray)[n.toNat]? = some (l.getD n.toNat 0) := by
    have hsz : n.toNat < (ByteArray.mk l.toArray).size := by simp [ByteArray.size]; exact hlt
    rw [getElem?_pos (ByteArray.mk l.toArray) n.toNat hsz]
    congr 1
    show (ByteArray.mk l.toArray).data[n.toNat]'(by simpa using hlt) = _
    simp [hlt]
   simp [Instr.index, asIntOf, run_underlying ut, h0, e1, Sc.val, bU]
  ·cases h
def saA (T : Tab) (H : Hp) (t : TypeId) (x : AV) : Option (List Prop × AV) := match T t, x with
 | some ti, .c y => (match ti.d with
  | .arr N e => (match slc H y, y.id? with
   | some (o, l0, m), some i => (match decide (0 < N ∧ 0 < o.sz) with | true => some ([(N : Int) ≤ (m : Int)], .c (.pt i (mulS l0 o.sz))) | false => none)
   | _, _ => none)
  | _ => none)
 | _, _ => none
theorem saA_ok (hT : TabOk P T) (hp : HpR ρ w H) {t : TypeId} {x : AV} {g : List Prop} {z : AV} (h : saA T H t x = some (g, z)) (hg : allP g) {v : Value} (hv : avR ρ x v) :
  ∃ u, (Instr.arrayAt t v).run P w = .ok u w ∧ avR ρ z u := by
 unfold saA at h
 split at h
 ·rename_i ti y ht
  cases hd : ti.d <;> simp only [hd, reduceCtorEq] at h
  rename_i N e
  have ut := (hT.at ht).arr hd
  split at h
  ·rename_i o l0 m i hs hi
   split at h
   ·rename_i hdec
    simp only [decide_eq_true_eq] at hdec
    injection h with h; simp only [Prod.mk.injEq] at h; obtain ⟨rfl, rfl⟩ := h
    simp only [allP] at hg
    have hN : N ≤ m := by omega
    obtain ⟨hle, hlen, vs, hc, hS⟩ := slc_ok hp hs hv
    obtain ⟨e1, e2, hA⟩ := slc_pl hp hs hi hv
    obtain ⟨A, c, rfl, g1, g2, g3, g4⟩ := hS.ex
    have hA' := hA A c rfl (by omega)
    cases hh : (ρ i).A with
    | none => rw [hh] at hA'; have := g3 hA'; omega
    | some ad =>
     rw [hh] at hA'
     refine ⟨.pointer (some (ad.add (l0 * o.sz))), ?_, ?_, ad, hh, by rw [mulS_eq]⟩
     ·have hlt : ¬ m < N := by omega
      simp [Instr.arrayAt, run_underlying ut, hlt, hA']
     ·rw [mulS_eq, e1, e2]; exact Nat.mul_lt_mul_of_pos_right (by omega) hdec.2
   ·cases h
  ·cases h
 ·cases h
end
end Go.Sx
end
