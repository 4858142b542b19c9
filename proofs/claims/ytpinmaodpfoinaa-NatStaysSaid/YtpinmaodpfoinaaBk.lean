import Derived.Test.YtpinmaodpfoinaaWd
import Derived.Laws.Rows
import Derived.Laws.Tables
set_option linter.unusedVariables false
set_option linter.unusedSimpArgs false
namespace Go.Ch
open Go.RowKit

theorem info_size {P : Program} {e : TypeId} {z : Value} {size bytes : Nat} (h : (P.info? e).map (fun i => (i.zero, i.size, i.bytes)) = some (some z, size, bytes)) : (P.info? e).map (·.size) = some size := by
  cases hi : P.info? e with
  | none => rw [hi] at h; cases h
  | some i => rw [hi] at h; simp at h; simp [h.2.1]
/-! ### a block of the call's own, known whole (a local array or struct, a boxed parameter) -/
def Blk (w : World) (g : Nat) (t : TypeId) (cs : Array Value) : Prop := w.heap[g]? = some (.cells cs t (0, 0))

section blocks
variable {P : Program} {w w' : World} {g : Nat} {t : TypeId} {cs : Array Value}
theorem Blk.lt (h : Blk w g t cs) : g < w.heap.size := by
  rcases Nat.lt_or_ge g w.heap.size with hlt | hge
  · exact hlt
  · unfold Blk at h; rw [Array.getElem?_eq_none hge] at h; cases h
theorem Blk.cell (h : Blk w g t cs) (i : Nat) : w.cell? ⟨g, i, none⟩ = cs[i]? := cell_of_row w g i cs t (0, 0) h
theorem Blk.ext (h : Blk w g t cs) (hx : Ext w w') : Blk w' g t cs := (hx.block g h.lt).trans h
theorem Blk.ne {g' : Nat} {t' : TypeId} {cs' : Array Value} (h : Blk w g t cs) (h' : Blk w g' t' cs') (ht : t ≠ t') : g ≠ g' := by
  intro e; subst e
  have := h.symm.trans h'
  simp at this
  exact ht this.2
theorem Blk.back (hx : Ext w w') (h : Blk w g t cs) : Blk w' g t cs := h.ext hx
theorem Blk.extd (h : Blk w g t cs) (hx : Ext w.drew w') : Blk w' g t cs := h.ext hx.undrew
theorem Blk.grown {row : Option Nat} (h : Blk w g t cs) (hg : w.grownBy w' row) (hne : row ≠ some g) : Blk w' g t cs := (hg.block g h.lt (fun e => hne e.symm)).trans h
theorem Blk.new (w : World) (t : TypeId) (cs : Array Value) : Blk (w.alloc (.cells cs t)) w.heap.size t cs := heap_alloc_new w _
theorem Blk.set_ (h : Blk w g t cs) (i : Nat) (u : Value) : Blk (w.setCell ⟨g, i, none⟩ u) g t (cs.setIfInBounds i u) := heap_setCell_same w g i cs t u h
theorem Blk.setRow (h : Blk w g t cs) (cs' : Array Value) : Blk (w.setRow g cs') g t cs' := setRow_heap w g cs cs' t (0, 0) h
theorem Blk.at_ (h : Blk w g t cs) {i : Nat} {u : Value} (hu : cs[i]? = some u) : w.cell? ⟨g, i, none⟩ = some u := (h.cell i).trans hu
theorem grown_setCell (w : World) (g i : Nat) (u : Value) : w.grownBy (w.setCell ⟨g, i, none⟩ u) (some g) :=
  ⟨rfl, rfl, rfl, by simp, fun k _ hk => heap_setCell_other w ⟨g, i, none⟩ k u (fun e => hk (by simp [e]))⟩
theorem grown_setRow (w : World) (g : Nat) (cs : Array Value) : w.grownBy (w.setRow g cs) (some g) :=
  ⟨rfl, rfl, rfl, by simp, fun k _ hk => setRow_other w g k cs (fun e => hk (by simp [e]))⟩
/-- a store into block g leaves what lies below -/
theorem grown_below {B : Nat} (h : w.grownBy w' (some g)) (hB : B ≤ g) (hw : B ≤ w.heap.size) : Below B w w' :=
  (Below.refl _ _).grown h hw (fun k hk => by injection hk with hk; omega)
end blocks

section rules
variable {P : Program} {w : World} {ops : Array Oper} {rest : List Oper} {a : Act} {Q : Exit → Act → World → Prop}

theorem g_storeat {n : Nat} {t : TypeId} {y : Operand} {ty : TypeId} {pos : String} {aft : Array Edge} {g : Option (Nat × Bool)} (h : wpList P ops Q (⟨none, .store t (.tmp n) y, ty, pos, aft, g⟩ :: rest) a w) : wpList P ops Q (⟨none, .store t (.tmp n) y, ty, pos, aft, g⟩ :: rest) a w := h

theorem wpl_skip {o : Oper} {w' : World} (hw : Region.wanted o (yielded ops a.tmps) = true) (hr : (execOp a.eval o).run P w = .ok .skip w')
    (h : wpList P ops Q rest (a.put o.dst undef) w') : wpList P ops Q (o :: rest) a w := by
  refine wpList_step fun K hK => ?_
  rw [if_pos hw]
  unfold Oper.wp
  rw [hr]
  exact hK _ _ h

theorem wpl_box {dst ty pos aft g t} {x : Operand} {v : Value} {cs : Array Value} (hx : a.eval x = v) (hcs : v.cells = cs)
    (h : ∀ b w', Blk w' b t cs → w.heap.size ≤ b → Ext w w' → wpList P ops Q rest (a.put dst (.pointer (some ⟨b, 0, none⟩))) w')
    (hw : Region.wanted ⟨dst, .box t x, ty, pos, aft, g⟩ (yielded ops a.tmps) = true := by rfl) :
    wpList P ops Q (⟨dst, .box t x, ty, pos, aft, g⟩ :: rest) a w := by
  refine wpl_val hw ?_ (h _ _ (Blk.new w t cs) (Nat.le_refl _) ((Below.refl _ _).alloc (Nat.le_refl _) _))
  subst hcs
  simp [execOp, hx, Instr.box, newVar, newRow]
theorem wpl_alloc {dst ty pos aft g t} {i : TypeInfo} {z : Value} {cs : Array Value} (hi : P.info? t = some i) (hz : i.zero = some z) (hcs : z.cells = cs)
    (h : ∀ b w', Blk w' b t cs → w.heap.size ≤ b → Ext w w' → wpList P ops Q rest (a.put dst (.pointer (some ⟨b, 0, none⟩))) w')
    (hw : Region.wanted ⟨dst, .alloc t, ty, pos, aft, g⟩ (yielded ops a.tmps) = true := by rfl) :
    wpList P ops Q (⟨dst, .alloc t, ty, pos, aft, g⟩ :: rest) a w := by
  refine wpl_val hw ?_ (h _ _ (Blk.new w t cs) (Nat.le_refl _) ((Below.refl _ _).alloc (Nat.le_refl _) _))
  subst hcs
  have hz' : (zeroValue t).run P w = .ok z w := by simp [zeroValue, typeInfo, hi, hz]
  simp [execOp, Instr.alloc, hz', newVar, newRow]

/-- the address of an element of an array that lies in a block -/
theorem wpl_ixarr {dst ty pos aft g} {x i : Operand} {t e : TypeId} {n : Nat} {info : TypeInfo} {b k : Nat} {m : Int} {kd : IntKind}
    (hx : a.eval x = .pointer (some ⟨b, 0, none⟩)) (hi : a.eval i = .int kd m) (ht : P.underlying t = some (.array n e)) (hinfo : P.info? e = some info) (hs : info.size = 1) (hm : m = (k : Int)) (hk : k < n)
    (h : wpList P ops Q rest (a.put dst (.pointer (some ⟨b, k, none⟩))) w)
    (hw : Region.wanted ⟨dst, .indexAddr t x i, ty, pos, aft, g⟩ (yielded ops a.tmps) = true := by rfl) :
    wpList P ops Q (⟨dst, .indexAddr t x i, ty, pos, aft, g⟩ :: rest) a w := by
  refine wpl_val hw ?_ h
  subst hm
  have e1 : (⟨b, 0, none⟩ : Addr).add k = ⟨b, k, none⟩ := by unfold Addr.add; split <;> simp_all
  simp [execOp, hx, hi, Instr.indexAt, asIntOf, Instr.sureAddr, run_underlying ht, sizeOf, typeInfo, hinfo, hs, hk, e1]

/-- an element of an array that is a value -/
theorem wpl_ixval {dst ty pos aft g} {x i : Operand} {t e : TypeId} {n : Nat} {info : TypeInfo} {cs : Array Value} {k : Nat} {m : Int} {kd : IntKind} {u : Value} {ds : TypeDesc}
    (hx : a.eval x = .agg cs) (hi : a.eval i = .int kd m) (ht : P.underlying t = some (.array n e)) (he : P.underlying e = some ds) (hds : (match ds with | .struct _ | .array _ _ => false | _ => true) = true) (hinfo : P.info? e = some info) (hs : info.size = 1) (hm : m = (k : Int)) (hk : k < n) (hu : cs[k]? = some u)
    (h : wpList P ops Q rest (a.put dst u) w)
    (hw : Region.wanted ⟨dst, .index t x i, ty, pos, aft, g⟩ (yielded ops a.tmps) = true := by rfl) :
    wpList P ops Q (⟨dst, .index t x i, ty, pos, aft, g⟩ :: rest) a w := by
  refine wpl_val hw ?_ h
  subst hm
  have hagg : (isAgg e).run P w = .ok false w := by
    unfold isAgg
    rw [Sem.run_bind, run_underlying he w]
    cases ds <;> simp_all
  simp [execOp, hx, hi, Instr.index, asIntOf, run_underlying ht, sizeOf, typeInfo, hinfo, hs, hk, part, hagg, hu]

theorem run_isAgg_no {t : TypeId} {ds : TypeDesc} (ht : P.underlying t = some ds) (hds : (match ds with | .struct _ | .array _ _ => false | _ => true) = true) : (isAgg t).run P w = .ok false w := by
  unfold isAgg
  rw [Sem.run_bind, run_underlying ht w]
  cases ds <;> simp_all

/-- the load of one cell -/
theorem wpl_load1 {dst ty pos aft g} {x : Operand} {t : TypeId} {ad : Addr} {u : Value} {ds : TypeDesc} (hx : a.eval x = .pointer (some ad)) (ht : P.underlying t = some ds) (hds : (match ds with | .struct _ | .array _ _ => false | _ => true) = true)
    (hc : w.cell? ad = some u) (h : wpList P ops Q rest (a.put dst u) w)
    (hw : Region.wanted ⟨dst, .load t x, ty, pos, aft, g⟩ (yielded ops a.tmps) = true := by rfl) :
    wpList P ops Q (⟨dst, .load t x, ty, pos, aft, g⟩ :: rest) a w := by
  refine wpl_val hw ?_ h
  simp [execOp, hx, Instr.loadAt, Instr.sureAddr, loadVar, run_isAgg_no ht hds, hc]

/-- the load of a whole array or struct -/
theorem wpl_loadrow {dst ty pos aft g} {x : Operand} {t t' : TypeId} {b : Nat} {cs : Array Value} {d : TypeDesc} (hx : a.eval x = .pointer (some ⟨b, 0, none⟩)) (hb : Blk w b t' cs)
    (hu : P.underlying t = some d) (hd : (match d with | .struct _ | .array _ _ => true | _ => false) = true) (hi : (P.info? t).map (·.size) = some cs.size)
    (h : wpList P ops Q rest (a.put dst (.agg cs)) w)
    (hw : Region.wanted ⟨dst, .load t x, ty, pos, aft, g⟩ (yielded ops a.tmps) = true := by rfl) :
    wpList P ops Q (⟨dst, .load t x, ty, pos, aft, g⟩ :: rest) a w := by
  refine wpl_val hw ?_ h
  simp [execOp, hx, Instr.loadAt, Instr.sureAddr, run_loadVar_row w b t' t cs (0, 0) d hb hu hd hi]

/-- a store into one cell of a block -/
theorem wpl_store1 {ty pos aft g} {x y : Operand} {t t' : TypeId} {b k : Nat} {cs : Array Value} {u : Value} {info : TypeInfo} (hx : a.eval x = .pointer (some ⟨b, k, none⟩)) (hy : a.eval y = u) (hinfo : P.info? t = some info) (hs : info.size = 1)
    (hu : u.cells = #[u]) (h1 : u.oneCell' = true) (hb : Blk w b t' cs) (hk : k < cs.size)
    (h : ∀ w', Blk w' b t' (cs.setIfInBounds k u) → w.grownBy w' (some b) → w'.heap.size = w.heap.size → wpList P ops Q rest (a.put none undef) w')
    (hw : Region.wanted ⟨none, .store t x y, ty, pos, aft, g⟩ (yielded ops a.tmps) = true := by rfl) :
    wpList P ops Q (⟨none, .store t x y, ty, pos, aft, g⟩ :: rest) a w := by
  have hc : w.cell? ⟨b, k, none⟩ = some cs[k] := hb.at_ (Array.getElem?_eq_getElem hk)
  have hf : w.frozen? ⟨b, k, none⟩ = false := frozen_of_row w b k cs t' hb
  refine wpl_skip hw ?_ (h _ (hb.set_ k u) (grown_setCell w b k u) (by simp))
  have hst : (store ⟨b, k, none⟩ u).run P w = .ok () (w.setCell ⟨b, k, none⟩ u) := by
    rw [run_store P w _ u .plain h1]
    simp [stored, hc, hf]
  have e1 : (⟨b, k, none⟩ : Addr).add 0 = ⟨b, k, none⟩ := by simp [Addr.add]
  simp [execOp, hx, hy, Instr.storeAt, Instr.sureAddr, storeVar, sizeOf, typeInfo, hinfo, hs, hu, storeCells, e1, hst]

theorem run_storeCells_row {t : TypeId} : ∀ (vs : List Value) (i b : Nat) (cur : Array Value) (w : World), Blk w b t cur → i + vs.length ≤ cur.size → (∀ u ∈ vs, u.oneCell' = true) →
    ∃ w', (storeCells ⟨b, 0, none⟩ vs i).run P w = .ok () w' ∧ Blk w' b t (cur.toList.take i ++ vs ++ cur.toList.drop (i + vs.length)).toArray ∧ w.grownBy w' (some b) ∧ w'.heap.size = w.heap.size
  | [], i, b, cur, w, hb, hi, _ => ⟨w, by simp [storeCells], by simpa using hb, ⟨rfl, rfl, rfl, Nat.le_refl _, fun _ _ _ => rfl⟩, rfl⟩
  | u :: vs, i, b, cur, w, hb, hi, h1 => by
    simp only [List.length_cons] at hi
    have hc : w.cell? ⟨b, i, none⟩ = some cur[i] := hb.at_ (Array.getElem?_eq_getElem (by omega))
    have hf : w.frozen? ⟨b, i, none⟩ = false := frozen_of_row w b i cur t hb
    have hst : (store ⟨b, i, none⟩ u).run P w = .ok () (w.setCell ⟨b, i, none⟩ u) := by
      rw [run_store P w _ u .plain (h1 u (by simp))]
      simp [stored, hc, hf]
    have e1 : (⟨b, 0, none⟩ : Addr).add i = ⟨b, i, none⟩ := by unfold Addr.add; split <;> simp_all
    obtain ⟨w', hr, hB, hg, hsz⟩ := run_storeCells_row vs (i + 1) b (cur.setIfInBounds i u) (w.setCell ⟨b, i, none⟩ u) (hb.set_ i u) (by simp; omega) (fun x hx => h1 x (by simp [hx]))
    refine ⟨w', by simp [storeCells, e1, hst, hr], ?_, ?_, by rw [hsz]; simp⟩
    · have : (cur.toList.take i ++ u :: vs ++ cur.toList.drop (i + (vs.length + 1))).toArray = ((cur.setIfInBounds i u).toList.take (i + 1) ++ vs ++ (cur.setIfInBounds i u).toList.drop (i + 1 + vs.length)).toArray := by
        congr 1
        rw [Array.toList_setIfInBounds]
        have hk' : i < cur.toList.length := by simp; omega
        have e2 : (cur.toList.set i u).take (i + 1) = cur.toList.take i ++ [u] := by
          rw [List.take_set, List.take_succ_eq_append_getElem hk', List.set_append_right _ _ (by simp; omega)]
          simp only [List.length_take, Nat.min_eq_left (Nat.le_of_lt hk'), Nat.sub_self, List.set_cons_zero]
        rw [e2, List.drop_set_of_lt (by omega)]
        simp [Nat.add_assoc, Nat.add_comm 1]
      simp only [List.length_cons]
      rw [this]
      exact hB
    · have h2 := grown_setCell w b i u
      exact ⟨hg.os.trans h2.os, hg.tape.trans h2.tape, hg.output.trans h2.output, Nat.le_trans h2.size hg.size, fun k hk hne => (hg.block k (by simpa using hk) hne).trans (h2.block k hk hne)⟩

/-- a store of a whole array or struct -/
theorem wpl_storerow {ty pos aft g} {x y : Operand} {t t' : TypeId} {b : Nat} {cs cs' : Array Value} {info : TypeInfo} (hx : a.eval x = .pointer (some ⟨b, 0, none⟩)) (hy : a.eval y = .agg cs') (hinfo : P.info? t = some info) (hs : info.size = cs'.size)
    (h1 : ∀ u ∈ cs'.toList, u.oneCell' = true) (hb : Blk w b t' cs) (hk : cs'.size = cs.size)
    (h : ∀ w', Blk w' b t' cs' → w.grownBy w' (some b) → w'.heap.size = w.heap.size → wpList P ops Q rest (a.put none undef) w')
    (hw : Region.wanted ⟨none, .store t x y, ty, pos, aft, g⟩ (yielded ops a.tmps) = true := by rfl) :
    wpList P ops Q (⟨none, .store t x y, ty, pos, aft, g⟩ :: rest) a w := by
  obtain ⟨w', hr, hB, hg, hsz⟩ := run_storeCells_row (P := P) cs'.toList 0 b cs w hb (by simp [hk]) h1
  have e : (cs.toList.take 0 ++ cs'.toList ++ cs.toList.drop (0 + cs'.toList.length)).toArray = cs' := by
    rw [show cs.toList.drop (0 + cs'.toList.length) = [] from List.drop_of_length_le (by simp [hk])]
    simp
  rw [e] at hB
  refine wpl_skip hw ?_ (h w' hB hg hsz)
  simp [execOp, hx, hy, Instr.storeAt, Instr.sureAddr, storeVar, sizeOf, typeInfo, hinfo, hs, Value.cells, hr]

/-- an operation on two known values -/
theorem wpl_bin {dst ty pos aft g op t t'} {x y : Operand} {cx cy c : Value} (hx : a.eval x = cx) (hy : a.eval y = cy) (hr : binRun P op t x y cx cy w = .ok c w)
    (h : wpList P ops Q rest (a.put dst c) w) (hw : Region.wanted ⟨dst, .binOp op t x y t', ty, pos, aft, g⟩ (yielded ops a.tmps) = true := by rfl) :
    wpList P ops Q (⟨dst, .binOp op t x y t', ty, pos, aft, g⟩ :: rest) a w := by
  refine wpl_val hw ?_ h
  unfold binRun at hr
  simp only [execOp, hx, hy, Sem.run_bind] at hr ⊢
  rw [hr]
  rfl
theorem wpl_un {dst ty pos aft g op t} {x : Operand} {cx c : Value} (hx : a.eval x = cx) (hr : (Op.unary op cx).run P w = .ok c w)
    (h : wpList P ops Q rest (a.put dst c) w) (hw : Region.wanted ⟨dst, .unOp op t x, ty, pos, aft, g⟩ (yielded ops a.tmps) = true := by rfl) :
    wpList P ops Q (⟨dst, .unOp op t x, ty, pos, aft, g⟩ :: rest) a w := by
  refine wpl_val hw ?_ h
  simp [execOp, hx, hr]
theorem wpl_conv {dst ty pos aft g s t} {x : Operand} {cx c : Value} (hx : a.eval x = cx) (hr : (convert s t cx).run P w = .ok c w)
    (h : wpList P ops Q rest (a.put dst c) w) (hw : Region.wanted ⟨dst, .convert s t x, ty, pos, aft, g⟩ (yielded ops a.tmps) = true := by rfl) :
    wpList P ops Q (⟨dst, .convert s t x, ty, pos, aft, g⟩ :: rest) a w := by
  refine wpl_val hw ?_ h
  simp [execOp, hx, hr]
end rules

section rules
variable {P : Program} {ops : Array Oper} {w0 : World} {rest : List Oper} {E : Nat → Pred} {K : List (Option Tmp × Pred) → Prop}

theorem r_ixarr {d ty pos aft g} {x i : Operand} {t e : TypeId} {n : Nat} {info : TypeInfo} {b k : Nat} {m : Int} {kd : IntKind}
    (ht : P.underlying t = some (.array n e)) (hinfo : P.info? e = some info) (hs : info.size = 1) (hx : EP E x = fun v _ => v = .pointer (some ⟨b, 0, none⟩)) (hi : EP E i = fun v _ => v = .int kd m) (hm : m = (k : Int)) (hk : k < n)
    (h : RW P ops Ext w0 rest (upd E d (fun v _ => v = .pointer (some ⟨b, k, none⟩))) (fun L => K ((d, fun v _ => v = .pointer (some ⟨b, k, none⟩)) :: L)))
    (hgd : GuardOk ops E g := by first | exact True.intro | exact ⟨_, rfl, rfl⟩) :
    RW P ops Ext w0 (⟨d, .indexAddr t x i, ty, pos, aft, g⟩ :: rest) E K := by
  refine r_still _ (stays_eq _) (fun _ => Below.refl _ _) hgd (fun ev w hX hE => ⟨_, ?_, rfl⟩) h
  have h1 : ev x = .pointer (some ⟨b, 0, none⟩) := by have h2 := hE x (by simp [Op.operands]); rw [hx] at h2; exact h2
  have h2 : ev i = .int kd m := by have h2 := hE i (by simp [Op.operands]); rw [hi] at h2; exact h2
  subst hm
  have e1 : (⟨b, 0, none⟩ : Addr).add k = ⟨b, k, none⟩ := by unfold Addr.add; split <;> simp_all
  simp [execOp, h1, h2, Instr.indexAt, asIntOf, Instr.sureAddr, run_underlying ht, sizeOf, typeInfo, hinfo, hs, hk, e1]

/-- the load of a cell of a block of the call's own -/
theorem r_load1 {d ty pos aft g} {x : Operand} {t t' : TypeId} {b k : Nat} {cs : Array Value} {u : Value} {ds : TypeDesc} (ht : P.underlying t = some ds) (hds : (match ds with | .struct _ | .array _ _ => false | _ => true) = true)
    (hx : EP E x = fun v _ => v = .pointer (some ⟨b, k, none⟩)) (hb : Blk w0 b t' cs) (hu : cs[k]? = some u)
    (h : RW P ops Ext w0 rest (upd E d (fun v _ => v = u)) (fun L => K ((d, fun v _ => v = u) :: L)))
    (hgd : GuardOk ops E g := by first | exact True.intro | exact ⟨_, rfl, rfl⟩) :
    RW P ops Ext w0 (⟨d, .load t x, ty, pos, aft, g⟩ :: rest) E K := by
  refine r_still _ (stays_eq u) (fun _ => Below.refl _ _) hgd (fun ev w hX hE => ⟨u, ?_, rfl⟩) h
  have h1 : ev x = .pointer (some ⟨b, k, none⟩) := by have h2 := hE x (by simp [Op.operands]); rw [hx] at h2; exact h2
  have hc := (hb.ext hX).at_ hu
  simp [execOp, h1, Instr.loadAt, Instr.sureAddr, loadVar, run_isAgg_no ht hds, hc]
theorem r_loadrow {d ty pos aft g} {x : Operand} {t t' : TypeId} {b : Nat} {cs : Array Value} {dd : TypeDesc} (hu : P.underlying t = some dd) (hd : (match dd with | .struct _ | .array _ _ => true | _ => false) = true)
    (hx : EP E x = fun v _ => v = .pointer (some ⟨b, 0, none⟩)) (hb : Blk w0 b t' cs) (hi : (P.info? t).map (·.size) = some cs.size)
    (h : RW P ops Ext w0 rest (upd E d (fun v _ => v = .agg cs)) (fun L => K ((d, fun v _ => v = .agg cs) :: L)))
    (hgd : GuardOk ops E g := by first | exact True.intro | exact ⟨_, rfl, rfl⟩) :
    RW P ops Ext w0 (⟨d, .load t x, ty, pos, aft, g⟩ :: rest) E K := by
  refine r_still _ (stays_eq _) (fun _ => Below.refl _ _) hgd (fun ev w hX hE => ⟨_, ?_, rfl⟩) h
  have h1 : ev x = .pointer (some ⟨b, 0, none⟩) := by have h2 := hE x (by simp [Op.operands]); rw [hx] at h2; exact h2
  simp [execOp, h1, Instr.loadAt, Instr.sureAddr, run_loadVar_row w b t' t cs (0, 0) dd (hb.ext hX) hu hd hi]

theorem r_pick {d ty pos aft g} {c x y : Operand} {b : Bool} (R : Pred) (hc : EP E c = fun v _ => v = .bool b) (hx : EP E (if b then x else y) = R) (hs : Stays R)
    (h : RW P ops Ext w0 rest (upd E d R) (fun L => K ((d, R) :: L)))
    (hgd : GuardOk ops E g := by first | exact True.intro | exact ⟨_, rfl, rfl⟩) :
    RW P ops Ext w0 (⟨d, .pick c x y, ty, pos, aft, g⟩ :: rest) E K := by
  refine r_still R hs (fun _ => Below.refl _ _) hgd (fun ev w hX hE => ?_) h
  have h1 : ev c = .bool b := by have h2 := hE c (by simp [Op.operands]); rw [hc] at h2; exact h2
  cases b
  · refine ⟨ev y, by simp [execOp, h1, asBool], ?_⟩
    have := hE y (by simp [Op.operands])
    rw [← hx]; simpa using this
  · refine ⟨ev x, by simp [execOp, h1, asBool], ?_⟩
    have := hE x (by simp [Op.operands])
    rw [← hx]; simpa using this
end rules
end Go.Ch
