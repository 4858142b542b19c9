import Derived.Test.YtpinmaodpfoinaaRe
import Derived.Laws.OwnMore
import Derived.Laws.MakeOwn
set_option linter.unusedVariables false
set_option linter.unusedSimpArgs false
namespace Go.Ch
open Go.RowKit

section rules
variable {P : Program} {w : World} {ops : Array Oper} {rest : List Oper} {a : Act} {Q : Exit → Act → World → Prop}

theorem madeCells_one {z : Value} (h : z.cells = #[z]) (n : Nat) : (madeCells z.cells (n * 1)).toList = List.replicate n z := by
  rw [h, Nat.mul_one]
  apply List.ext_getElem?
  intro j
  unfold madeCells
  by_cases hj : j < n
  · simp [hj, Nat.mod_one]
  · simp [hj]

/-- make([]T, n) -/
theorem wpl_make {dst ty pos aft g} {x y : Operand} {t e : TypeId} {i : TypeInfo} {z : Value} {n : Nat} {kl kc : IntKind} {m m' : Int} (hx : a.eval x = .int kl m) (hy : a.eval y = .int kc m') (ht : P.underlying t = some (.slice e)) (hi : P.info? e = some i) (hz : i.zero = some z)
    (hsize : i.size = 1) (hz1 : z.cells = #[z]) (hm : m = (n : Int)) (hm' : m' = (n : Int)) (hb : i.bytes * n ≤ 281474976710656) (hn : n ≤ 281474976710656)
    (h : ∀ v' w', Own w' w.heap.size e v' (List.replicate n z) → Ext w w' → v'.ownBlock = some w.heap.size → wpList P ops Q rest (a.put dst v') w')
    (hw : Region.wanted ⟨dst, .makeSlice t x y, ty, pos, aft, g⟩ (yielded ops a.tmps) = true := by rfl) :
    wpList P ops Q (⟨dst, .makeSlice t x y, ty, pos, aft, g⟩ :: rest) a w := by
  obtain ⟨w', hrun, ho, hg⟩ := run_make_full (P := P) w w.heap.size t e i z 1 ht hi hz hsize kl kc n hb (by unfold maxLen; omega) (Nat.le_refl _)
  rw [madeCells_one hz1] at ho
  refine wpl_val hw ?_ (h _ w' (by unfold Own; rw [List.length_replicate]; exact ho) ((Below.refl _ _).grown hg (Nat.le_refl _) (fun k hk => by cases hk)) rfl)
  subst hm; subst hm'
  simp [execOp, hx, hy, hrun]

/-- ad is the k-th element's of the owned slice v -/
def At (v : Value) (k : Nat) (ad : Addr) : Prop := ∃ g n c, v = .slice (some ⟨g, 0, none⟩) n c ∧ ad = ⟨g, k, none⟩

/-- the address of an element of an owned slice -/
theorem wpl_ixown {dst ty pos aft g} {x i : Operand} {t e : TypeId} {info : TypeInfo} {v : Value} {B : Nat} {xs : List Value} {k : Nat} {n : Int} {kd : IntKind}
    (hx : a.eval x = v) (hi : a.eval i = .int kd n) (ht : P.underlying t = some (.slice e)) (hinfo : P.info? e = some info) (hs : info.size = 1)
    (hown : Own w B e v xs) (hn : n = (k : Int)) (hk : k < xs.length)
    (h : ∀ ad : Addr, At v k ad → w.cell? ad = xs[k]? → wpList P ops Q rest (a.put dst (.pointer (some ad))) w)
    (hw : Region.wanted ⟨dst, .indexAddr t x i, ty, pos, aft, g⟩ (yielded ops a.tmps) = true := by rfl) :
    wpList P ops Q (⟨dst, .indexAddr t x i, ty, pos, aft, g⟩ :: rest) a w := by
  have hown' := hown
  rcases hown'.2 with ⟨rfl, h0⟩ | ⟨g', cap, cur, rfl, hB, hg, hnc, hcm, hsz, htk⟩
  · omega
  · have hc := World.ownsRow.cellAt hown k (by omega)
    refine wpl_val hw ?_ (h ⟨g', k, none⟩ ⟨g', _, _, rfl, rfl⟩ hc)
    subst hn
    have e1 : (⟨g', 0, none⟩ : Addr).add k = ⟨g', k, none⟩ := by unfold Addr.add; split <;> simp_all
    simp [execOp, hx, hi, Instr.indexAt, asIntOf, run_underlying ht, sizeOf, typeInfo, hinfo, hs, hk, e1]

/-- a store into an element of an owned slice -/
theorem wpl_storeown {ty pos aft g} {x y : Operand} {t e : TypeId} {B k : Nat} {v u : Value} {xs : List Value} {ad : Addr} {info : TypeInfo} (hx : a.eval x = .pointer (some ad)) (hy : a.eval y = u) (hinfo : P.info? t = some info) (hs : info.size = 1)
    (hu : u.cells = #[u]) (h1 : u.oneCell' = true) (hat : At v k ad) (hown : Own w B e v xs) (hk : k < xs.length)
    (h : ∀ w', Own w' B e v (xs.set k u) → w.grownBy w' v.ownBlock → w'.heap.size = w.heap.size → wpList P ops Q rest (a.put none undef) w')
    (hw : Region.wanted ⟨none, .store t x y, ty, pos, aft, g⟩ (yielded ops a.tmps) = true := by rfl) :
    wpList P ops Q (⟨none, .store t x y, ty, pos, aft, g⟩ :: rest) a w := by
  obtain ⟨g', n', c', rfl, rfl⟩ := hat
  have hn : n' = xs.length := by
    rcases hown.2 with ⟨h0, _⟩ | ⟨_, _, _, h0, _⟩
    · cases h0
    · injection h0
  subst hn
  have hc : w.cell? ⟨g', k, none⟩ = some xs[k] := by rw [World.ownsRow.cellAt hown k (by omega), List.getElem?_eq_getElem hk]
  have hf : w.frozen? ⟨g', k, none⟩ = false := World.ownsRow.frozenAt hown k
  obtain ⟨hs1, hs2⟩ := World.ownsRow.stored hown k u
  refine wpl_skip hw ?_ (h _ (by unfold Own; rw [List.length_set]; exact hs1) hs2 (by simp))
  have hst : (store ⟨g', k, none⟩ u).run P w = .ok () (w.setCell ⟨g', k, none⟩ u) := by
    rw [run_store P w _ u .plain h1]
    simp [stored, hc, hf]
  have e1 : (⟨g', k, none⟩ : Addr).add 0 = ⟨g', k, none⟩ := by simp [Addr.add]
  simp [execOp, hx, hy, Instr.storeAt, Instr.sureAddr, storeVar, sizeOf, typeInfo, hinfo, hs, hu, storeCells, e1, hst]

theorem run_isAgg_yes {t : TypeId} {ds : TypeDesc} (ht : P.underlying t = some ds) (hds : (match ds with | .struct _ | .array _ _ => true | _ => false) = true) : (isAgg t).run P w = .ok true w := by
  unfold isAgg
  rw [Sem.run_bind, run_underlying ht w]
  cases ds <;> simp_all

theorem run_loadVar_cells {t : TypeId} {ds : TypeDesc} {ad : Addr} {cs : List Value} (ht : P.underlying t = some ds) (hds : (match ds with | .struct _ | .array _ _ => true | _ => false) = true) (hi : (P.info? t).map (·.size) = some cs.length)
    (hc : ∀ j u, cs[j]? = some u → w.cell? (ad.add j) = some u) : (loadVar t ad).run P w = .ok (.agg cs.toArray) w := by
  have hl := run_loadCells_list (P := P) w ad cs hc
  cases hq : P.info? t with
  | none => simp [hq] at hi
  | some i =>
    have hs : i.size = cs.length := by simpa [hq] using hi
    simp [loadVar, run_isAgg_yes ht hds, sizeOf, typeInfo, hq, hs, hl]

/-- the load of an array or struct that lies anywhere -/
theorem wpl_loadcells {dst ty pos aft g} {x : Operand} {t : TypeId} {ad : Addr} {cs : List Value} {ds : TypeDesc} (hx : a.eval x = .pointer (some ad)) (ht : P.underlying t = some ds) (hds : (match ds with | .struct _ | .array _ _ => true | _ => false) = true)
    (hi : (P.info? t).map (·.size) = some cs.length) (hc : ∀ j u, cs[j]? = some u → w.cell? (ad.add j) = some u)
    (h : wpList P ops Q rest (a.put dst (.agg cs.toArray)) w)
    (hw : Region.wanted ⟨dst, .load t x, ty, pos, aft, g⟩ (yielded ops a.tmps) = true := by rfl) :
    wpList P ops Q (⟨dst, .load t x, ty, pos, aft, g⟩ :: rest) a w := by
  refine wpl_val hw ?_ h
  simp [execOp, hx, Instr.loadAt, Instr.sureAddr, run_loadVar_cells ht hds hi hc]

theorem Own.set_len {B e v xs} (h : Own w B e v xs) : ∃ A c, v = .slice A xs.length c := by
  rcases h.2 with ⟨rfl, h0⟩ | ⟨g, cap, cur, rfl, _⟩
  · exact ⟨none, 0, by rw [h0]⟩
  · exact ⟨_, _, rfl⟩
end rules

theorem Blk.under {w w' : World} {B g : Nat} {t : TypeId} {cs : Array Value} (h : Blk w g t cs) (hx : Below B w w') (hg : g < B) : Blk w' g t cs := (hx.block g hg).trans h
/-- a part of a block, read from its place on -/
theorem Blk.part {w : World} {g : Nat} {t : TypeId} {cs : Array Value} (h : Blk w g t cs) (i : Nat) {xs : List Value} (hp : (cs.toList.drop i).take xs.length = xs) : ∀ j u, xs[j]? = some u → w.cell? ((⟨g, i, none⟩ : Addr).add j) = some u := by
  intro j u hu
  have e1 : (⟨g, i, none⟩ : Addr).add j = ⟨g, i + j, none⟩ := by unfold Addr.add; split <;> simp_all
  have hj : j < xs.length := (List.getElem?_eq_some_iff.1 hu).1
  rw [e1, h.cell]
  rw [← hp, List.getElem?_take, if_pos hj, List.getElem?_drop] at hu
  rw [← Array.getElem?_toList]; exact hu
/-- a slice's length -/
def slen : Value → Nat
  | .slice _ n _ => n
  | _ => 0
theorem Sl.slen {w B v xs} (h : Sl w B v xs) : slen v = xs.length := by
  obtain ⟨_, A, c, rfl, _⟩ := h; rfl
theorem Own.slen {w B e v xs} (h : Own w B e v xs) : slen v = xs.length := h.sl.slen

section rules
variable {P : Program} {ops : Array Oper} {w0 : World} {rest : List Oper} {E : Nat → Pred} {K : List (Option Tmp × Pred) → Prop}

/-- what cells stand behind an address, in any world to come -/
def AtCells (cs : List Value) : Pred := fun v w => ∃ ad : Addr, v = .pointer (some ad) ∧ ∀ j u, cs[j]? = some u → w.cell? (ad.add j) = some u
theorem stays_cells (cs : List Value) : Stays (AtCells cs) := fun _ _ _ hx ⟨ad, hv, hc⟩ => ⟨ad, hv, fun j u hu => cell_ext hx (hc j u hu)⟩

/-- a slice's first n elements, as an array's address -/
theorem r_s2a {d ty pos aft g} {x : Operand} {t e : TypeId} {n B : Nat} {xs ys : List Value} (ht : P.underlying t = some (.array n e)) (hx : ∀ v w, Ext w0 w → EP E x v w → Sl w B v xs) (hn : n ≤ xs.length) (h0 : 0 < n) (hys : xs.take n = ys)
    (h : RW P ops Ext w0 rest (upd E d (AtCells ys)) (fun L => K ((d, AtCells ys) :: L)))
    (hgd : GuardOk ops E g := by first | exact True.intro | exact ⟨_, rfl, rfl⟩) :
    RW P ops Ext w0 (⟨d, .sliceToArrayPointer t x, ty, pos, aft, g⟩ :: rest) E K := by
  refine r_still _ (stays_cells _) (fun _ => Below.refl _ _) hgd (fun ev w hX hE => ?_) h
  obtain ⟨_, A, c, hv, hl, hc, hA, hcell⟩ := hx _ _ hX (hE x (by simp [Op.operands]))
  cases A with
  | none => have := hA rfl; omega
  | some ad =>
    refine ⟨.pointer (some ad), ?_, ad, rfl, fun j u hu => ?_⟩
    · have hle : ¬ (xs.length < n) := by omega
      simp [execOp, hv, Instr.arrayAt, run_underlying ht, hle]
    · rw [← hys, List.getElem?_take] at hu
      split at hu
      · exact (hcell ad rfl j u hu).2
      · cases hu
theorem r_loadcells {d ty pos aft g} {x : Operand} {t : TypeId} {cs : List Value} {ds : TypeDesc} (ht : P.underlying t = some ds) (hds : (match ds with | .struct _ | .array _ _ => true | _ => false) = true) (hi : (P.info? t).map (·.size) = some cs.length)
    (hx : ∀ v w, Ext w0 w → EP E x v w → AtCells cs v w)
    (h : RW P ops Ext w0 rest (upd E d (fun v _ => v = .agg cs.toArray)) (fun L => K ((d, fun v _ => v = .agg cs.toArray) :: L)))
    (hgd : GuardOk ops E g := by first | exact True.intro | exact ⟨_, rfl, rfl⟩) :
    RW P ops Ext w0 (⟨d, .load t x, ty, pos, aft, g⟩ :: rest) E K := by
  refine r_still _ (stays_eq _) (fun _ => Below.refl _ _) hgd (fun ev w hX hE => ⟨_, ?_, rfl⟩) h
  obtain ⟨ad, hv, hc⟩ := hx _ _ hX (hE x (by simp [Op.operands]))
  simp [execOp, hv, Instr.loadAt, Instr.sureAddr, run_loadVar_cells ht hds hi hc]
end rules
end Go.Ch
