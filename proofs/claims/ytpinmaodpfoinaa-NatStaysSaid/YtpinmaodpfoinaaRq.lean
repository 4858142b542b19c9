import Derived.Test.YtpinmaodpfoinaaRo
import Derived.Laws.StructEq
set_option linter.unusedVariables false
set_option linter.unusedSimpArgs false
namespace Go.Ch
open Go.RowKit
section
variable {P : Program} {w : World}
theorem part_w32 {e : TypeId} (he : P.underlying e = some (.int .u32)) (xs : List UInt32) (j : Nat) (h : j < xs.length) : (part e (xs.map w32).toArray j).run P w = .ok (w32 (xs.getD j 0)) w := by
  have hagg : (isAgg e).run P w = .ok false w := by
    unfold isAgg
    rw [Sem.run_bind, run_underlying he w]; rfl
  have hu := at_w32 (ws := xs) (k := j) h
  simp [part, hagg]
  simp [List.getElem?_eq_getElem h]
theorem run_eqItems_w32 {e : TypeId} (he : P.underlying e = some (.int .u32)) (d : Nat) (xs ys : List UInt32) (hl : xs.length = ys.length) : ∀ is : List Nat, (∀ j ∈ is, j < xs.length) →
    (Op.eqItems (d + 1) e 1 (xs.map w32).toArray (ys.map w32).toArray is).run P w = .ok (is.all fun j => xs.getD j 0 == ys.getD j 0) w
  | [], _ => by simp [Op.eqItems]
  | j :: is, h => by
    have h1 := h j (by simp)
    have ih := run_eqItems_w32 he d xs ys hl is (fun k hk => h k (by simp [hk]))
    have e1 := part_w32 (w := w) he xs j h1
    have e2 := part_w32 (w := w) he ys j (by omega)
    have e3 : (Op.equalIn (d + 1) e (w32 (xs.getD j 0)) (w32 (ys.getD j 0))).run P w = .ok (xs.getD j 0 == ys.getD j 0) w := by
      unfold w32
      rw [run_equalIn_int w d e .u32 .u32 _ _ he]
      congr 1
      by_cases h : xs.getD j 0 = ys.getD j 0
      · rw [h]; simp
      · have : ¬ (((xs.getD j 0).toNat : Int) = (ys.getD j 0).toNat) := fun e => h (UInt32.toNat_inj.1 (by omega))
        rw [beq_eq_false_iff_ne.2 h, beq_eq_false_iff_ne.2 this]
    simp only [Op.eqItems, Nat.mul_one, Sem.run_bind, e1, e2, e3, Result.andThen_ok, List.all_cons]
    cases xs.getD j 0 == ys.getD j 0
    · simp
    · simpa using ih
theorem all_getD (xs ys : List UInt32) (n : Nat) (hx : xs.length = n) (hy : ys.length = n) : ((List.range n).all fun j => xs.getD j 0 == ys.getD j 0) = decide (xs = ys) := by
  rw [Bool.eq_iff_iff]
  simp only [List.all_eq_true, List.mem_range, beq_iff_eq, decide_eq_true_eq]
  constructor
  · intro h
    apply List.ext_getElem (by omega)
    intro j h1 h2
    have := h j (by omega)
    rw [List.getD_eq_getElem?_getD, List.getD_eq_getElem?_getD, List.getElem?_eq_getElem h1, List.getElem?_eq_getElem h2] at this
    simpa using this
  · rintro rfl _ _; rfl
/-- two arrays of words, compared -/
theorem run_eq_words {t e : TypeId} {n : Nat} {i : TypeInfo} (ht : P.underlying t = some (.array n e)) (he : P.underlying e = some (.int .u32)) (hi : P.info? e = some i) (hc : P.cellsOf e = 1) (hg : P.eqGuardType P.depth t = false)
    (ex ey : Operand) (xs ys : List UInt32) (hx : xs.length = n) (hy : ys.length = n) (w : World) :
    binRun P .eql t ex ey (.agg (xs.map w32).toArray) (.agg (ys.map w32).toArray) w = .ok (.bool (decide (xs = ys))) w := by
  simp only [binRun, Sem.run_bind, run_eqGuard_agg w .eql t ex ey _ _ hg, Result.andThen_ok, run_eql_struct]
  rw [run_equalIn_array w 9999 _ _ ht hi, hc, run_eqItems_w32 he 9998 xs ys (by omega) _ (fun j hj => by rw [hx]; exact List.mem_range.1 hj), all_getD xs ys n hx hy]
  rfl
theorem run_eq_wordsb {t e : TypeId} {n : Nat} {i : TypeInfo} (ht : P.underlying t = some (.array n e)) (he : P.underlying e = some (.int .u32)) (hi : P.info? e = some i) (hc : P.cellsOf e = 1) (hg : P.eqGuardType P.depth t = false)
    (ex ey : Operand) (xs ys : List UInt32) (hx : xs.length = n) (hy : ys.length = n) {b : Bool} (h : decide (xs = ys) = b) (w : World) :
    binRun P .eql t ex ey (.agg (xs.map w32).toArray) (.agg (ys.map w32).toArray) w = .ok (.bool b) w := by
  rw [← h]; exact run_eq_words ht he hi hc hg ex ey xs ys hx hy w
end

theorem freeze_other (w : World) (a : Addr) (n k : Nat) (h : k ≠ a.block) : (w.freeze a n).heap[k]? = w.heap[k]? := by
  unfold World.freeze
  split
  · rfl
  · simp only [Array.getElem?_modify, if_neg (fun e : a.block = k => h e.symm)]
theorem freeze_same (w : World) (a : Addr) (n : Nat) (c : Array Value) (e : TypeId) (fr : Nat × Nat) (h : w.heap[a.block]? = some (.cells c e fr)) : ∃ fr', (w.freeze a n).heap[a.block]? = some (.cells c e fr') := by
  unfold World.freeze
  split
  · exact ⟨fr, h⟩
  · simp only [Array.getElem?_modify, if_true, h, Option.map_some]
    exact ⟨_, rfl⟩
theorem freeze_size (w : World) (a : Addr) (n : Nat) : (w.freeze a n).heap.size = w.heap.size := by
  unfold World.freeze
  split <;> simp
theorem freeze_grown (w : World) (a : Addr) (n : Nat) : w.grownBy (w.freeze a n) (some a.block) := by
  refine ⟨?_, ?_, ?_, by rw [freeze_size]; exact Nat.le_refl _, fun k _ hk => freeze_other w a n k (fun e => hk (by rw [e]))⟩ <;> (unfold World.freeze; split <;> rfl)

section rules
variable {P : Program} {w : World} {ops : Array Oper} {rest : List Oper} {a : Act} {Q : Exit → Act → World → Prop}
/-- the bytes of a constant text: the literal's row, marked -/
theorem wpl_bytesconst {dst ty pos aft g} {x : Operand} {t e : TypeId} {v : Value} {B b : Nat} {xs : List Value} (hx : a.eval x = v) (ht : P.underlying t = some (.slice e)) (he : P.underlying e = some (.int .u8))
    (hown : Own w B e v xs) (hb : v.ownBlock = some b) (hB : B ≤ w.heap.size)
    (h : ∀ w', Sl w' w'.heap.size v xs → w.grownBy w' (some b) → Below B w w' → wpList P ops Q rest (a.put dst v) w')
    (hw : Region.wanted ⟨dst, .convert t t x, ty, pos, aft, g⟩ (yielded ops a.tmps) = true := by rfl) :
    wpList P ops Q (⟨dst, .convert t t x, ty, pos, aft, g⟩ :: rest) a w := by
  have hown' := hown
  rcases hown'.2 with ⟨rfl, _⟩ | ⟨g', cap, cur, rfl, hBg, hg, hnc, hcm, hsz, htk⟩
  · cases hb
  · obtain rfl : g' = b := by simpa [Value.ownBlock] using hb
    have hsh : w.shape? g' = some (e, cur.size) := by simp [World.shape?, hg]
    have hgr := freeze_grown w ⟨g', cur.size, none⟩ 1
    obtain ⟨fr', hsame⟩ := freeze_same w ⟨g', cur.size, none⟩ 1 cur e (0, 0) hg
    have hlt : g' < w.heap.size := (Array.getElem?_eq_some_iff.1 hg).1
    refine wpl_val hw ?_ (h (w.freeze ⟨g', cur.size, none⟩ 1) ?_ hgr ((Below.refl _ _).grown hgr hB (fun k hk => by obtain rfl := Option.some.inj hk; exact hBg)))
    · simp [execOp, hx, convert, run_underlying ht, run_underlying he, markStringish, hsh]
    · refine ⟨Nat.le_refl _, _, _, rfl, hnc, hcm, (fun h => by cases h), fun ad had j u hu => ?_⟩
      obtain rfl := Option.some.inj had
      have hj : j < xs.length := (List.getElem?_eq_some_iff.1 hu).1
      have e1 : (⟨g', 0, none⟩ : Addr).add j = ⟨g', j, none⟩ := by unfold Addr.add; split <;> simp_all
      refine ⟨by rw [freeze_size]; exact hlt, ?_⟩
      rw [e1, cell_of_row _ g' j cur e fr' hsame]
      have := World.ownsRow.cellAt hown j (by omega)
      rw [cell_of_row _ g' j cur e (0, 0) hg] at this
      rw [this]; exact hu
end rules
end Go.Ch
namespace Go.Ch
theorem r_call0 {P : Program} {ops : Array Oper} {w0 : World} {rest : List Oper} {E : Nat → Pred} {K : List (Option Tmp × Pred) → Prop} {d ty pos aft g f} {fn : Func} {ts : Array TypeId} (R : Pred) (hs : Stays R) (hf : P.funcs[f]? = some fn) (hname : (fn.name == "runtime.NumGoroutine") = false) (hb : fn.body.isNone = false)
    (hc : ∀ w, Ext w0 w → Calls P f #[] w (Ret fun v w' => Ext w w' ∧ R v w'))
    (h : RW P ops Ext w0 rest (upd E d R) (fun L => K ((d, R) :: L)))
    (hgd : GuardOk ops E g := by first | exact True.intro | exact ⟨_, rfl, rfl⟩) :
    RW P ops Ext w0 (⟨d, .call { callee := .value (.func f), args := #[], argTypes := ts }, ty, pos, aft, g⟩ :: rest) E K :=
  r_call R hs hf hname hb (fun ev w hX hE => by simpa using hc w hX) h hgd
end Go.Ch
