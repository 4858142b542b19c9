import Derived.Test.YtpinmaodpfoinaaSxH
set_option linter.unusedVariables false
set_option linter.unusedSimpArgs false
namespace Go.Sx
open Go.RowKit Go.Ch
section
variable {P : Program} {T : Tab} {ρ : Pls} {w w' : World} {H : Hp}

def rmB (n bytes : Nat) : Prop := n * bytes ≤ 140737488355328
instance (n bytes : Nat) : Decidable (rmB n bytes) := inferInstanceAs (Decidable (_ ≤ _))
/-- noughts, as many as wanted, of elements of one cell -/
def zeros (d : Td) (z : Z) (n : Nat) : Cs := match d, z with
  | .int .u8, .int .u8 => .b (List.replicate n 0)
  | .int .u32, .int .u32 => .w (List.replicate n 0)
  | .int .u64, .int .u64 => .q (List.replicate n 0)
  | .int .i64, .int .i64 => .z (List.replicate n 0)
  | _, z => .c (List.replicate n z.cl)
theorem zeros_R (d : Td) (z : Z) (n : Nat) : csR ρ (zeros d z n) (List.replicate n z.val) := by
  have gen : F2 (clR ρ) (List.replicate n z.cl) (List.replicate n z.val) := by
    refine ⟨by simp, fun j x y hx hy => ?_⟩
    rw [List.getElem?_replicate] at hx hy
    split at hx
    · rw [if_pos (by assumption)] at hy
      injection hx with hx; injection hy with hy
      subst hx; subst hy; exact Z.cl_ok ρ z
    · cases hx
  unfold zeros
  split
  · exact csR_b.2 (by simp [Z.val, bU])
  · exact csR_w.2 (by simp [Z.val, w32])
  · exact csR_q.2 (by simp [Z.val, w64])
  · exact csR_z.2 (by simp [Z.val])
  · exact gen
theorem zeros_len (d : Td) (z : Z) (n : Nat) : (zeros d z n).cl.length = n := by
  have := (zeros_R (ρ := fun _ => ⟨none, 0, 0, 0⟩) d z n).len
  simpa using this.symm

/-- the cells of a new variable -/
def zcs (T : Tab) (ti : Ti) (zs : List Z) : Cs := match ti.d with
  | .arr n e => (match T e with
    | some te => (match te.z with
      | some [z] => (match decide (zs = List.replicate n z) with | true => zeros te.d z n | false => .c (zs.map Z.cl))
      | _ => .c (zs.map Z.cl))
    | none => .c (zs.map Z.cl))
  | _ => .c (zs.map Z.cl)
theorem zcs_R (T : Tab) (ti : Ti) (zs : List Z) : csR ρ (zcs T ti zs) (zs.map Z.val) := by
  unfold zcs
  split
  · rename_i n e hd
    split
    · rename_i te hte
      split
      · rename_i z hz
        split
        · rename_i hdec
          simp only [decide_eq_true_eq] at hdec
          have := zeros_R (ρ := ρ) te.d z n
          rw [hdec]; simpa using this
        · exact zs_R zs
      · exact zs_R zs
    · exact zs_R zs
  · exact zs_R zs

def newR (ρ : Pls) (w w' : World) (u : Value) (p : Pl) (isPtr : Bool) (o : Oj) : Prop :=
  objR ρ w' p o ∧ (∀ g, objAt p o g → w.heap.size ≤ g) ∧ (isPtr = true → 0 < p.n * p.sz ∧ ∃ ad, p.A = some ad ∧ u = .pointer (some ad)) ∧ (isPtr = false → u = .slice p.A p.n p.cap)

def zerosL : Nat → List Cl → List Cl
  | 0, _ => []
  | n + 1, z => z ++ zerosL n z
def rowC (l : List Cl) (te : Ti) : Cs := match te.size with | 1 => asCs te.d l | _ => .c l
theorem rowC_cl (l : List Cl) (te : Ti) : (rowC l te).cl = l := by
  unfold rowC; split
  · exact asCs_cl _ _
  · rfl
/-- making memory: what has to hold, is it an address, the new object -/
def aop (T : Tab) (ae : Operand → Option AV) (op : Op) (ty : TypeId) : Option (List Prop × Bool × Oj) := match op with
  | .alloc t => (match T t with
    | some ti => (match ti.z with
      | some zs => (match decide (0 < zs.length) with | true => some ([], true, ⟨.blk, t, 1, zs.length, zcs T ti zs⟩) | false => none)
      | none => none)
    | none => none)
  | .box t x => (match ae x with
    | some (.c c) => (match okC c with | true => some ([], true, ⟨.blk, t, 1, 1, .c [c]⟩) | false => none)
    | some (.g n cs) => (match decide (0 < n) with | true => some ([], true, ⟨.blk, t, 1, n, cs⟩) | false => none)
    | _ => none)
  | .buildSlice t n ps => (match slT T t with
    | some e => (match T e, evParts ae ps.toList with
      | some te, some qs => (match te.z with
        | some zs => (match decide (n * te.size ≤ 16777216 ∧ zs.length = te.size ∧ 0 < te.size), putAll (fun i => some (i * te.size, te.size)) (zerosL n (zs.map Z.cl)) qs with
          | true, some l => some ([], false, ⟨.row, e, te.size, n, rowC l te⟩)
          | _, _ => none)
        | none => none)
      | _, _ => none)
    | none => none)
  | .makeSlice t l c => (match slT T t with
    | some e => (match T e, ae l, ae c with
      | some te, some x, some y => (match te.z, intA x, intA y with
        | some [z], some n, some m => (match decide (te.size = 1 ∧ 0 < te.bytes) with
          | true => some ([0 ≤ n, m = n, rmB n.toNat te.bytes], false, ⟨.row, e, 1, n.toNat, zeros te.d z n.toNat⟩)
          | false => none)
        | _, _, _ => none)
      | _, _, _ => none)
    | none => none)
  | .move x | .assign x => (match ae x, slT T ty with
    | some (.c .nils), some e => (match T e with
      | some te => (match te.d with
        | .int .u8 => some ([], false, ⟨.row, e, te.size, 0, .b []⟩)
        | .int .u32 => some ([], false, ⟨.row, e, te.size, 0, .w []⟩)
        | .int .u64 => some ([], false, ⟨.row, e, te.size, 0, .q []⟩)
        | .int .i64 => some ([], false, ⟨.row, e, te.size, 0, .z []⟩)
        | _ => some ([], false, ⟨.row, e, te.size, 0, .c []⟩))
      | none => none)
    | _, _ => none)
  | _ => none

theorem zerosL_R : ∀ (n : Nat) (zs : List Z), F2 (clR ρ) (zerosL n (zs.map Z.cl)) ((List.range (n * zs.length)).map fun i => (zs.map Z.val).getD (i % zs.length) undef)
  | 0, zs => by simpa [zerosL] using F2.nil
  | n + 1, zs => by
    have ih := zerosL_R n zs
    have e : (List.range ((n + 1) * zs.length)).map (fun i => (zs.map Z.val).getD (i % zs.length) undef) = zs.map Z.val ++ (List.range (n * zs.length)).map (fun i => (zs.map Z.val).getD (i % zs.length) undef) := by
      apply List.ext_getElem?
      intro j
      by_cases hj : j < zs.length
      · rw [List.getElem?_append_left (by simpa using hj)]
        have : j < (n + 1) * zs.length := by rw [Nat.add_mul, Nat.one_mul]; omega
        simp [this, Nat.mod_eq_of_lt hj, hj]
      · rw [List.getElem?_append_right (by simp; omega)]
        simp only [List.length_map, List.getElem?_map, List.getElem?_range']
        by_cases hj2 : j < (n + 1) * zs.length
        · have h3 : j - zs.length < n * zs.length := by rw [Nat.add_mul, Nat.one_mul] at hj2; omega
          have h4 : (j - zs.length) % zs.length = j % zs.length := by
            have : j = (j - zs.length) + zs.length := by omega
            conv => rhs; rw [this, Nat.add_mod_right]
          simp [hj2, h3, h4]
        · have h3 : ¬ j - zs.length < n * zs.length := by rw [Nat.add_mul, Nat.one_mul] at hj2; omega
          simp [hj2, h3]
    rw [e]
    exact F2.append (zs_R zs) ih
theorem new_blk (w : World) (t : TypeId) (n : Nat) (cs : Cs) (vs : List Value) (hc : csR ρ cs vs) (hn : vs.length = n) (hpos : 0 < n) :
    newR ρ w (w.alloc (.cells vs.toArray t)) (.pointer (some ⟨w.heap.size, 0, none⟩)) ⟨some ⟨w.heap.size, 0, none⟩, n, n, 1⟩ true ⟨.blk, t, 1, n, cs⟩ := by
  refine ⟨⟨⟨rfl, rfl, by rw [← hc.len, hn]; simp⟩, w.heap.size, vs, rfl, hc, Blk.new w t _⟩, ?_, fun _ => ⟨by simpa using hpos, _, rfl, rfl⟩, fun h => by cases h⟩
  rintro g ⟨ad, had, rfl⟩
  injection had with had; subst had; exact Nat.le_refl _
theorem new_row (w : World) (e : TypeId) (sz n : Nat) (cs : Cs) (cells : Array Value) (hc : csR ρ cs cells.toList) (hn : cells.size = n * sz) (hm : n ≤ maxLen) :
    newR ρ w (w.alloc (.cells cells e)) (.slice (some ⟨w.heap.size, 0, none⟩) n n) ⟨some ⟨w.heap.size, 0, none⟩, n, n, sz⟩ false ⟨.row, e, sz, n, cs⟩ := by
  refine ⟨⟨⟨rfl, rfl, by rw [← hc.len]; simpa using hn⟩, cells.toList, hc, ?_⟩, ?_, fun h => by (cases h), fun _ => rfl⟩
  · exact World.ownsRow_lit w cells n (Nat.zero_le _) hm hn
  · rintro g ⟨ad, had, rfl⟩
    injection had with had; subst had; exact Nat.le_refl _
theorem new_nil (w : World) (e : TypeId) (sz : Nat) (cs : Cs) (hc : cs.cl = []) : newR ρ w w (.slice none 0 0) ⟨none, 0, 0, sz⟩ false ⟨.row, e, sz, 0, cs⟩ := by
  refine ⟨⟨⟨rfl, rfl, by rw [hc]; simp⟩, [], by unfold csR; rw [hc]; exact F2.nil, World.ownsRow_nil w 0 e sz⟩, ?_, fun h => by (cases h), fun _ => rfl⟩
  rintro g ⟨ad, had, _⟩; cases had

theorem zeroV (hT : TabOk P T) {t : TypeId} {ti : Ti} (ht : T t = some ti) {zs : List Z} (hz : ti.z = some zs) (w : World) : ∃ z, (zeroValue t).run P w = .ok z w ∧ z.cells = (zs.map Z.val).toArray := by
  obtain ⟨ie, hie, _, _, _, hzz⟩ := (hT.at ht).i
  obtain ⟨z, h1, h2⟩ := hzz zs hz
  exact ⟨z, by simp [zeroValue, typeInfo, hie, h1], h2⟩
theorem aop_ok (hT : TabOk P T) {ae : Operand → Option AV} {ev : Operand → Value} (hae : ∀ x av, ae x = some av → avR ρ av (ev x)) {op : Op} {ty : TypeId} {g : List Prop} {b : Bool} {o : Oj} (h : aop T ae op ty = some (g, b, o)) (hg : allP g)
    (d : Option Tmp) (pos : String) (aft : Array Edge) (gd : Option (Nat × Bool)) :
    ∃ u w' p, (execOp ev ⟨d, op, ty, pos, aft, gd⟩).run P w = .ok (.value u) w' ∧ w.grownBy w' none ∧ newR ρ w w' u p b o := by
  have one : ∀ {x : Operand} {v : AV}, ae x = some v → avR ρ v (ev x) := fun h => hae _ _ h
  have hnil : ∀ {x : Operand} {e : TypeId} {te : Ti} {cs : Cs}, ae x = some (.c .nils) → cs.cl = [] → ∃ w' p, w' = w ∧ w.grownBy w' none ∧ newR ρ w w' (ev x) p false ⟨.row, e, te.size, 0, cs⟩ := by
    intro x e te cs hx hc
    refine ⟨w, ⟨none, 0, 0, te.size⟩, rfl, World.grownBy.refl w _, ?_⟩
    rw [show ev x = .slice none 0 0 from one hx]
    exact new_nil w e te.size cs hc
  have hmv : ∀ {x : Operand}, (match ae x, slT T ty with
    | some (.c .nils), some e => (match T e with
      | some te => (match te.d with
        | .int .u8 => some (([] : List Prop), false, (⟨.row, e, te.size, 0, .b []⟩ : Oj))
        | .int .u32 => some ([], false, ⟨.row, e, te.size, 0, .w []⟩)
        | .int .u64 => some ([], false, ⟨.row, e, te.size, 0, .q []⟩)
        | .int .i64 => some ([], false, ⟨.row, e, te.size, 0, .z []⟩)
        | _ => some ([], false, ⟨.row, e, te.size, 0, .c []⟩))
      | none => none)
    | _, _ => none) = some (g, b, o) → ∃ w' p, w' = w ∧ w.grownBy w' none ∧ newR ρ w w' (ev x) p b o := by
    intro x h
    split at h
    · rename_i e hx he
      split at h
      · rename_i te hte
        split at h <;> injection h with h <;> simp only [Prod.mk.injEq] at h <;> obtain ⟨rfl, rfl, rfl⟩ := h <;> exact hnil hx rfl
      · cases h
    · cases h
  cases op with
  | move x => obtain ⟨w', p, rfl, h1, h2⟩ := hmv h; exact ⟨_, _, p, by simp [execOp], h1, h2⟩
  | assign x => obtain ⟨w', p, rfl, h1, h2⟩ := hmv h; exact ⟨_, _, p, by simp [execOp], h1, h2⟩
  | alloc t =>
    simp only [aop] at h
    split at h
    · rename_i ti hti
      split at h
      · rename_i zs hz
        split at h
        · rename_i hdec
          simp only [decide_eq_true_eq] at hdec
          injection h with h; simp only [Prod.mk.injEq] at h; obtain ⟨rfl, rfl, rfl⟩ := h
          obtain ⟨z, hzr, hzc⟩ := zeroV hT hti hz w
          refine ⟨_, _, _, ?_, World.grownBy_alloc w _ none, new_blk w t zs.length (zcs T ti zs) (zs.map Z.val) (zcs_R T ti zs) (by simp) hdec⟩
          simp [execOp, Instr.alloc, hzr, newVar, newRow, hzc]
        · cases h
      · cases h
    · cases h
  | box t x =>
    simp only [aop] at h
    split at h
    · rename_i c hc
      split at h
      · rename_i hok
        injection h with h; simp only [Prod.mk.injEq] at h; obtain ⟨rfl, rfl, rfl⟩ := h
        obtain ⟨h1, h2⟩ := okC_ok hok (one hc)
        refine ⟨_, _, _, ?_, World.grownBy_alloc w _ none, new_blk w t 1 (.c [c]) [ev x] (F2.cons (one hc) F2.nil) rfl (by omega)⟩
        simp [execOp, Instr.box, newVar, newRow, h1]
      · cases h
    · rename_i n cs hc
      split at h
      · rename_i hdec
        simp only [decide_eq_true_eq] at hdec
        injection h with h; simp only [Prod.mk.injEq] at h; obtain ⟨rfl, rfl, rfl⟩ := h
        obtain ⟨vs, h1, h2, h3⟩ := one hc
        refine ⟨_, _, _, ?_, World.grownBy_alloc w _ none, new_blk w t n cs vs h1 h2 hdec⟩
        simp [execOp, Instr.box, newVar, newRow, h3, Value.cells]
      · cases h
    · cases h
  | buildSlice t n ps =>
    simp only [aop] at h
    split at h
    · rename_i e he
      split at h
      · rename_i te qs hte hqs
        split at h
        · rename_i zs hz
          split at h
          · rename_i l hdec hl
            simp only [decide_eq_true_eq] at hdec
            obtain ⟨d1, d2, d3⟩ := hdec
            injection h with h; simp only [Prod.mk.injEq] at h; obtain ⟨rfl, rfl, rfl⟩ := h
            have ut := slT_ok hT he
            obtain ⟨ie, hie, hs1, _⟩ := (hT.at hte).i
            obtain ⟨z, hzr, hzc⟩ := zeroV hT hte hz w
            have h1 := evParts_ok (ρ := ρ) hae hqs
            have hzz := zerosL_R (ρ := ρ) n zs
            rw [d2] at hzz
            have hcs : ((Array.range (n * te.size)).map fun i => z.cells[i % z.cells.size]!).toList = (List.range (n * te.size)).map fun i => (zs.map Z.val).getD (i % te.size) undef := by
              rw [hzc]
              simp only [Array.toList_map, Array.toList_range, List.size_toArray, List.length_map, d2]
              apply List.map_congr_left
              intro i hi
              have : i % te.size < (zs.map Z.val).length := by rw [List.length_map, d2]; exact Nat.mod_lt _ d3
              rw [getElem!_pos _ _ (by simpa using this), List.getD_eq_getElem?_getD, List.getElem?_eq_getElem this]
              simp
            obtain ⟨cells', hf, hr⟩ := putAll_ok (ρ := ρ) (cells := (Array.range (n * te.size)).map fun i => z.cells[i % z.cells.size]!) hl (by rw [hcs]; exact hzz) h1
            have hsize : cells'.size = n * te.size := by
              have := hr.1; have h2 := putAll_len hl h1; have h3 := hzz.1
              simp at h3; rw [h2] at this; simp at this; omega
            refine ⟨_, _, _, ?_, World.grownBy_alloc w _ none, new_row w e te.size n (rowC l te) cells' (by unfold csR; rw [rowC_cl]; exact hr) hsize (by
              have := Nat.le_mul_of_pos_right n d3; unfold maxLen; omega)⟩
            by_cases h0 : n * te.size = 0
            · have hem : ((Array.range (n * te.size)).map fun i => z.cells[i % z.cells.size]!) = (Array.range (n * te.size)).map fun i => (#[] : Array Value)[i % (#[] : Array Value).size]! := by
                rw [h0]; simp
              rw [hem] at hf
              simp only [execOp, Sem.run_bind, Instr.buildSlice, run_underlying ut, Result.andThen_ok, sizeOf, typeInfo, run_program, hie, Sem.run_pure, hs1]
              rw [if_neg (by omega)]
              simp only [h0, if_true, Sem.run_bind, Sem.run_pure, Result.andThen_ok]
              rw [h0] at hf
              simp only [Array.toList_map] at hf ⊢
              rw [hf]
              simp [newRow]
            · simp only [execOp, Sem.run_bind, Instr.buildSlice, run_underlying ut, Result.andThen_ok, sizeOf, typeInfo, run_program, hie, Sem.run_pure, hs1]
              rw [if_neg (by omega), if_neg h0]
              simp only [Sem.run_bind, hzr, Result.andThen_ok, Sem.run_pure]
              simp only [Array.toList_map] at hf ⊢
              rw [hf]
              simp [newRow]
          · cases h
        · cases h
      · cases h
    · cases h
  | makeSlice t l c =>
    simp only [aop] at h
    split at h
    · rename_i e he
      split at h
      · rename_i te x y hte hx hy
        split at h
        · rename_i z n m hz hn hm
          split at h
          · rename_i hdec
            simp only [decide_eq_true_eq] at hdec
            injection h with h; simp only [Prod.mk.injEq] at h; obtain ⟨rfl, rfl, rfl⟩ := h
            obtain ⟨g0, g1⟩ := allP_cons.1 hg
            obtain ⟨g1, g2⟩ := allP_cons.1 g1
            simp only [allP, rmB] at g2
            obtain ⟨kl, h1⟩ := intA_ok hn (one hx)
            obtain ⟨kc, h2⟩ := intA_ok hm (one hy)
            have ut := slT_ok hT he
            obtain ⟨ie, hie, hs1, hs2, _, hzz⟩ := (hT.at hte).i
            obtain ⟨zv, hzv, hzc⟩ := hzz _ hz
            obtain ⟨k, rfl⟩ := Int.eq_ofNat_of_zero_le g0
            have hk : k * te.bytes ≤ 140737488355328 := g2
            have hkle : k ≤ k * te.bytes := Nat.le_mul_of_pos_right k hdec.2
            obtain ⟨w', hrun, ho, hgr⟩ := run_make_full (P := P) w w.heap.size t e ie zv 1 ut hie hzv (by rw [hs1, hdec.1]) kl kc k (by rw [hs2, Nat.mul_comm]; omega) (by unfold maxLen; omega) (Nat.le_refl _)
            have hz1 : zv.cells = #[z.val] := by rw [hzc]; rfl
            have hz2 : z.val.cells = #[z.val] := by cases z <;> rfl
            have hmc : (madeCells zv.cells (k * 1)).toList = List.replicate k z.val := by
              rw [hz1, ← hz2]; exact madeCells_one hz2 k
            rw [hmc] at ho
            refine ⟨.slice (some ⟨w.heap.size, 0, none⟩) k k, w', ⟨some ⟨w.heap.size, 0, none⟩, k, k, 1⟩, ?_, hgr, ?_⟩
            · simp [execOp, h1, h2, g1, hrun]
            · refine ⟨⟨⟨rfl, rfl, by rw [zeros_len]; simp⟩, List.replicate k z.val, zeros_R te.d z k, ho.1, ?_⟩, ?_, fun h => by (cases h), fun _ => rfl⟩
              · rcases ho.2 with hh | ⟨a1, a2, a3, a4, a5, r⟩
                · exact .inl hh
                · exact .inr ⟨a1, a2, a3, a4, Nat.zero_le _, r⟩
              · rintro g' ⟨ad, had, rfl⟩
                injection had with had; subst had; exact Nat.le_refl _
          · cases h
        · cases h
      · cases h
    · cases h
  | _ => simp [aop] at h
end
end Go.Sx
