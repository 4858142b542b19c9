import Derived.Test.YtcdljciflkefaaaZ0
set_option linter.unusedVariables false
set_option linter.unusedSimpArgs false
section
namespace Go.Sx
open Go.RowKit Go.Ch
section
variable {P : Program} {T : Tab} {ρ : Pls} {w : World} {H : Hp}
def okC : Cl → Bool
 | .s x => (match x with | .v v => (match v with | .nilIface | .pointer _ | .func _ _ _ | .nilFunc => true | _ => false) | _ => true)
 | .junk => false
 | .gh _ _ => false
 | _ => true
theorem okC_ok {c : Cl} (h : okC c = true) {v : Value} (hv : clR ρ c v) : v.cells = #[v] ∧ v.oneCell' = true := by
 cases c with
 | s x =>
  rw [show v = x.val from hv]
  cases x with
  | v v => cases v <;> simp [okC] at h <;> exact ⟨rfl, rfl⟩
  | er t k o => cases o <;> exact ⟨rfl, rfl⟩
  | _ => exact ⟨rfl, rfl⟩
 | nils => rw [show v = _ from hv]; exact ⟨rfl, rfl⟩
 | wh i => rw [show v = _ from hv]; exact ⟨rfl, rfl⟩
 | sl i lo n => obtain ⟨_, A, c, rfl, _⟩ := hv; exact ⟨rfl, rfl⟩
 | pt i off => obtain ⟨_, ad, _, rfl⟩ := hv; exact ⟨rfl, rfl⟩
 | dv i p => obtain ⟨_, _, A, n, c, rfl⟩ := hv; exact ⟨rfl, rfl⟩
 | dq i p k f sz => obtain ⟨_, A, m, c, ad, _, _, _, _, rfl⟩ := hv; exact ⟨rfl, rfl⟩
 | fp f i off => obtain ⟨_, ad, _, rfl⟩ := hv; exact ⟨rfl, rfl⟩
 | pre i n => obtain ⟨_, rfl⟩ := hv; exact ⟨rfl, rfl⟩
 | junk => cases h
 | gh i p => cases h
 | gi i k => obtain ⟨_, _, A, n, c, rfl⟩ := hv; exact ⟨rfl, rfl⟩
def okCs : List Cl → Bool
 | [] => true
 | c :: cs => okC c && okCs cs
theorem okCs_ok : ∀ {cs : List Cl}, okCs cs = true → ∀ {vs : List Value}, F2 (clR ρ) cs vs → ∀ u ∈ vs, u.cells = #[u] ∧ u.oneCell' = true
 | [], _, vs, hc => by have := hc.1; simp at this; intro u hu; rw [List.eq_nil_of_length_eq_zero this.symm] at hu; cases hu
 | c :: cs, h, vs, hc => by
  simp only [okCs, Bool.and_eq_true] at h
  cases vs with
  | nil => exact absurd hc.1 (by simp)
  | cons v vs =>
   have h1 := hc.2 0 c v rfl rfl
   have h2 : F2 (clR ρ) cs vs := ⟨by have := hc.1; simpa using this, fun j a b ha hb => hc.2 (j + 1) a b (by simpa using ha) (by simpa using hb)⟩
   intro u hu
   rcases List.mem_cons.1 hu with rfl | hu
   ·exact okC_ok h.1 h1
   ·exact okCs_ok h.2 h2 u hu
def okX : Cs → Bool
 | .c l => okCs l
 | .d _ _ => false
 | .g _ _ _ _ => false
 | _ => true
theorem okX_ok {cs : Cs} (h : okX cs = true) {vs : List Value} (hc : csR ρ cs vs) : ∀ u ∈ vs, u.cells = #[u] ∧ u.oneCell' = true := by
 cases cs with
 | c l => exact okCs_ok h hc
 | b l => rw [csR_b.1 hc]; intro u hu; obtain ⟨x, _, rfl⟩ := List.mem_map.1 hu; exact ⟨rfl, rfl⟩
 | w l => rw [csR_w.1 hc]; intro u hu; obtain ⟨x, _, rfl⟩ := List.mem_map.1 hu; exact ⟨rfl, rfl⟩
 | q l => rw [csR_q.1 hc]; intro u hu; obtain ⟨x, _, rfl⟩ := List.mem_map.1 hu; exact ⟨rfl, rfl⟩
 | z l => rw [csR_z.1 hc]; intro u hu; obtain ⟨x, _, rfl⟩ := List.mem_map.1 hu; exact ⟨rfl, rfl⟩
 | d x l => cases h
 | g j n sz tl => cases h
 | p j js =>
  intro u hu
  obtain ⟨q, hq⟩ := List.getElem?_of_mem hu
  have hl : q < js.length := by have h1 := hc.1; have := (List.getElem?_eq_some_iff.1 hq).1; simp only [Cs.cl, List.length_map] at h1; omega
  have := hc.2 q (.gi j js[q]) u (by simp [Cs.cl, hl]) hq
  obtain ⟨_, _, A, n, c, rfl⟩ := this
  exact ⟨rfl, rfl⟩
def exC (n : Nat) : Cs → List Cl
 | .b l => (List.range n).map fun i => .s (.u8 (l.getD i 0))
 | .w l => (List.range n).map fun i => .s (.u32 (l.getD i 0))
 | .q l => (List.range n).map fun i => .s (.u64 (l.getD i 0))
 | .z l => (List.range n).map fun i => .s (.k .i64 (l.getD i 0))
 | .c l => l
 | .d x l => List.replicate (l.length * x.sz) .junk
 | .g j n sz tl => ghc j n sz ++ tl
 | .p j js => js.map fun k => .gi j k
theorem ex_eq {α β : Type} (f : α → β) (d : α) (l : List α) : (List.range l.length).map (fun i => f (l.getD i d)) = l.map f := by
 apply List.ext_getElem?
 intro i
 by_cases hi : i < l.length
 ·simp [hi]
 ·simp [hi]
theorem exC_ok {n : Nat} {cs : Cs} {vs : List Value} (h : csR ρ cs vs) (hn : vs.length = n) : F2 (clR ρ) (exC n cs) vs := by
 have hl : cs.cl.length = n := by rw [← hn]; exact h.1
 have e : exC n cs = cs.cl := by
  cases cs with
  | c l => rfl
  | d x l => rfl
  | g j n sz tl => rfl
  | p j js => rfl
  | b l => subst hl; simp only [exC, Cs.cl, List.length_map]; exact ex_eq (fun x => Cl.s (.u8 x)) 0 l
  | w l => subst hl; simp only [exC, Cs.cl, List.length_map]; exact ex_eq (fun x => Cl.s (.u32 x)) 0 l
  | q l => subst hl; simp only [exC, Cs.cl, List.length_map]; exact ex_eq (fun x => Cl.s (.u64 x)) 0 l
  | z l => subst hl; simp only [exC, Cs.cl, List.length_map]; exact ex_eq (fun x => Cl.s (.k .i64 x)) 0 l
 rw [e]; exact h
def putC (l : List Cl) (off size : Nat) (x : AV) : Option (List Cl) := match x with
 | .c c => (match okC c, decide (size = 1 ∧ off < l.length) with | true, true => some (l.set off c) | _, _ => none)
 | .g n cs => (match decide (n = size ∧ off + n ≤ l.length) with | true => some (l.take off ++ exC n cs ++ l.drop (off + n)) | false => none)
 | _ => none
theorem fold_set (vs : List Value) (off : Nat) : ∀ (k : Nat) (cells : Array Value), off + k + vs.length ≤ cells.size →
  (((vs.zipIdx k).foldl (fun (cs : Array Value) (p : Value × Nat) => cs.setIfInBounds (off + p.2) p.1) cells).toList = cells.toList.take (off + k) ++ vs ++ cells.toList.drop (off + k + vs.length)) := by
 induction vs with
 | nil => intro k cells _; simp
 | cons v vs ih =>
  intro k cells h
  simp only [List.length_cons] at h
  simp only [List.zipIdx_cons, List.foldl_cons]
  rw [ih (k + 1) _ (by simp; omega)]
  have hk : off + k < cells.toList.length := by simp; omega
  rw [Array.toList_setIfInBounds]
  have e2 : (cells.toList.set (off + k) v).take (off + (k + 1)) = cells.toList.take (off + k) ++ [v] := by
   rw [← Nat.add_assoc, List.take_set, List.take_succ_eq_append_getElem hk, List.set_append_right _ _ (by simp; omega)]
   simp only [List.length_take, Nat.min_eq_left (Nat.le_of_lt hk), Nat.sub_self, List.set_cons_zero]
  rw [e2, List.drop_set_of_lt (by omega)]
  simp [Nat.add_assoc, Nat.add_comm 1]
theorem putC_ok {l l' : List Cl} {off size : Nat} {x : AV} (h : putC l off size x = some l') {v : Value} (hv : avR ρ x v) {cells : Array Value} (hc : F2 (clR ρ) l cells.toList) :
  v.cells.size = size ∧ off + v.cells.size ≤ cells.size ∧ F2 (clR ρ) l' (v.cells.zipIdx.foldl (fun (cs : Array Value) (p : Value × Nat) => cs.setIfInBounds (off + p.2) p.1) cells).toList := by
 have hl : l.length = cells.size := by have := hc.1; simpa using this
 cases x with
 | c c =>
  simp only [putC] at h
  split at h
  ·rename_i h1 h2
   simp only [decide_eq_true_eq] at h2
   injection h with h; subst h
   obtain ⟨hcell, _⟩ := okC_ok h1 hv
   rw [hcell]
   refine ⟨by simp [h2.1], by simp; omega, ?_⟩
   have e : (#[v].zipIdx.foldl (fun (cs : Array Value) (p : Value × Nat) => cs.setIfInBounds (off + p.2) p.1) cells) = cells.setIfInBounds off v := by
    simp [Array.zipIdx]
   rw [e, Array.toList_setIfInBounds]
   exact F2.set hc off hv
  ·cases h
 | g n cs =>
  simp only [putC] at h
  split at h
  ·rename_i h2
   simp only [decide_eq_true_eq] at h2
   injection h with h; subst h
   obtain ⟨vs, hcs, hn, rfl⟩ := hv
   refine ⟨by simp [Value.cells, hn, h2.1], by simp [Value.cells]; omega, ?_⟩
   have e := fold_set vs off 0 cells (by omega)
   have e2 : ((Value.agg vs.toArray).cells.zipIdx.foldl (fun (cs : Array Value) (p : Value × Nat) => cs.setIfInBounds (off + p.2) p.1) cells).toList = cells.toList.take off ++ vs ++ cells.toList.drop (off + vs.length) := by
    rw [← Array.foldl_toList]
    simpa [Value.cells] using e
   rw [e2, hn]
   exact F2.append (F2.append (F2.take hc off) (exC_ok hcs hn)) (F2.drop hc _)
  ·cases h
 | t xs => cases h
def putAll (place : Nat → Option (Nat × Nat)) : List Cl → List (Nat × AV) → Option (List Cl)
 | l, [] => some l
 | l, (i, x) :: rest => match place i with
  | some (off, size) => (match putC l off size x with | some l' => putAll place l' rest | none => none)
  | none => none
theorem putAll_ok {place : Nat → Option (Nat × Nat)} : ∀ {ps : List (Nat × AV)} {qs : List (Nat × Value)} {l l' : List Cl} {cells : Array Value}, putAll place l ps = some l' → F2 (clR ρ) l cells.toList →
  F2 (fun (p : Nat × AV) (q : Nat × Value) => p.1 = q.1 ∧ avR ρ p.2 q.2) ps qs → ∃ cells', Instr.fill place cells qs = some cells' ∧ F2 (clR ρ) l' cells'.toList
 | [], qs, l, l', cells, h, hc, hq => by
  have h1 := hq.1
  simp at h1
  rw [List.eq_nil_of_length_eq_zero h1.symm]
  injection h with h; subst h
  exact ⟨cells, rfl, hc⟩
 | (i, x) :: ps, qs, l, l', cells, h, hc, hq => by
  cases qs with
  | nil => exact absurd hq.1 (by simp)
  | cons q qs =>
   obtain ⟨j, v⟩ := q
   have h0 := hq.2 0 (i, x) (j, v) rfl rfl
   obtain ⟨rfl, hv⟩ := h0
   have hq' : F2 (fun (p : Nat × AV) (q : Nat × Value) => p.1 = q.1 ∧ avR ρ p.2 q.2) ps qs := ⟨by have := hq.1; simpa using this, fun k a b ha hb => hq.2 (k + 1) a b (by simpa using ha) (by simpa using hb)⟩
   simp only [putAll] at h
   split at h
   ·rename_i off size hp
    split at h
    ·rename_i l1 hl1
     obtain ⟨e1, e2, e3⟩ := putC_ok hl1 hv hc
     obtain ⟨cells', hf, hr⟩ := putAll_ok h e3 hq'
     refine ⟨cells', ?_, hr⟩
     simp only [Instr.fill, hp]
     rw [if_neg (by simp [e1]; omega)]
     exact hf
    ·cases h
   ·cases h
def evParts (ae : Operand → Option AV) : List (Nat × Operand) → Option (List (Nat × AV))
 | [] => some []
 | (i, x) :: rest => match ae x, evParts ae rest with
  | some v, some vs => some ((i, v) :: vs)
  | _, _ => none
theorem evParts_ok {ae : Operand → Option AV} {ev : Operand → Value} (hae : ∀ x av, ae x = some av → avR ρ av (ev x)) : ∀ {ps : List (Nat × Operand)} {qs : List (Nat × AV)}, evParts ae ps = some qs →
  F2 (fun (p : Nat × AV) (q : Nat × Value) => p.1 = q.1 ∧ avR ρ p.2 q.2) qs (ps.map fun p => (p.1, ev p.2))
 | [], qs, h => by injection h with h; subst h; exact F2.nil
 | (i, x) :: rest, qs, h => by
  simp only [evParts] at h
  split at h
  ·rename_i v vs h1 h2
   injection h with h; subst h
   exact F2.cons ⟨rfl, hae x v h1⟩ (evParts_ok hae h2)
  ·cases h
def asB : List Cl → Option (List UInt8)
 | [] => some []
 | .s (.u8 x) :: l => (match asB l with | some r => some (x :: r) | none => none)
 | _ => none
def asW : List Cl → Option (List UInt32)
 | [] => some []
 | .s (.u32 x) :: l => (match asW l with | some r => some (x :: r) | none => none)
 | _ => none
def asQ : List Cl → Option (List UInt64)
 | [] => some []
 | .s (.u64 x) :: l => (match asQ l with | some r => some (x :: r) | none => none)
 | _ => none
def asZ : List Cl → Option (List Int)
 | [] => some []
 | .s (.k .i64 x) :: l => (match asZ l with | some r => some (x :: r) | none => none)
 | _ => none
theorem asB_ok : ∀ {l : List Cl} {r : List UInt8}, asB l = some r → r.map (fun x => Cl.s (.u8 x)) = l
 | [], r, h => by injection h with h; subst h; rfl
 | .s (.u8 x) :: l, r, h => by
  simp only [asB] at h
  split at h
  ·rename_i r' hr; injection h with h; subst h; simp [asB_ok hr]
  ·cases h
theorem asW_ok : ∀ {l : List Cl} {r : List UInt32}, asW l = some r → r.map (fun x => Cl.s (.u32 x)) = l
 | [], r, h => by injection h with h; subst h; rfl
 | .s (.u32 x) :: l, r, h => by
  simp only [asW] at h
  split at h
  ·rename_i r' hr; injection h with h; subst h; simp [asW_ok hr]
  ·cases h
theorem asQ_ok : ∀ {l : List Cl} {r : List UInt64}, asQ l = some r → r.map (fun x => Cl.s (.u64 x)) = l
 | [], r, h => by injection h with h; subst h; rfl
 | .s (.u64 x) :: l, r, h => by
  simp only [asQ] at h
  split at h
  ·rename_i r' hr; injection h with h; subst h; simp [asQ_ok hr]
  ·cases h
theorem asZ_ok : ∀ {l : List Cl} {r : List Int}, asZ l = some r → r.map (fun x => Cl.s (.k .i64 x)) = l
 | [], r, h => by injection h with h; subst h; rfl
 | .s (.k .i64 x) :: l, r, h => by
  simp only [asZ] at h
  split at h
  ·rename_i r' hr; injection h with h; subst h; simp [asZ_ok hr]
  ·cases h
def asCs (d : Td) (l : List Cl) : Cs := match d with
 | .int .u8 => (match asB l with | some r => .b r | none => .c l)
 | .int .u32 => (match asW l with | some r => .w r | none => .c l)
 | .int .u64 => (match asQ l with | some r => .q r | none => .c l)
 | .int .i64 => (match asZ l with | some r => .z r | none => .c l)
 | _ => .c l
theorem asCs_cl (d : Td) (l : List Cl) : (asCs d l).cl = l := by
 unfold asCs
 split
 ·split
  ·rename_i r h; exact asB_ok h
  ·rfl
 ·split
  ·rename_i r h; exact asW_ok h
  ·rfl
 ·split
  ·rename_i r h; exact asQ_ok h
  ·rfl
 ·split
  ·rename_i r h; exact asZ_ok h
  ·rfl
 ·rfl
def fldP (T : Tab) (fs : List (TypeId × Nat)) (i : Nat) : Option (Nat × Nat) := match fs[i]? with
 | some (ft, fo) => (match T ft with | some tf => some (fo, tf.size) | none => none)
 | none => none
def bdA (T : Tab) (t : TypeId) (ps : List (Nat × AV)) : Option (List Prop × AV) := match T t with
 | some ti => (match ti.z with
  | some zs => (match ti.d with
   | .st fs => (match decide (∀ p ∈ fs, (T p.1).isSome), putAll (fldP T fs) (zs.map Z.cl) ps with | true, some l => some ([], .g zs.length (.c l)) | _, _ => none)
   | .arr _ e => (match T e with
    | some te => (match putAll (fun i => some (i * te.size, te.size)) (zs.map Z.cl) ps with | some l => some ([], .g zs.length (asCs te.d l)) | none => none)
    | none => none)
   | _ => none)
  | none => none)
 | none => none
theorem putC_len {l l' : List Cl} {off size : Nat} {x : AV} {v : Value} (hv : avR ρ x v) (h : putC l off size x = some l') : l'.length = l.length := by
 cases x with
 | c c =>
  simp only [putC] at h
  split at h
  ·injection h with h; subst h; simp
  ·cases h
 | g n cs =>
  simp only [putC] at h
  split at h
  ·rename_i h2
   simp only [decide_eq_true_eq] at h2
   injection h with h; subst h
   obtain ⟨vs, hcs, hn, rfl⟩ := hv
   have := (exC_ok hcs hn).1
   simp; omega
  ·cases h
 | t xs => cases h
theorem putAll_len {place : Nat → Option (Nat × Nat)} : ∀ {ps : List (Nat × AV)} {qs : List (Nat × Value)} {l l' : List Cl}, putAll place l ps = some l' → F2 (fun (p : Nat × AV) (q : Nat × Value) => p.1 = q.1 ∧ avR ρ p.2 q.2) ps qs → l'.length = l.length
 | [], qs, l, l', h, hq => by injection h with h; subst h; rfl
 | (i, x) :: ps, qs, l, l', h, hq => by
  cases qs with
  | nil => exact absurd hq.1 (by simp)
  | cons q qs =>
   have h0 := hq.2 0 (i, x) q rfl rfl
   have hq' : F2 (fun (p : Nat × AV) (q : Nat × Value) => p.1 = q.1 ∧ avR ρ p.2 q.2) ps qs := ⟨by have := hq.1; simpa using this, fun k a b ha hb => hq.2 (k + 1) a b (by simpa using ha) (by simpa using hb)⟩
   simp only [putAll] at h
   split at h
   ·split at h
    ·rename_i l1 hl1
     rw [putAll_len h hq', putC_len h0.2 hl1]
    ·cases h
   ·cases h
theorem zs_R (zs : List Z) : F2 (clR ρ) (zs.map Z.cl) (zs.map Z.val) := by
 induction zs with
 | nil => exact F2.nil
 | cons z zs ih => exact F2.cons (Z.cl_ok ρ z) ih
theorem mapM_places {fs : List Field} {P : Program} {w : World} {T : Tab} (hT : TabOk P T) : (∀ f ∈ fs, (T f.type).isSome = true) →
  ∃ ps : List (Nat × Nat), ((fs.mapM fun (f : Field) => (do pure (f.offset, ← sizeOf f.type) : Sem (Nat × Nat))).run P w = .ok ps w) ∧ ∀ i : Nat, ps[i]? = (match (fs.map fun f => (f.type, f.offset))[i]? with | some (ft, fo) => (match T ft with | some tf => some (fo, tf.size) | none => none) | none => none) := by
 induction fs with
 | nil => intro _; exact ⟨[], by simp, fun i => by simp⟩
 | cons f fs ih =>
  intro h
  obtain ⟨ps, hr, hp⟩ := ih (fun g hg => h g (by simp [hg]))
  have hf := h f (by simp)
  cases ht : T f.type with
  | none => rw [ht] at hf; cases hf
  | some tf =>
   obtain ⟨ie, hie, hs1, _⟩ := (hT.at ht).i
   refine ⟨(f.offset, tf.size) :: ps, ?_, fun i => ?_⟩
   ·have h1 : ((do pure (f.offset, ← sizeOf f.type) : Sem (Nat × Nat))).run P w = .ok (f.offset, tf.size) w := by simp [sizeOf, typeInfo, hie, hs1]
    rw [List.mapM_cons, Sem.run_bind, h1, Result.andThen_ok, Sem.run_bind, hr]
    simp
   ·cases i with
    | zero => simp [ht]
    | succ i => simpa using hp i
theorem bdA_ok (hT : TabOk P T) {t : TypeId} {ps : List (Nat × AV)} {qs : Array (Nat × Value)} (hq : F2 (fun (p : Nat × AV) (q : Nat × Value) => p.1 = q.1 ∧ avR ρ p.2 q.2) ps qs.toList) {g : List Prop} {z : AV} (h : bdA T t ps = some (g, z)) :
  ∃ u, (Instr.build t qs).run P w = .ok u w ∧ avR ρ z u := by
 unfold bdA at h
 cases ht : T t with
 | none => simp [ht] at h
 | some ti =>
  simp only [ht] at h
  cases hz : ti.z with
  | none => simp [hz] at h
  | some zs =>
   simp only [hz] at h
   obtain ⟨ie, hie, hs1, _, _, hzz⟩ := (hT.at ht).i
   obtain ⟨zv, hzv, hzc⟩ := hzz zs hz
   have hzr : (zeroValue t).run P w = .ok zv w := by simp [zeroValue, typeInfo, hie, hzv]
   have hcl : zv.cells.toList = zs.map Z.val := by rw [hzc]
   have hF : F2 (clR ρ) (zs.map Z.cl) zv.cells.toList := by rw [hcl]; exact zs_R zs
   cases hd : ti.d <;> simp only [hd, reduceCtorEq] at h
   case st fs =>
    split at h
    ·rename_i l hdec hl
     simp only [decide_eq_true_eq] at hdec
     injection h with h; simp only [Prod.mk.injEq] at h; obtain ⟨rfl, rfl⟩ := h
     obtain ⟨f, ut, hfs⟩ := (hT.at ht).st hd
     obtain ⟨pl, hpr, hpp⟩ := mapM_places (P := P) (w := w) (fs := f.toList) hT (fun g hg => by
      have := hdec (g.type, g.offset) (by rw [← hfs]; exact List.mem_map.2 ⟨g, hg, rfl⟩)
      exact this)
     rw [hfs] at hpp
     have hplace : (fun i => pl.toArray[i]?) = fldP T fs := by
      funext i
      have := hpp i
      simpa [fldP] using this
     obtain ⟨cells', hfill, hr⟩ := putAll_ok hl hF hq
     refine ⟨.agg cells', ?_, cells'.toList, hr, ?_, by simp⟩
     ·have hpr2 : ((f.mapM fun (f : Field) => (do pure (f.offset, ← sizeOf f.type) : Sem (Nat × Nat)))).run P w = .ok pl.toArray w := by
       rw [Array.mapM_eq_mapM_toList, Sem.run_map, hpr]
       rfl
      rw [← hplace] at hfill
      simp only [Instr.build, Sem.run_bind, hzr, Result.andThen_ok, run_underlying ut]
      rw [hpr2, Result.andThen_ok, hfill]
      simp only [Sem.run_pure]
     ·have := hr.1; have h2 := putAll_len hl hq
      rw [← this, h2]; simp
    ·cases h
   case arr n e =>
    split at h
    ·rename_i te hte
     split at h
     ·rename_i l hl
      injection h with h; simp only [Prod.mk.injEq] at h; obtain ⟨rfl, rfl⟩ := h
      have ut := (hT.at ht).arr hd
      obtain ⟨ie2, hie2, hs2, _⟩ := (hT.at hte).i
      obtain ⟨cells', hfill, hr⟩ := putAll_ok hl hF hq
      refine ⟨.agg cells', ?_, cells'.toList, ?_, ?_, by simp⟩
      ·simp [Instr.build, hzr, run_underlying ut, sizeOf, typeInfo, hie2, hs2, hfill]
      ·unfold csR; rw [asCs_cl]; exact hr
      ·have := hr.1; have h2 := putAll_len hl hq
       rw [← this, h2]; simp
     ·cases h
    ·cases h
def slT (T : Tab) (t : TypeId) : Option TypeId := match T t with | some ti => (match ti.d with | .sl e => some e | _ => none) | none => none
def strT (T : Tab) (t : TypeId) : Bool := match T t with | some ti => (match ti.d with | .str => true | _ => false) | none => false
def u8T (T : Tab) (t : TypeId) : Bool := match T t with | some ti => (match ti.d with | .int .u8 => true | _ => false) | none => false
theorem slT_ok (hT : TabOk P T) {t e : TypeId} (h : slT T t = some e) : P.underlying t = some (.slice e) := by
 unfold slT at h
 cases ht : T t with
 | none => simp [ht] at h
 | some ti =>
  simp only [ht] at h
  cases hd : ti.d <;> simp only [hd, reduceCtorEq] at h
  injection h with h; subst h
  exact (hT.at ht).sl hd
theorem strT_ok (hT : TabOk P T) {t : TypeId} (h : strT T t = true) : P.underlying t = some .string := by
 unfold strT at h
 cases ht : T t with
 | none => simp [ht] at h
 | some ti =>
  simp only [ht] at h
  cases hd : ti.d <;> simp only [hd, reduceCtorEq] at h
  exact (hT.at ht).str hd
theorem u8T_ok (hT : TabOk P T) {t : TypeId} (h : u8T T t = true) : P.underlying t = some (.int .u8) := by
 unfold u8T at h
 cases ht : T t with
 | none => simp [ht] at h
 | some ti =>
  simp only [ht] at h
  cases hd : ti.d with
  | int k => cases k <;> simp [hd] at h; exact (hT.at ht).int hd
  | _ => simp [hd] at h
def opt (ae : Operand → Option AV) : Option Operand → Option (Option Int)
 | none => some none
 | some x => match ae x with | some v => (match intA v with | some n => some (some n) | none => none) | none => none
def unx (op : UnOp) (x : Sc) : Option (List Prop × Sc) := match op, x with
 | .not, .b b => some ([], .b (!b))
 | .neg, .k kd n => some ([okI kd (-n)], .k kd (-n))
 | .xor, .u32 x => some ([], .u32 (~~~x))
 | .xor, .u64 x => some ([], .u64 (~~~x))
 | .xor, .u8 x => some ([], .u8 (~~~x))
 | _, _ => none
theorem unx_ok {op : UnOp} {x z : Sc} {g : List Prop} (h : unx op x = some (g, z)) (hg : allP g) (w : World) : (Op.unary op x.val).run P w = .ok z.val w := by
 unfold unx at h
 split at h
 ·injection h with h; simp only [Prod.mk.injEq] at h; obtain ⟨rfl, rfl⟩ := h; rfl
 ·injection h with h; simp only [Prod.mk.injEq] at h; obtain ⟨rfl, rfl⟩ := h
  simp only [allP, okI] at hg
  simp [Op.unary, Op.intArith, Sc.val, hg]
 ·injection h with h; simp only [Prod.mk.injEq] at h; obtain ⟨rfl, rfl⟩ := h; exact run_not32 _ w
 ·injection h with h; simp only [Prod.mk.injEq] at h; obtain ⟨rfl, rfl⟩ := h; exact Go.Ch.run_not64 _ w
 ·injection h with h; simp only [Prod.mk.injEq] at h; obtain ⟨rfl, rfl⟩ := h; exact run_not8 _ w
 ·cases h
def eqF (T : Tab) : List (TypeId × Nat) → List Cl → List Cl → Option Bool
 | [], _, _ => some true
 | (t, o) :: fs, xs, ys => (match T t with
  | some ti => (match ti.d, xs[o]?, ys[o]? with
   | .int _, some (.s (.k k1 a)), some (.s (.k k2 b)) => (match decide (k1 = k2), eqF T fs xs ys with | true, some r => some (a == b && r) | _, _ => none)
   | _, _, _ => none)
  | none => none)
def eqG (T : Tab) (op : BinOp) (t : TypeId) (xs ys : List Cl) : Option Bool := match T t with
 | some ti => (match ti.cmp, ti.d with
  | true, .st fs => (match op, eqF T fs xs ys with | .eql, some r => some r | .neq, some r => some (!r) | _, _ => none)
  | _, _ => none)
 | none => none
theorem eqF_ok (hT : TabOk P T) {ρ : Pls} {xs ys : List Cl} {vx vy : List Value} (hx : F2 (clR ρ) xs vx) (hy : F2 (clR ρ) ys vy) (d : Nat) (w : World) : ∀ (fs : List Field), (fs.all fun f => f.name != "_") = true → ∀ {r : Bool}, eqF T (fs.map fun f => (f.type, f.offset)) xs ys = some r →
  (Op.eqFields (d + 1) vx.toArray vy.toArray fs).run P w = .ok r w := by
 intro fs
 induction fs with
 | nil => intro _ r h; simp only [List.map_nil, eqF, Option.some.injEq] at h; subst h; rfl
 | cons f fs ih =>
  intro hn r h
  simp only [List.all_cons, Bool.and_eq_true, bne_iff_ne] at hn
  simp only [List.map_cons, eqF] at h
  split at h
  ·rename_i ti hti
   split at h
   ·rename_i k k1 a k2 b hd hxa hyb
    split at h
    ·rename_i r' hk hr'
     injection h with h; subst h
     obtain rfl : k1 = k2 := of_decide_eq_true hk
     have ih := ih hn.2 hr'
     obtain ⟨u, hu, ru⟩ := hx.at hxa
     obtain ⟨v, hv, rv⟩ := hy.at hyb
     have hagg : (isAgg f.type).run P w = .ok false w := by rw [run_isAggT (hT.at hti), hd]; rfl
     have e1 : (part f.type vx.toArray f.offset).run P w = .ok u w := by simp [part, hagg, hu]
     have e2 : (part f.type vy.toArray f.offset).run P w = .ok v w := by simp [part, hagg, hv]
     have e3 : (Op.equalIn (d + 1) f.type u v).run P w = .ok (a == b) w := by
      have h1 : u = .int k1 a := ru
      have h2 : v = .int k1 b := rv
      rw [h1, h2]
      exact run_equalIn_int w d f.type k1 k a b ((hT.at hti).int hd)
     simp only [Op.eqFields, if_pos hn.1, Sem.run_bind, e1, e2, e3, Result.andThen_ok]
     cases hab : (a == b)
     ·simp
     ·simpa using ih
    ·cases h
   ·cases h
  ·cases h
theorem eqG_ok (hT : TabOk P T) {ρ : Pls} {op : BinOp} {t : TypeId} {xs ys : List Cl} {vx vy : List Value} (hx : F2 (clR ρ) xs vx) (hy : F2 (clR ρ) ys vy) {r : Bool} (h : eqG T op t xs ys = some r) (ex ey : Operand) (w : World) :
  binRun P op t ex ey (.agg vx.toArray) (.agg vy.toArray) w = .ok (.bool r) w := by
 unfold eqG at h
 split at h
 ·rename_i ti hti
  split at h
  ·rename_i fs hc hd
   obtain ⟨f, hu, hf⟩ := (hT.at hti).st hd
   obtain ⟨i, _, _, _, h3, _⟩ := (hT.at hti).i
   rw [hc, Bool.and_eq_true] at h3
   have h4 := h3.2
   unfold eqOkT at h4
   rw [hu] at h4
   simp only [Bool.and_eq_true, Bool.not_eq_true'] at h4
   obtain ⟨hs, hg, hn⟩ := h4
   have hfo : P.fieldsOf t = f := by unfold Program.fieldsOf; rw [hu]
   have hu' : P.underlying t = some (.struct (P.fieldsOf t)) := by rw [hfo]; exact hu
   have key : ∀ r', eqF T fs xs ys = some r' → (Op.equalIn 10000 t (.agg vx.toArray) (.agg vy.toArray)).run P w = .ok r' w := fun r' hr' => by
    rw [run_equalIn_struct w 9999 t _ _ hu' hs, hfo]
    rw [← hf] at hr'
    exact eqF_ok hT hx hy 9998 w f.toList hn hr'
   split at h
   ·rename_i r' hr'
    injection h with h; subst h
    simp only [binRun, Sem.run_bind, run_eqGuard_agg w .eql t ex ey _ _ hg, Result.andThen_ok, run_eql_struct, key _ hr']
   ·rename_i r' hr'
    injection h with h; subst h
    simp only [binRun, Sem.run_bind, run_eqGuard_agg w .neq t ex ey _ _ hg, Result.andThen_ok, run_neq_struct, key _ hr']
   ·cases h
  ·cases h
 ·cases h
def isNilP : Sc → Bool
 | .v u => (match u with | .pointer a => a.isNone | _ => false)
 | _ => false
def ptrEq (T : Tab) (op : BinOp) (t : TypeId) : Option Bool := match T t with
 | some ti => (match ti.d with | .ptr _ => (match op with | .eql => some false | .neq => some true | _ => none) | _ => none)
 | none => none
theorem isNilP_ok {y : Sc} (h : isNilP y = true) : y.val = .pointer none := by
 cases y with
 | v u =>
  cases u with
  | pointer a => cases a with
   | none => rfl
   | some _ => cases h
  | _ => cases h
 | _ => cases h
theorem run_eqPtr {P : Program} {t e : TypeId} {ad : Addr} {w : World} (ht : P.underlying t = some (.pointer e)) : (Op.equal t (.pointer (some ad)) (.pointer none)).run P w = .ok false w := by
 unfold Op.equal Op.maxDepth Op.equalIn
 rw [Sem.run_bind, run_underlying ht w]
 simp
theorem ptrEq_ok {P : Program} {T : Tab} (hT : TabOk P T) {op : BinOp} {t : TypeId} {r : Bool} (h : ptrEq T op t = some r) (ex ey : Operand) (ad : Addr) (w : World) : binRun P op t ex ey (.pointer (some ad)) (.pointer none) w = .ok (.bool r) w := by
 unfold ptrEq at h
 split at h
 ·rename_i ti hti
  split at h
  ·rename_i e hd
   have ht : ∃ e, P.underlying t = some (.pointer e) := by
    obtain ⟨d, h1, h2⟩ := (hT.at hti).d
    rw [hd] at h2
    cases d <;> simp [tdOf] at h2
    exact ⟨_, h1⟩
   obtain ⟨e, ht⟩ := ht
   split at h
   ·injection h with h; subst h
    simp only [binRun, eqGuard, Sem.run_bind]; simp [binOp, run_eqPtr ht]
   ·injection h with h; subst h
    simp only [binRun, eqGuard, Sem.run_bind]; simp [binOp, run_eqPtr ht]
   ·cases h
  ·cases h
 ·cases h
def vop (T : Tab) (H : Hp) (ae : Operand → Option AV) (op : Op) : Option (List Prop × AV) := match op with
 | .move x => (match ae x with | some v => some ([], v) | none => none)
 | .assign x => (match ae x with | some v => some ([], v) | none => none)
 | .pick c a b => (match ae c with
  | some (.c (.s (.b true))) => (match ae a with | some v => some ([], v) | none => none)
  | some (.c (.s (.b false))) => (match ae b with | some v => some ([], v) | none => none)
  | _ => none)
 | .nilCheck x => (match ae x with | some (.c (.pt i off)) => some ([], .c (.pt i off)) | _ => none)
 | .extract x k => (match ae x with | some (.t xs) => (match xs[k]? with | some a => some ([], a.av) | none => none) | _ => none)
 | .binOp op t x y _ => (match ae x, ae y with
  | some (.c (.s a)), some (.c (.s b)) => (match binx T op t (isConst x || isConst y) a b with | some (g, z) => some (g, .c (.s z)) | none => none)
  | some (.g _ a), some (.g _ b) => (match eqG T op t a.cl b.cl with | some r => some ([], .c (.s (.b r))) | none => none)
  | some (.c (.pt _ _)), some (.c (.s y)) => (match isNilP y, ptrEq T op t with | true, some r => some ([], .c (.s (.b r))) | _, _ => none)
  | _, _ => none)
 | .unOp op _ x => (match ae x with | some (.c (.s a)) => (match unx op a with | some (g, z) => some (g, .c (.s z)) | none => none) | _ => none)
 | .convert s t x => (match ae x with
  | some (.c (.s a)) => (match convx T s t a with | some (g, z) => some (g, .c (.s z)) | none => none)
  | some (.c y) => (match slT T s with
   | some e => (match u8T T e, strT T t, viewB H y with | true, true, some l => some ([], .c (.s (.str l))) | _, _, _ => none)
   | none => none)
  | _ => none)
 | .indexAddr t x i => (match ae x, ae i with | some a, some b => (match intA b with | some n => ixA T H t a n | none => none) | _, _ => none)
 | .index t x i => (match ae x, ae i with | some a, some b => (match intA b with | some n => ixV T t a n | none => none) | _, _ => none)
 | .load t x => (match ae x with | some a => ldA T H t a | none => none)
 | .slice t x lo hi mx => (match ae x, opt ae lo, opt ae hi, opt ae mx with | some a, some l, some h, some m => slA T H t a l h m | _, _, _, _ => none)
 | .fieldAddr t x f => (match ae x with | some a => faA T H t a f | none => none)
 | .field t x f => (match ae x with | some a => fdA T t a f | none => none)
 | .sliceToArrayPointer t x => (match ae x with | some a => saA T H t a | none => none)
 | .makeInterface t x => (match ae x with | some (.c (.s (.k kd n))) => (match cmpT T t kd with | true => some ([], .c (.s (.er t kd (some n)))) | false => none) | _ => none)
 | .build t ps => (match evParts ae ps.toList with | some qs => bdA T t qs | none => none)
 | .makeFunc fn first cap => (match fn, first.toList, cap.toList with
  | .func f, [], [x] => (match ae x with | some (.c (.pt i off)) => some ([], .c (.fp f i off)) | _ => none)
  | _, _, _ => none)
 | .call c => (match c.callee with
  | .builtin b => (match b, c.args.toList, c.argTypes.toList with
   | .len, [x], [t] => (match ae x with
    | some (.c y) => (match strT T t, slT T t with
     | true, _ => (match y with | .s (.str l) => some ([], .c (.s (.k .i64 (l.length : Int)))) | _ => none)
     | false, some _ => (match lenC H y with | some n => some ([], .c (.s (.k .i64 (n : Int)))) | none => none)
     | _, _ => none)
    | _ => none)
   | .max, [x, y], _ => (match ae x, ae y with
    | some (.c (.s (.k .i64 n))), some (.c (.s (.k .i64 m))) => some ([], .c (.s (.k .i64 (if m > n then m else n))))
    | _, _ => none)
   | .min, [x, y], _ => (match ae x, ae y with
    | some (.c (.s (.k .i64 n))), some (.c (.s (.k .i64 m))) => some ([], .c (.s (.k .i64 (if m < n then m else n))))
    | some (.c (.s (.u32 n))), some (.c (.s (.u32 m))) => some ([], .c (.s (.u32 (if m < n then m else n))))
    | _, _ => none)
   | _, _, _ => none)
  | _ => none)
 | _ => none
theorem opt_ok {ae : Operand → Option AV} {ev : Operand → Value} (hae : ∀ x av, ae x = some av → avR ρ av (ev x)) {x : Option Operand} {r : Option Int} (h : opt ae x = some r) : okV r (x.map ev) := by
 cases x with
 | none => injection h with h; subst h; exact True.intro
 | some x =>
  simp only [opt] at h
  cases hx : ae x with
  | none => simp [hx] at h
  | some v =>
   simp only [hx] at h
   cases hn : intA v with
   | none => simp [hn] at h
   | some n =>
    simp only [hn] at h
    injection h with h; subst h
    obtain ⟨kd, hk⟩ := intA_ok hn (hae x v hx)
    exact ⟨kd, hk⟩
theorem vop_ok (hT : TabOk P T) (hp : HpR ρ w H) {ae : Operand → Option AV} {ev : Operand → Value} (hae : ∀ x av, ae x = some av → avR ρ av (ev x)) {op : Op} {g : List Prop} {z : AV} (h : vop T H ae op = some (g, z)) (hg : allP g)
  (d : Option Tmp) (ty : TypeId) (pos : String) (aft : Array Edge) (gd : Option (Nat × Bool)) :
  ∃ u, (execOp ev ⟨d, op, ty, pos, aft, gd⟩).run P w = .ok (.value u) w ∧ avR ρ z u := by
 have one : ∀ {x : Operand} {v : AV}, ae x = some v → avR ρ v (ev x) := fun h => hae _ _ h
 cases op with
 | move x =>
  simp only [vop] at h
  split at h
  ·rename_i v hv; injection h with h; simp only [Prod.mk.injEq] at h; obtain ⟨rfl, rfl⟩ := h
   exact ⟨ev x, by simp [execOp], one hv⟩
  ·cases h
 | assign x =>
  simp only [vop] at h
  split at h
  ·rename_i v hv; injection h with h; simp only [Prod.mk.injEq] at h; obtain ⟨rfl, rfl⟩ := h
   exact ⟨ev x, by simp [execOp], one hv⟩
  ·cases h
 | pick c a b =>
  simp only [vop] at h
  split at h
  ·rename_i hc
   split at h
   ·rename_i v hv; injection h with h; simp only [Prod.mk.injEq] at h; obtain ⟨rfl, rfl⟩ := h
    have h1 : ev c = .bool true := one hc
    exact ⟨ev a, by simp [execOp, h1, asBool], one hv⟩
   ·cases h
  ·rename_i hc
   split at h
   ·rename_i v hv; injection h with h; simp only [Prod.mk.injEq] at h; obtain ⟨rfl, rfl⟩ := h
    have h1 : ev c = .bool false := one hc
    exact ⟨ev b, by simp [execOp, h1, asBool], one hv⟩
   ·cases h
  ·cases h
 | nilCheck x =>
  simp only [vop] at h
  split at h
  ·rename_i i off hx; injection h with h; simp only [Prod.mk.injEq] at h; obtain ⟨rfl, rfl⟩ := h
   have h1 := one hx
   obtain ⟨h0, ad, hA, hv⟩ := h1
   exact ⟨_, by simp only [execOp, hv]; rfl, h0, ad, hA, rfl⟩
  ·cases h
 | extract x k =>
  simp only [vop] at h
  split at h
  ·rename_i xs hx
   split at h
   ·rename_i a ha; injection h with h; simp only [Prod.mk.injEq] at h; obtain ⟨rfl, rfl⟩ := h
    obtain ⟨vs, hvs, hv⟩ := one hx
    obtain ⟨u, hu, hr⟩ := hvs.at ha
    exact ⟨u, by simp [execOp, hv, Instr.extract, hu], a1R_av hr⟩
   ·cases h
  ·cases h
 | binOp op t x y ty2 =>
  simp only [vop] at h
  split at h
  ·rename_i a b ha hb
   split at h
   ·rename_i g' z' hz; injection h with h; simp only [Prod.mk.injEq] at h; obtain ⟨rfl, rfl⟩ := h
    have h1 : ev x = a.val := one ha
    have h2 : ev y = b.val := one hb
    have := binx_ok hT hz hg w
    refine ⟨z'.val, ?_, rfl⟩
    unfold binRun at this
    simp only [execOp, h1, h2, Sem.run_bind] at this ⊢
    rw [this]; rfl
   ·cases h
  ·rename_i n1 a n2 b ha hb
   split at h
   ·rename_i r hr; injection h with h; simp only [Prod.mk.injEq] at h; obtain ⟨rfl, rfl⟩ := h
    obtain ⟨vx, hcx, _, h1⟩ := one ha
    obtain ⟨vy, hcy, _, h2⟩ := one hb
    have := eqG_ok hT hcx hcy hr x y w
    refine ⟨.bool r, ?_, rfl⟩
    unfold binRun at this
    simp only [execOp, h1, h2, Sem.run_bind] at this ⊢
    rw [this]; rfl
   ·cases h
  ·rename_i i off b ha hb
   split at h
   ·rename_i r hn hr; injection h with h; simp only [Prod.mk.injEq] at h; obtain ⟨rfl, rfl⟩ := h
    obtain ⟨_, ad, _, h1⟩ := one ha
    have h2 : ev y = b.val := one hb
    rw [isNilP_ok hn] at h2
    have := ptrEq_ok hT hr x y (ad.add off) w
    refine ⟨.bool r, ?_, rfl⟩
    unfold binRun at this
    simp only [execOp, h1, h2, Sem.run_bind] at this ⊢
    rw [this]; rfl
   ·cases h
  ·cases h
 | unOp op t x =>
  simp only [vop] at h
  split at h
  ·rename_i a ha
   split at h
   ·rename_i g' z' hz; injection h with h; simp only [Prod.mk.injEq] at h; obtain ⟨rfl, rfl⟩ := h
    have h1 : ev x = a.val := one ha
    exact ⟨z'.val, by simp [execOp, h1, unx_ok hz hg w], rfl⟩
   ·cases h
  ·cases h
 | convert s t x =>
  simp only [vop] at h
  split at h
  ·rename_i a ha
   split at h
   ·rename_i g' z' hz; injection h with h; simp only [Prod.mk.injEq] at h; obtain ⟨rfl, rfl⟩ := h
    have h1 : ev x = a.val := one ha
    exact ⟨z'.val, by simp [execOp, h1, convx_ok hT hz hg w], rfl⟩
   ·cases h
  ·rename_i y _ hy
   split at h
   ·rename_i e hs
    split at h
    ·rename_i l he ht hl
     injection h with h; simp only [Prod.mk.injEq] at h; obtain ⟨rfl, rfl⟩ := h
     have h1 := viewB_ok hp hl (one hy)
     have h2 := run_bytes_string (P := P) (w := w) (slT_ok hT hs) (u8T_ok hT he) (strT_ok hT ht) h1
     exact ⟨.string ⟨l.toArray⟩, by simp [execOp, h2], rfl⟩
    ·cases h
   ·cases h
  ·cases h
 | indexAddr t x i =>
  simp only [vop] at h
  split at h
  ·rename_i a b ha hb
   split at h
   ·rename_i n hn
    obtain ⟨kd, hk⟩ := intA_ok hn (one hb)
    obtain ⟨u, hu, hr⟩ := ixA_ok hT hp h hg (one ha) kd
    exact ⟨u, by simp [execOp, hk, hu], hr⟩
   ·cases h
  ·cases h
 | index t x i =>
  simp only [vop] at h
  split at h
  ·rename_i a b ha hb
   split at h
   ·rename_i n hn
    obtain ⟨kd, hk⟩ := intA_ok hn (one hb)
    obtain ⟨u, hu, hr⟩ := ixV_ok hT h hg (one ha) kd (w := w)
    exact ⟨u, by simp [execOp, hk, hu], hr⟩
   ·cases h
  ·cases h
 | load t x =>
  simp only [vop] at h
  split at h
  ·rename_i a ha
   obtain ⟨u, hu, hr⟩ := ldA_ok hT hp h hg (one ha)
   exact ⟨u, by simp [execOp, hu], hr⟩
  ·cases h
 | slice t x lo hi mx =>
  simp only [vop] at h
  split at h
  ·rename_i a l1 h1 m1 ha hl hh hm
   obtain ⟨u, hu, hr⟩ := slA_ok hT hp (opt_ok hae hl) (opt_ok hae hh) (opt_ok hae hm) h hg (one ha)
   exact ⟨u, by simp [execOp, hu], hr⟩
  ·cases h
 | fieldAddr t x f =>
  simp only [vop] at h
  split at h
  ·rename_i a ha
   obtain ⟨u, hu, hr⟩ := faA_ok hT hp h hg (one ha)
   exact ⟨u, by simp [execOp, hu], hr⟩
  ·cases h
 | field t x f =>
  simp only [vop] at h
  split at h
  ·rename_i a ha
   obtain ⟨u, hu, hr⟩ := fdA_ok hT h hg (one ha) (w := w)
   exact ⟨u, by simp [execOp, hu], hr⟩
  ·cases h
 | sliceToArrayPointer t x =>
  simp only [vop] at h
  split at h
  ·rename_i a ha
   obtain ⟨u, hu, hr⟩ := saA_ok hT hp h hg (one ha)
   exact ⟨u, by simp [execOp, hu], hr⟩
  ·cases h
 | makeFunc fn first cap =>
  simp only [vop] at h
  split at h
  ·rename_i f x hf hc
   split at h
   ·rename_i i off hx
    injection h with h; simp only [Prod.mk.injEq] at h; obtain ⟨rfl, rfl⟩ := h
    obtain ⟨h0, ad, hA, hv⟩ := one hx
    have e1 : first = #[] := Array.ext' hf
    have e2 : cap = #[x] := Array.ext' hc
    subst e1; subst e2
    exact ⟨_, by simp [execOp, Instr.makeFunc, hv], h0, ad, hA, rfl⟩
   ·cases h
  ·cases h
 | makeInterface t x =>
  simp only [vop] at h
  split at h
  ·rename_i kd n hx
   split at h
   ·rename_i hc
    injection h with h; simp only [Prod.mk.injEq] at h; obtain ⟨rfl, rfl⟩ := h
    have h1 : ev x = .int kd n := one hx
    obtain ⟨h2, _⟩ := cmpT_ok hT hc
    exact ⟨.iface t (.int kd n), by simp [execOp, h1, Instr.makeInterface, run_underlying h2], rfl⟩
   ·cases h
  ·cases h
 | build t ps =>
  simp only [vop] at h
  split at h
  ·rename_i qs hqs
   have h1 := evParts_ok (ρ := ρ) hae hqs
   obtain ⟨u, hu, hr⟩ := bdA_ok hT (qs := ps.map fun p => (p.1, ev p.2)) (by simpa using h1) h (w := w)
   exact ⟨u, by simp [execOp, hu], hr⟩
  ·cases h
 | call c =>
  obtain ⟨callee, args, argTypes⟩ := c
  simp only [vop] at h
  split at h
  ·rename_i b
   split at h
   ·rename_i x t ha ht
    have ea : args = #[x] := by apply Array.ext'; exact ha
    have et : argTypes = #[t] := by apply Array.ext'; exact ht
    subst ea; subst et
    split at h
    ·rename_i y hy
     split at h
     ·rename_i hs
      split at h
      ·rename_i l
       injection h with h; simp only [Prod.mk.injEq] at h; obtain ⟨rfl, rfl⟩ := h
       have h1 : ev x = .string ⟨l.toArray⟩ := one hy
       refine ⟨.int .i64 (l.length : Int), ?_, rfl⟩
       have hsz : (ByteArray.mk l.toArray).size = l.length := by simp [ByteArray.size]
       simp [execOp, resolve, invoke, builtin, h1, Builtin.len_, run_underlying (strT_ok hT hs), goInt, hsz]
      ·cases h
     ·rename_i e hs hsl
      split at h
      ·rename_i n hn
       injection h with h; simp only [Prod.mk.injEq] at h; obtain ⟨rfl, rfl⟩ := h
       obtain ⟨A, cc, hA⟩ := lenC_ok hp hn (one hy)
       refine ⟨.int .i64 (n : Int), ?_, rfl⟩
       simp [execOp, resolve, invoke, builtin, hA, Builtin.len_, run_underlying (slT_ok hT hsl), goInt]
      ·cases h
     ·cases h
    ·cases h
   ·rename_i ts x y ha
    have ea : args = #[x, y] := by apply Array.ext'; exact ha
    subst ea
    split at h
    ·rename_i n m hx hy
     injection h with h; simp only [Prod.mk.injEq] at h; obtain ⟨rfl, rfl⟩ := h
     have h1 : ev x = .int .i64 n := one hx
     have h2 : ev y = .int .i64 m := one hy
     exact ⟨.int .i64 (if m > n then m else n), by simp [execOp, resolve, invoke, builtin, h1, h2, Builtin.max_, Builtin.max2], rfl⟩
    ·cases h
   ·rename_i ts x y ha
    have ea : args = #[x, y] := by apply Array.ext'; exact ha
    subst ea
    split at h
    ·rename_i n m hx hy
     injection h with h; simp only [Prod.mk.injEq] at h; obtain ⟨rfl, rfl⟩ := h
     have h1 : ev x = .int .i64 n := one hx
     have h2 : ev y = .int .i64 m := one hy
     exact ⟨.int .i64 (if m < n then m else n), by simp [execOp, resolve, invoke, builtin, h1, h2, Builtin.min_, Builtin.min2], rfl⟩
    ·rename_i n m hx hy
     injection h with h; simp only [Prod.mk.injEq] at h; obtain ⟨rfl, rfl⟩ := h
     have h1 : ev x = w32 n := one hx
     have h2 : ev y = w32 m := one hy
     refine ⟨w32 (if m < n then m else n), ?_, rfl⟩
     have e : ((m.toNat : Int) < (n.toNat : Int)) ↔ m < n := by rw [UInt32.lt_iff_toNat_lt]; omega
     by_cases hmn : m < n <;> simp [execOp, resolve, invoke, builtin, h1, h2, Builtin.min_, Builtin.min2, w32, e, hmn]
    ·cases h
   ·cases h
  ·cases h
 | _ => simp [vop] at h
end
end Go.Sx
end
section
namespace Go.Sx
open Go.RowKit Go.Ch
def ltC (m : Nat) : Cl → Bool
 | .wh i => decide (i < m)
 | .sl i _ _ => decide (i < m)
 | .pt i _ => decide (i < m)
 | .dv i _ => decide (i < m)
 | .dq i _ _ _ _ => decide (i < m)
 | .fp _ i _ => decide (i < m)
 | .pre i _ => decide (i < m)
 | .gh i _ => decide (i < m)
 | .gi i _ => decide (i < m)
 | _ => true
def ltL (m : Nat) : List Cl → Bool
 | [] => true
 | c :: l => ltC m c && ltL m l
def ltX (m : Nat) : Cs → Bool
 | .c l => ltL m l
 | .g j _ _ tl => decide (j < m) && ltL m tl
 | .p j _ => decide (j < m)
 | _ => true
def lt1 (m : Nat) : A1 → Bool
 | .c x => ltC m x
 | .g _ cs => ltX m cs
def lt1s (m : Nat) : List A1 → Bool
 | [] => true
 | x :: l => lt1 m x && lt1s m l
def ltA (m : Nat) : AV → Bool
 | .c x => ltC m x
 | .g _ cs => ltX m cs
 | .t xs => lt1s m xs
def ltF (m : Nat) : Fr → Bool
 | [] => true
 | (_, x) :: l => ltA m x && ltF m l
def ltH (m : Nat) : Hp → Bool
 | [] => true
 | o :: l => (match o.kd with | .dead => true | _ => ltX m o.cs) && ltH m l
section
variable {ρ ρ' : Pls} {m : Nat}
theorem ltC_ok (hρ : ∀ i, i < m → ρ' i = ρ i) {c : Cl} (h : ltC m c = true) {v : Value} (hv : clR ρ c v) : clR ρ' c v := by
 cases c with
 | wh i => simp only [ltC, decide_eq_true_eq] at h; simp only [clR, hρ i h] at hv ⊢; exact hv
 | sl i lo n => simp only [ltC, decide_eq_true_eq] at h; simp only [clR, hρ i h] at hv ⊢; exact hv
 | pt i off => simp only [ltC, decide_eq_true_eq] at h; simp only [clR, hρ i h] at hv ⊢; exact hv
 | dv i p => simp only [ltC, decide_eq_true_eq] at h; simp only [clR, hρ i h] at hv ⊢; exact hv
 | dq i p k f sz => simp only [ltC, decide_eq_true_eq] at h; simp only [clR, hρ i h] at hv ⊢; exact hv
 | fp f i off => simp only [ltC, decide_eq_true_eq] at h; simp only [clR, hρ i h] at hv ⊢; exact hv
 | pre i n => simp only [ltC, decide_eq_true_eq] at h; simp only [clR, hρ i h] at hv ⊢; exact hv
 | gh i p => simp only [ltC, decide_eq_true_eq] at h; simp only [clR, hρ i h] at hv ⊢; exact hv
 | gi i k => simp only [ltC, decide_eq_true_eq] at h; simp only [clR, hρ i h] at hv ⊢; exact hv
 | s x => exact hv
 | nils => exact hv
 | junk => exact hv
theorem csR_d {ρ : Pls} {x : Dsh} {l : List x.T} {vs : List Value} : csR ρ (.d x l) vs ↔ vs.length = l.length * x.sz := by
 constructor
 ·intro h; rw [h.len]; simp [Cs.cl]
 ·intro h
  refine ⟨by simp [Cs.cl, h], fun j y u hy _ => ?_⟩
  simp only [Cs.cl, List.getElem?_replicate] at hy
  split at hy
  ·injection hy with hy; subst hy; exact True.intro
  ·cases hy
theorem ltL_ok (hρ : ∀ i, i < m → ρ' i = ρ i) : ∀ {l : List Cl}, ltL m l = true → ∀ c ∈ l, ltC m c = true
 | [], _, c, hc => by cases hc
 | x :: l, h, c, hc => by
  simp only [ltL, Bool.and_eq_true] at h
  rcases List.mem_cons.1 hc with rfl | hc
  ·exact h.1
  ·exact ltL_ok hρ h.2 c hc
theorem ltX_ok (hρ : ∀ i, i < m → ρ' i = ρ i) {cs : Cs} (h : ltX m cs = true) {vs : List Value} (hv : csR ρ cs vs) : csR ρ' cs vs := by
 cases cs with
 | c l => exact F2.mono hv (fun c hc v hr => ltC_ok hρ (ltL_ok hρ h c hc) hr)
 | b l => exact csR_b.2 (csR_b.1 hv)
 | w l => exact csR_w.2 (csR_w.1 hv)
 | q l => exact csR_q.2 (csR_q.1 hv)
 | z l => exact csR_z.2 (csR_z.1 hv)
 | d x l => exact csR_d.2 (csR_d.1 hv)
 | g j n sz tl =>
  simp only [ltX, Bool.and_eq_true, decide_eq_true_eq] at h
  refine F2.mono hv (fun c hc v hr => ?_)
  rcases List.mem_append.1 (show c ∈ ghc j n sz ++ tl from hc) with hc | hc
  ·obtain ⟨q, _, rfl⟩ := List.mem_map.1 hc
   exact ltC_ok hρ (by simpa [ltC] using h.1) hr
  ·exact ltC_ok hρ (ltL_ok hρ h.2 c hc) hr
 | p j js =>
  simp only [ltX, decide_eq_true_eq] at h
  refine F2.mono hv (fun c hc v hr => ?_)
  obtain ⟨q, _, rfl⟩ := List.mem_map.1 hc
  exact ltC_ok hρ (by simpa [ltC] using h) hr
theorem lt1_ok (hρ : ∀ i, i < m → ρ' i = ρ i) {x : A1} (h : lt1 m x = true) {v : Value} (hv : a1R ρ x v) : a1R ρ' x v := by
 cases x with
 | c x => exact ltC_ok hρ h hv
 | g n cs => obtain ⟨vs, hc, hn, he⟩ := hv; exact ⟨vs, ltX_ok hρ h hc, hn, he⟩
theorem lt1s_ok (hρ : ∀ i, i < m → ρ' i = ρ i) : ∀ {l : List A1}, lt1s m l = true → ∀ c ∈ l, lt1 m c = true
 | [], _, c, hc => by cases hc
 | x :: l, h, c, hc => by
  simp only [lt1s, Bool.and_eq_true] at h
  rcases List.mem_cons.1 hc with rfl | hc
  ·exact h.1
  ·exact lt1s_ok hρ h.2 c hc
theorem ltA_ok (hρ : ∀ i, i < m → ρ' i = ρ i) {x : AV} (h : ltA m x = true) {v : Value} (hv : avR ρ x v) : avR ρ' x v := by
 cases x with
 | c x => exact ltC_ok hρ h hv
 | g n cs => obtain ⟨vs, hc, hn, he⟩ := hv; exact ⟨vs, ltX_ok hρ h hc, hn, he⟩
 | t xs => obtain ⟨vs, hc, he⟩ := hv; exact ⟨vs, F2.mono hc (fun c hc v hr => lt1_ok hρ (lt1s_ok hρ h c hc) hr), he⟩
theorem ltF_ok : ∀ {fr : Fr}, ltF m fr = true → ∀ t x, fr.lookup t = some x → ltA m x = true
 | [], _, t, x, h => by simp at h
 | (k, y) :: l, h, t, x, hx => by
  simp only [ltF, Bool.and_eq_true] at h
  rw [List.lookup_cons] at hx
  split at hx
  ·injection hx with hx; subst hx; exact h.1
  ·exact ltF_ok h.2 t x hx
theorem ltH_ok : ∀ {H : Hp}, ltH m H = true → ∀ (i : Nat) (o : Oj), H[i]? = some o → o.kd ≠ .dead → ltX m o.cs = true
 | [], _, i, o, h, _ => by simp at h
 | x :: l, h, i, o, hx, hk => by
  simp only [ltH, Bool.and_eq_true] at h
  cases i with
  | zero =>
   simp at hx; subst hx
   have := h.1
   cases hk2 : x.kd <;> simp only [hk2] at this hk
   ·exact this
   ·exact this
   ·exact this
   ·exact absurd rfl hk
   ·exact this
   ·exact this
   ·exact this
   ·exact this
  | succ i => exact ltH_ok h.2 i o (by simpa using hx) hk
theorem objR_lt (hρ : ∀ i, i < m → ρ' i = ρ i) {w : World} {p : Pl} {o : Oj} (h : o.kd ≠ .dead → ltX m o.cs = true) (hv : objR ρ w p o) : objR ρ' w p o := by
 unfold objR at hv ⊢
 cases hk : o.kd with
 | dead => exact True.intro
 | ro fs => simp only [hk] at hv ⊢; obtain ⟨h0, h1, vs, hc, hA⟩ := hv; exact ⟨h0, h1, vs, ltX_ok hρ (h (by rw [hk]; simp)) hc, hA⟩
 | row => simp only [hk] at hv ⊢; obtain ⟨h0, vs, hc, hA⟩ := hv; exact ⟨h0, vs, ltX_ok hρ (h (by rw [hk]; simp)) hc, hA⟩
 | blk => simp only [hk] at hv ⊢; obtain ⟨h0, b, vs, hA, hc, hB⟩ := hv; exact ⟨h0, b, vs, hA, ltX_ok hρ (h (by rw [hk]; simp)) hc, hB⟩
 | dp fs => simp only [hk] at hv ⊢; exact hv
 | gs fs => simp only [hk] at hv ⊢; exact hv
 | od => simp only [hk] at hv ⊢; exact hv
 | og => simp only [hk] at hv ⊢; exact hv
def okS (s : S) : Bool := ltF s.H.length s.fr && (ltF s.H.length s.gl && ltH s.H.length s.H)
def upd (ρ : Pls) (m : Nat) (p : Pl) : Pls := fun i => if i = m then p else ρ i
theorem upd_lt {ρ : Pls} {m : Nat} {p : Pl} : ∀ i, i < m → upd ρ m p i = ρ i := fun i hi => by unfold upd; rw [if_neg (by omega)]
theorem upd_at {ρ : Pls} {m : Nat} {p : Pl} : upd ρ m p m = p := by unfold upd; rw [if_pos rfl]
def putF (fr : Fr) (d : Option Nat) (x : AV) : Fr := match d with
 | some d => (d, x) :: fr.filter (fun p => !(p.1 == d))
 | none => fr
theorem putF_ok {ρ : Pls} {fr : Fr} {d : Option Nat} {x : AV} {a : Act} (h : FrR ρ fr a) {u : Value} (hu : avR ρ x u) (hd : ∀ k, d = some k → k < a.tmps.size) : FrR ρ (putF fr d x) (a.put d u) := by
 cases d with
 | none => exact h
 | some k =>
  intro t y hy
  simp only [putF, List.lookup_cons] at hy
  split at hy
  ·rename_i he
   have he' : t = k := by simpa using he
   subst he'
   injection hy with hy; subst hy
   rw [getD_put_same a u t (hd t rfl)]; exact hu
  ·rename_i he
   have he' : ¬ t = k := by simpa using he
   rw [getD_put_other a (some k) u t (by intro e; injection e with e; exact he' e.symm)]
   refine h t y ?_
   clear hu he h
   induction fr with
   | nil => simp at hy
   | cons q fr ih =>
    obtain ⟨k', z⟩ := q
    rw [List.filter_cons] at hy
    split at hy
    ·rw [List.lookup_cons] at hy ⊢
     split
     ·rename_i e; rw [e] at hy; exact hy
     ·rename_i e; rw [e] at hy; exact ih hy
    ·rename_i hne
     have : k' = k := by simpa using hne
     subst this
     rw [List.lookup_cons]
     split
     ·rename_i e; exact absurd (by simpa using e) he'
     ·exact ih hy
def dropF (fr : Fr) (d : Option Nat) : Fr := match d with
 | some d => fr.filter (fun p => !(p.1 == d))
 | none => fr
theorem dropF_ok {ρ : Pls} {fr : Fr} {d : Option Nat} {a : Act} (h : FrR ρ fr a) {u : Value} : FrR ρ (dropF fr d) (a.put d u) := by
 cases d with
 | none => exact h
 | some k =>
  intro t y hy
  simp only [dropF] at hy
  have hne : t ≠ k := by
   rintro rfl
   clear h
   induction fr with
   | nil => simp at hy
   | cons q fr ih =>
    obtain ⟨k', z⟩ := q
    rw [List.filter_cons] at hy
    split at hy
    ·rename_i hk
     rw [List.lookup_cons] at hy
     split at hy
     ·rename_i e; simp at e hk; exact hk e.symm
     ·exact ih hy
    ·exact ih hy
  rw [getD_put_other a (some k) u t (by intro e; injection e with e; exact hne e.symm)]
  refine h t y ?_
  clear h
  induction fr with
  | nil => simp at hy
  | cons q fr ih =>
   obtain ⟨k', z⟩ := q
   rw [List.filter_cons] at hy
   split at hy
   ·rw [List.lookup_cons] at hy ⊢
    split
    ·rename_i e; rw [e] at hy; exact hy
    ·rename_i e; rw [e] at hy; exact ih hy
   ·rename_i hk
    have : k' = k := by simpa using hk
    subst this
    rw [List.lookup_cons]
    split
    ·rename_i e; exact absurd (by simpa using e) hne
    ·exact ih hy
end
end Go.Sx
end
section
namespace Go.Sx
open Go.RowKit Go.Ch
section
variable {P : Program} {T : Tab} {ρ : Pls} {w w' : World} {H : Hp}
def rmB (n bytes : Nat) : Prop := n * bytes ≤ 140737488355328
instance (n bytes : Nat) : Decidable (rmB n bytes) := inferInstanceAs (Decidable (_ ≤ _))
def zeros (d : Td) (z : Z) (n : Nat) : Cs := match d, z with
 | .int .u8, .int .u8 => .b (List.replicate n 0)
 | .int .u32, .int .u32 => .w (List.replicate n 0)
 | .int .u64, .int .u64 => .q (List.replicate n 0)
 | .int .i64, .int .i64 => .z (List.replicate n 0)
 | _, z => .c (List.replicate n z.cl)
theorem zeros_R (d : Td) (z : Z) (n : Nat) : csR ρ (zeros d z n) (List.replicate n z.val) := by
 have gen : F2 (clR ρ) (List.replicate n z.cl) (List.replicate n z.val) := by
  refine ⟨by simp, fun j x y hx hy => ?_⟩
  rw [List.getElem?_replicate] at hx hy
  split at hx
  ·rw [if_pos (by assumption)] at hy
   injection hx with hx; injection hy with hy
   subst hx; subst hy; exact Z.cl_ok ρ z
  ·cases hx
 unfold zeros
 split
 ·exact csR_b.2 (by simp [Z.val, bU])
 ·exact csR_w.2 (by simp [Z.val, w32])
 ·exact csR_q.2 (by simp [Z.val, w64])
 ·exact csR_z.2 (by simp [Z.val])
 ·exact gen
theorem zeros_len (d : Td) (z : Z) (n : Nat) : (zeros d z n).cl.length = n := by
 have := (zeros_R (ρ := fun _ => pl4 none 0 0 0) d z n).len
 simpa using this.symm
def zcs (T : Tab) (ti : Ti) (zs : List Z) : Cs := match ti.d with
 | .arr n e => (match T e with
  | some te => (match te.z with
   | some [z] => (match decide (zs = List.replicate n z) with | true => zeros te.d z n | false => .c (zs.map Z.cl))
   | _ => .c (zs.map Z.cl))
  | none => .c (zs.map Z.cl))
 | _ => .c (zs.map Z.cl)
theorem zcs_R (T : Tab) (ti : Ti) (zs : List Z) : csR ρ (zcs T ti zs) (zs.map Z.val) := by
 unfold zcs
 split
 ·rename_i n e hd
  split
  ·rename_i te hte
   split
   ·rename_i z hz
    split
    ·rename_i hdec
     simp only [decide_eq_true_eq] at hdec
     have := zeros_R (ρ := ρ) te.d z n
     rw [hdec]; simpa using this
    ·exact zs_R zs
   ·exact zs_R zs
  ·exact zs_R zs
 ·exact zs_R zs
def newR (ρ : Pls) (w w' : World) (u : Value) (p : Pl) (isPtr : Bool) (o : Oj) : Prop :=
 objR ρ w' p o ∧ (∀ g, objAt p o g → w.heap.size ≤ g) ∧ (isPtr = true → 0 < p.n * p.sz ∧ ∃ ad, p.A = some ad ∧ u = .pointer (some ad)) ∧ (isPtr = false → u = .slice p.A p.n p.cap)
def zerosL : Nat → List Cl → List Cl
 | 0, _ => []
 | n + 1, z => z ++ zerosL n z
def rowC (l : List Cl) (te : Ti) : Cs := match te.size with | 1 => asCs te.d l | _ => .c l
theorem rowC_cl (l : List Cl) (te : Ti) : (rowC l te).cl = l := by
 unfold rowC; split
 ·exact asCs_cl _ _
 ·rfl
def aop (T : Tab) (ae : Operand → Option AV) (op : Op) (ty : TypeId) : Option (List Prop × Bool × Oj) := match op with
 | .alloc t => (match T t with
  | some ti => (match ti.z with
   | some zs => (match decide (0 < zs.length) with | true => some ([], true, ⟨.blk, t, 1, zs.length, zcs T ti zs⟩) | false => none)
   | none => none)
  | none => none)
 | .box t x => (match ae x with
  | some (.c c) => (match okC c with | true => some ([], true, ⟨.blk, t, 1, 1, .c [c]⟩) | false => none)
  | some (.g n cs) => (match decide (0 < n) with | true => some ([], true, ⟨.blk, t, 1, n, cs⟩) | false => none)
  | _ => none)
 | .buildSlice t n ps => (match slT T t with
  | some e => (match T e, evParts ae ps.toList with
   | some te, some qs => (match te.z with
    | some zs => (match decide (n * te.size ≤ 16777216 ∧ zs.length = te.size ∧ 0 < te.size), putAll (fun i => some (i * te.size, te.size)) (zerosL n (zs.map Z.cl)) qs with
     | true, some l => some ([], false, ⟨.row, e, te.size, n, rowC l te⟩)
     | _, _ => none)
    | none => none)
   | _, _ => none)
  | none => none)
 | .makeSlice t l c => (match slT T t with
  | some e => (match T e, ae l, ae c with
   | some te, some x, some y => (match te.z, intA x, intA y with
    | some [z], some n, some m => (match decide (te.size = 1 ∧ 0 < te.bytes) with
     | true => some ([0 ≤ n, m = n, rmB n.toNat te.bytes], false, ⟨.row, e, 1, n.toNat, zeros te.d z n.toNat⟩)
     | false => none)
    | some (z :: z' :: zs), some n, some m => (match decide (n = 1 ∧ m = 1 ∧ te.size = zs.length + 2 ∧ te.bytes ≤ 1000000) with
     | true => some ([], false, ⟨.row, e, te.size, 1, .c ((z :: z' :: zs).map Z.cl)⟩)
     | false => none)
    | _, _, _ => none)
   | _, _, _ => none)
  | none => none)
 | .move x | .assign x => (match ae x, slT T ty with
  | some (.c .nils), some e => (match T e with
   | some te => (match te.d with
    | .int .u8 => some ([], false, ⟨.row, e, te.size, 0, .b []⟩)
    | .int .u32 => some ([], false, ⟨.row, e, te.size, 0, .w []⟩)
    | .int .u64 => some ([], false, ⟨.row, e, te.size, 0, .q []⟩)
    | .int .i64 => some ([], false, ⟨.row, e, te.size, 0, .z []⟩)
    | _ => some ([], false, ⟨.row, e, te.size, 0, .c []⟩))
   | none => none)
  | _, _ => none)
 | _ => none
theorem zerosL_R : ∀ (n : Nat) (zs : List Z), F2 (clR ρ) (zerosL n (zs.map Z.cl)) ((List.range (n * zs.length)).map fun i => (zs.map Z.val).getD (i % zs.length) undef)
 | 0, zs => by simpa [zerosL] using F2.nil
 | n + 1, zs => by
  have ih := zerosL_R n zs
  have e : (List.range ((n + 1) * zs.length)).map (fun i => (zs.map Z.val).getD (i % zs.length) undef) = zs.map Z.val ++ (List.range (n * zs.length)).map (fun i => (zs.map Z.val).getD (i % zs.length) undef) := by
   apply List.ext_getElem?
   intro j
   by_cases hj : j < zs.length
   ·rw [List.getElem?_append_left (by simpa using hj)]
    have : j < (n + 1) * zs.length := by rw [Nat.add_mul, Nat.one_mul]; omega
    simp [this, Nat.mod_eq_of_lt hj, hj]
   ·rw [List.getElem?_append_right (by simp; omega)]
    simp only [List.length_map, List.getElem?_map, List.getElem?_range']
    by_cases hj2 : j < (n + 1) * zs.length
    ·have h3 : j - zs.length < n * zs.length := by rw [Nat.add_mul, Nat.one_mul] at hj2; omega
     have h4 : (j - zs.length) % zs.length = j % zs.length := by
      have : j = (j - zs.length) + zs.length := by omega
      conv => rhs; rw [this, Nat.add_mod_right]
     simp [hj2, h3, h4]
    ·have h3 : ¬ j - zs.length < n * zs.length := by rw [Nat.add_mul, Nat.one_mul] at hj2; omega
     simp [hj2, h3]
  rw [e]
  exact F2.append (zs_R zs) ih
theorem new_blk (w : World) (t : TypeId) (n : Nat) (cs : Cs) (vs : List Value) (hc : csR ρ cs vs) (hn : vs.length = n) (hpos : 0 < n) :
  newR ρ w (w.alloc (.cells vs.toArray t)) (.pointer (some ⟨w.heap.size, 0, none⟩)) (pl4 (some ⟨w.heap.size, 0, none⟩) n n 1) true ⟨.blk, t, 1, n, cs⟩ := by
 refine ⟨⟨⟨rfl, rfl, by rw [← hc.len, hn]; simp⟩, w.heap.size, vs, rfl, hc, Blk.new w t _⟩, ?_, fun _ => ⟨by simpa using hpos, _, rfl, rfl⟩, fun h => by cases h⟩
 rintro g ⟨ad, had, rfl⟩
 injection had with had; subst had; exact Nat.le_refl _
theorem new_row (w : World) (e : TypeId) (sz n : Nat) (cs : Cs) (cells : Array Value) (hc : csR ρ cs cells.toList) (hn : cells.size = n * sz) (hm : n ≤ maxLen) :
  newR ρ w (w.alloc (.cells cells e)) (.slice (some ⟨w.heap.size, 0, none⟩) n n) (pl4 (some ⟨w.heap.size, 0, none⟩) n n sz) false ⟨.row, e, sz, n, cs⟩ := by
 refine ⟨⟨⟨rfl, rfl, by rw [← hc.len]; simpa using hn⟩, cells.toList, hc, ?_⟩, ?_, fun h => by (cases h), fun _ => rfl⟩
 ·exact World.ownsRow_lit w cells n (Nat.zero_le _) hm hn
 ·rintro g ⟨ad, had, rfl⟩
  injection had with had; subst had; exact Nat.le_refl _
theorem new_nil (w : World) (e : TypeId) (sz : Nat) (cs : Cs) (hc : cs.cl = []) : newR ρ w w (.slice none 0 0) (pl4 none 0 0 sz) false ⟨.row, e, sz, 0, cs⟩ := by
 refine ⟨⟨⟨rfl, rfl, by rw [hc]; simp⟩, [], by unfold csR; rw [hc]; exact F2.nil, World.ownsRow_nil w 0 e sz⟩, ?_, fun h => by (cases h), fun _ => rfl⟩
 rintro g ⟨ad, had, _⟩; cases had
theorem zeroV (hT : TabOk P T) {t : TypeId} {ti : Ti} (ht : T t = some ti) {zs : List Z} (hz : ti.z = some zs) (w : World) : ∃ z, (zeroValue t).run P w = .ok z w ∧ z.cells = (zs.map Z.val).toArray := by
 obtain ⟨ie, hie, _, _, _, hzz⟩ := (hT.at ht).i
 obtain ⟨z, h1, h2⟩ := hzz zs hz
 exact ⟨z, by simp [zeroValue, typeInfo, hie, h1], h2⟩
theorem aop_ok (hT : TabOk P T) {ae : Operand → Option AV} {ev : Operand → Value} (hae : ∀ x av, ae x = some av → avR ρ av (ev x)) {op : Op} {ty : TypeId} {g : List Prop} {b : Bool} {o : Oj} (h : aop T ae op ty = some (g, b, o)) (hg : allP g)
  (d : Option Tmp) (pos : String) (aft : Array Edge) (gd : Option (Nat × Bool)) :
  ∃ u w' p, (execOp ev ⟨d, op, ty, pos, aft, gd⟩).run P w = .ok (.value u) w' ∧ w.grownBy w' none ∧ newR ρ w w' u p b o := by
 have one : ∀ {x : Operand} {v : AV}, ae x = some v → avR ρ v (ev x) := fun h => hae _ _ h
 have hnil : ∀ {x : Operand} {e : TypeId} {te : Ti} {cs : Cs}, ae x = some (.c .nils) → cs.cl = [] → ∃ w' p, w' = w ∧ w.grownBy w' none ∧ newR ρ w w' (ev x) p false ⟨.row, e, te.size, 0, cs⟩ := by
  intro x e te cs hx hc
  refine ⟨w, (pl4 none 0 0 te.size), rfl, World.grownBy.refl w _, ?_⟩
  rw [show ev x = .slice none 0 0 from one hx]
  exact new_nil w e te.size cs hc
 have hmv : ∀ {x : Operand}, (match ae x, slT T ty with
  | some (.c .nils), some e => (match T e with
   | some te => (match te.d with
    | .int .u8 => some (([] : List Prop), false, (⟨.row, e, te.size, 0, .b []⟩ : Oj))
    | .int .u32 => some ([], false, ⟨.row, e, te.size, 0, .w []⟩)
    | .int .u64 => some ([], false, ⟨.row, e, te.size, 0, .q []⟩)
    | .int .i64 => some ([], false, ⟨.row, e, te.size, 0, .z []⟩)
    | _ => some ([], false, ⟨.row, e, te.size, 0, .c []⟩))
   | none => none)
  | _, _ => none) = some (g, b, o) → ∃ w' p, w' = w ∧ w.grownBy w' none ∧ newR ρ w w' (ev x) p b o := by
  intro x h
  split at h
  ·rename_i e hx he
   split at h
   ·rename_i te hte
    split at h <;> injection h with h <;> simp only [Prod.mk.injEq] at h <;> obtain ⟨rfl, rfl, rfl⟩ := h <;> exact hnil hx rfl
   ·cases h
  ·cases h
 cases op with
 | move x => obtain ⟨w', p, rfl, h1, h2⟩ := hmv h; exact ⟨_, _, p, by simp [execOp], h1, h2⟩
 | assign x => obtain ⟨w', p, rfl, h1, h2⟩ := hmv h; exact ⟨_, _, p, by simp [execOp], h1, h2⟩
 | alloc t =>
  simp only [aop] at h
  split at h
  ·rename_i ti hti
   split at h
   ·rename_i zs hz
    split at h
    ·rename_i hdec
     simp only [decide_eq_true_eq] at hdec
     injection h with h; simp only [Prod.mk.injEq] at h; obtain ⟨rfl, rfl, rfl⟩ := h
     obtain ⟨z, hzr, hzc⟩ := zeroV hT hti hz w
     refine ⟨_, _, _, ?_, World.grownBy_alloc w _ none, new_blk w t zs.length (zcs T ti zs) (zs.map Z.val) (zcs_R T ti zs) (by simp) hdec⟩
     simp [execOp, Instr.alloc, hzr, newVar, newRow, hzc]
    ·cases h
   ·cases h
  ·cases h
 | box t x =>
  simp only [aop] at h
  split at h
  ·rename_i c hc
   split at h
   ·rename_i hok
    injection h with h; simp only [Prod.mk.injEq] at h; obtain ⟨rfl, rfl, rfl⟩ := h
    obtain ⟨h1, h2⟩ := okC_ok hok (one hc)
    refine ⟨_, _, _, ?_, World.grownBy_alloc w _ none, new_blk w t 1 (.c [c]) [ev x] (F2.cons (one hc) F2.nil) rfl (by omega)⟩
    simp [execOp, Instr.box, newVar, newRow, h1]
   ·cases h
  ·rename_i n cs hc
   split at h
   ·rename_i hdec
    simp only [decide_eq_true_eq] at hdec
    injection h with h; simp only [Prod.mk.injEq] at h; obtain ⟨rfl, rfl, rfl⟩ := h
    obtain ⟨vs, h1, h2, h3⟩ := one hc
    refine ⟨_, _, _, ?_, World.grownBy_alloc w _ none, new_blk w t n cs vs h1 h2 hdec⟩
    simp [execOp, Instr.box, newVar, newRow, h3, Value.cells]
   ·cases h
  ·cases h
 | buildSlice t n ps =>
  simp only [aop] at h
  split at h
  ·rename_i e he
   split at h
   ·rename_i te qs hte hqs
    split at h
    ·rename_i zs hz
     split at h
     ·rename_i l hdec hl
      simp only [decide_eq_true_eq] at hdec
      obtain ⟨d1, d2, d3⟩ := hdec
      injection h with h; simp only [Prod.mk.injEq] at h; obtain ⟨rfl, rfl, rfl⟩ := h
      have ut := slT_ok hT he
      obtain ⟨ie, hie, hs1, _⟩ := (hT.at hte).i
      obtain ⟨z, hzr, hzc⟩ := zeroV hT hte hz w
      have h1 := evParts_ok (ρ := ρ) hae hqs
      have hzz := zerosL_R (ρ := ρ) n zs
      rw [d2] at hzz
      have hcs : ((Array.range (n * te.size)).map fun i => z.cells[i % z.cells.size]!).toList = (List.range (n * te.size)).map fun i => (zs.map Z.val).getD (i % te.size) undef := by
       rw [hzc]
       simp only [Array.toList_map, Array.toList_range, List.size_toArray, List.length_map, d2]
       apply List.map_congr_left
       intro i hi
       have : i % te.size < (zs.map Z.val).length := by rw [List.length_map, d2]; exact Nat.mod_lt _ d3
       rw [getElem!_pos _ _ (by simpa using this), List.getD_eq_getElem?_getD, List.getElem?_eq_getElem this]
       simp
      obtain ⟨cells', hf, hr⟩ := putAll_ok (ρ := ρ) (cells := (Array.range (n * te.size)).map fun i => z.cells[i % z.cells.size]!) hl (by rw [hcs]; exact hzz) h1
      have hsize : cells'.size = n * te.size := by
       have := hr.1; have h2 := putAll_len hl h1; have h3 := hzz.1
       simp at h3; rw [h2] at this; simp at this; omega
      refine ⟨_, _, _, ?_, World.grownBy_alloc w _ none, new_row w e te.size n (rowC l te) cells' (by unfold csR; rw [rowC_cl]; exact hr) hsize (by
       have := Nat.le_mul_of_pos_right n d3; unfold maxLen; omega)⟩
      by_cases h0 : n * te.size = 0
      ·have hem : ((Array.range (n * te.size)).map fun i => z.cells[i % z.cells.size]!) = (Array.range (n * te.size)).map fun i => (#[] : Array Value)[i % (#[] : Array Value).size]! := by
        rw [h0]; simp
       rw [hem] at hf
       simp only [execOp, Sem.run_bind, Instr.buildSlice, run_underlying ut, Result.andThen_ok, sizeOf, typeInfo, run_program, hie, Sem.run_pure, hs1]
       rw [if_neg (by omega)]
       simp only [h0, if_true, Sem.run_bind, Sem.run_pure, Result.andThen_ok]
       rw [h0] at hf
       simp only [Array.toList_map] at hf ⊢
       rw [hf]
       simp [newRow]
      ·simp only [execOp, Sem.run_bind, Instr.buildSlice, run_underlying ut, Result.andThen_ok, sizeOf, typeInfo, run_program, hie, Sem.run_pure, hs1]
       rw [if_neg (by omega), if_neg h0]
       simp only [Sem.run_bind, hzr, Result.andThen_ok, Sem.run_pure]
       simp only [Array.toList_map] at hf ⊢
       rw [hf]
       simp [newRow]
     ·cases h
    ·cases h
   ·cases h
  ·cases h
 | makeSlice t l c =>
  simp only [aop] at h
  split at h
  ·rename_i e he
   split at h
   ·rename_i te x y hte hx hy
    split at h
    ·rename_i z n m hz hn hm
     split at h
     ·rename_i hdec
      simp only [decide_eq_true_eq] at hdec
      injection h with h; simp only [Prod.mk.injEq] at h; obtain ⟨rfl, rfl, rfl⟩ := h
      obtain ⟨g0, g1⟩ := allP_cons.1 hg
      obtain ⟨g1, g2⟩ := allP_cons.1 g1
      simp only [allP, rmB] at g2
      obtain ⟨kl, h1⟩ := intA_ok hn (one hx)
      obtain ⟨kc, h2⟩ := intA_ok hm (one hy)
      have ut := slT_ok hT he
      obtain ⟨ie, hie, hs1, hs2, _, hzz⟩ := (hT.at hte).i
      obtain ⟨zv, hzv, hzc⟩ := hzz _ hz
      obtain ⟨k, rfl⟩ := Int.eq_ofNat_of_zero_le g0
      have hk : k * te.bytes ≤ 140737488355328 := g2
      have hkle : k ≤ k * te.bytes := Nat.le_mul_of_pos_right k hdec.2
      obtain ⟨w', hrun, ho, hgr⟩ := run_make_full (P := P) w w.heap.size t e ie zv 1 ut hie hzv (by rw [hs1, hdec.1]) kl kc k (by rw [hs2, Nat.mul_comm]; omega) (by unfold maxLen; omega) (Nat.le_refl _)
      have hz1 : zv.cells = #[z.val] := by rw [hzc]; rfl
      have hz2 : z.val.cells = #[z.val] := by cases z <;> rfl
      have hmc : (madeCells zv.cells (k * 1)).toList = List.replicate k z.val := by
       rw [hz1, ← hz2]; exact madeCells_one hz2 k
      rw [hmc] at ho
      refine ⟨.slice (some ⟨w.heap.size, 0, none⟩) k k, w', (pl4 (some ⟨w.heap.size, 0, none⟩) k k 1), ?_, hgr, ?_⟩
      ·simp [execOp, h1, h2, g1, hrun]
      ·refine ⟨⟨⟨rfl, rfl, by rw [zeros_len]; simp⟩, List.replicate k z.val, zeros_R te.d z k, ho.1, ?_⟩, ?_, fun h => by (cases h), fun _ => rfl⟩
       ·rcases ho.2 with hh | ⟨a1, a2, a3, a4, a5, r⟩
        ·exact .inl hh
        ·exact .inr ⟨a1, a2, a3, a4, Nat.zero_le _, r⟩
       ·rintro g' ⟨ad, had, rfl⟩
        injection had with had; subst had; exact Nat.le_refl _
     ·cases h
    ·rename_i z z' zs n m hz hn hm
     split at h
     ·rename_i hdec
      simp only [decide_eq_true_eq] at hdec
      obtain ⟨rfl, rfl, hsz, hby⟩ := hdec
      injection h with h; simp only [Prod.mk.injEq] at h; obtain ⟨rfl, rfl, rfl⟩ := h
      obtain ⟨kl, h1⟩ := intA_ok hn (one hx)
      obtain ⟨kc, h2⟩ := intA_ok hm (one hy)
      have ut := slT_ok hT he
      obtain ⟨ie, hie, hs1, hs2, _, hzz⟩ := (hT.at hte).i
      obtain ⟨zv, hzv, hzc⟩ := hzz _ hz
      obtain ⟨w', hrun, ho, hgr⟩ := run_make_full (P := P) w w.heap.size t e ie zv te.size ut hie hzv hs1 kl kc 1 (by rw [hs2]; omega) (by unfold maxLen; omega) (Nat.le_refl _)
      have hl : ((z :: z' :: zs).map Z.val).length = te.size := by rw [List.length_map, hsz]; simp
      have hmc : (madeCells zv.cells (1 * te.size)).toList = (z :: z' :: zs).map Z.val := by
       rw [hzc, ← hl]
       apply List.ext_getElem?
       intro i
       by_cases hi : i < ((z :: z' :: zs).map Z.val).length
       ·have hi2 : i < (z :: z' :: zs).length := by simpa using hi
        simp only [madeCells, Array.toList_map, Array.toList_range, List.getElem?_map, Nat.one_mul, List.getElem?_range hi, Option.map_some, List.size_toArray, Nat.mod_eq_of_lt hi]
        rw [List.getElem?_eq_getElem hi2, Option.map_some]
        congr 1
        rw [getElem!_pos _ i (by simpa using hi)]
        rw [List.getElem_toArray, List.getElem_map]
       ·simp only [madeCells, Array.toList_map, Array.toList_range, List.getElem?_map, Nat.one_mul]
        rw [List.getElem?_eq_none (by simpa using hi), List.getElem?_eq_none (by simpa using hi)]; rfl
      rw [hmc] at ho
      have h11 : ((1 : Nat) : Int) = 1 := rfl
      rw [h11] at hrun
      refine ⟨.slice (some ⟨w.heap.size, 0, none⟩) 1 1, w', (pl4 (some ⟨w.heap.size, 0, none⟩) 1 1 te.size), ?_, hgr, ?_⟩
      ·simp [execOp, h1, h2, hrun]
      ·refine ⟨⟨⟨rfl, rfl, by show ((z :: z' :: zs).map Z.cl).length = 1 * te.size; rw [List.length_map, Nat.one_mul, hsz]; rfl⟩, (z :: z' :: zs).map Z.val, zs_R (z :: z' :: zs), ho.1, ?_⟩, ?_, fun h => by (cases h), fun _ => rfl⟩
       ·rcases ho.2 with hh | ⟨a1, a2, a3, a4, a5, r⟩
        ·exact .inl hh
        ·exact .inr ⟨a1, a2, a3, a4, Nat.zero_le _, r⟩
       ·rintro g' ⟨ad, had, rfl⟩
        injection had with had; subst had; exact Nat.le_refl _
     ·cases h
    ·cases h
   ·cases h
  ·cases h
 | _ => simp [aop] at h
end
end Go.Sx
end
section
namespace Go.Sx
open Go.RowKit Go.Ch
section
variable {P : Program} {T : Tab} {ρ : Pls} {w w' : World} {bs : Bs} {w0 : World} {s : S} {a : Act}
theorem HpR.keep {H : Hp} (hp : HpR ρ w H) (sep : SepR ρ H) {row : Option Nat} (hg : w.grownBy w' row) {i : Nat} (hrow : ∀ g, row = some g → ∃ o, H[i]? = some o ∧ o.own = true ∧ objAt (ρ i) o g) :
  ∀ (j : Nat) (o : Oj), j ≠ i → H[j]? = some o → objR ρ w' (ρ j) o := by
 intro j o hj ho
 refine (hp j o ho).keep fun g hlt hat => hg.block g hlt fun e => ?_
 obtain ⟨oi, hoi, hown, hati⟩ := hrow g e.symm
 exact sep i j oi o g (fun e => hj e.symm) hoi ho hown hati hat
theorem okS_ok (h : okS s = true) : ltF s.H.length s.fr = true ∧ ltF s.H.length s.gl = true ∧ ltH s.H.length s.H = true := by
 unfold okS at h
 simp only [Bool.and_eq_true] at h
 exact ⟨h.1, h.2.1, h.2.2⟩
theorem getElem?_snoc {H : Hp} {o x : Oj} {i : Nat} (h : (H ++ [o])[i]? = some x) : (i < H.length ∧ H[i]? = some x) ∨ (i = H.length ∧ x = o) := by
 by_cases hi : i < H.length
 ·rw [List.getElem?_append_left hi] at h; exact .inl ⟨hi, h⟩
 ·rw [List.getElem?_append_right (by omega)] at h
  cases hk : i - H.length with
  | zero => rw [hk] at h; simp at h; exact .inr ⟨by omega, h.symm⟩
  | succ n => rw [hk] at h; simp at h
theorem RelA.new (h : RelA ρ bs w0 s a w) (hs : okS s = true) {o : Oj} (ho : ltX s.H.length o.cs = true) {p : Pl} {H' : Hp}
  (hlen : H'.length = s.H.length) (hH' : ∀ (j : Nat) (x : Oj), H'[j]? = some x → x.kd = .dead ∨ (s.H[j]? = some x ∧ objR ρ w' (ρ j) x))
  (hk : Kp bs w0 w') (hnew : objR ρ w' p o)
  (hsep : o.kd ≠ .dead → ∀ (j : Nat) (x : Oj) (g : Nat), H'[j]? = some x → x.kd ≠ .dead → objAt p o g → (x.own = true ∨ o.own = true) → ¬ objAt (ρ j) x g)
  (hown : o.fsh = true → ∀ g, objAt p o g → w0.heap.size ≤ g ∨ bs g ∨ (o.own = false ∧ bs.q g)) (fr : Fr) (a' : Act) (hfr : FrR (upd ρ s.H.length p) fr a') :
  RelA (upd ρ s.H.length p) bs w0 ⟨fr, s.gl, H' ++ [o]⟩ a' w' := by
 obtain ⟨h1, h2, h3⟩ := okS_ok hs
 have hlt : ∀ i, i < s.H.length → upd ρ s.H.length p i = ρ i := upd_lt
 have hold : ∀ (j : Nat) (x : Oj), H'[j]? = some x → j < s.H.length := fun j x hx => by
  have := (List.getElem?_eq_some_iff.1 hx).1; omega
 refine ⟨hfr, fun t x hx => ltA_ok hlt (ltF_ok h2 t x hx) (h.gl t x hx), fun i x hx => ?_, fun i j x y g hij hx hy hox hat => ?_, fun i x g hx hox hat => ?_, hk⟩
 ·rcases getElem?_snoc hx with ⟨hi, hx⟩ | ⟨hi, rfl⟩
  ·rw [hlt i (by omega)]
   rcases hH' i x hx with hd | ⟨hs, hr⟩
   ·unfold objR; simp only [hd]
   ·exact objR_lt hlt (fun hkd => ltH_ok h3 i x hs hkd) hr
  ·rw [hi, hlen, upd_at]
   exact objR_lt hlt (fun _ => ho) hnew
 ·intro hat2
  have hxk : x.kd ≠ .dead := by intro e; unfold Oj.own at hox; rw [e] at hox; cases hox
  have hyk : y.kd ≠ .dead := by intro e; unfold objAt at hat2; simp only [e] at hat2
  rcases getElem?_snoc hx with ⟨hi, hx1⟩ | ⟨hi, rfl⟩
  ·rw [hlt i (by omega)] at hat
   rcases getElem?_snoc hy with ⟨hj, hy1⟩ | ⟨hj, rfl⟩
   ·rw [hlt j (by omega)] at hat2
    rcases hH' i x hx1 with hd | ⟨hsx, _⟩
    ·exact hxk hd
    ·rcases hH' j y hy1 with hd | ⟨hsy, _⟩
     ·exact hyk hd
     ·exact h.sep i j x y g hij hsx hsy hox hat hat2
   ·rw [hj, hlen, upd_at] at hat2
    exact hsep hyk i x g hx1 hxk hat2 (.inl hox) hat
  ·rw [hi, hlen, upd_at] at hat
   rcases getElem?_snoc hy with ⟨hj, hy1⟩ | ⟨hj, rfl⟩
   ·rw [hlt j (by omega)] at hat2
    exact hsep hxk j y g hy1 hyk hat (.inr hox) hat2
   ·omega
 ·rcases getElem?_snoc hx with ⟨hi, hx⟩ | ⟨hi, rfl⟩
  ·rw [hlt i (by omega)] at hat
   rcases hH' i x hx with hd | ⟨hsx, _⟩
   ·unfold Oj.fsh at hox; rw [hd] at hox; cases hox
   ·exact h.own i x g hsx hox hat
  ·rw [hi, hlen, upd_at] at hat
   exact hown hox g hat
theorem OgEl.lt {gv : Way → Value} {k g : Nat} : ∀ {x : Dsh} {y : x.T}, OgEl w gv x y k → (ogV gv x k).ownBlock = some g → g < w.heap.size
 | .by e, l, h, ho => (World.ownsRow.lt h g ho).2
 | .pr .u8 (.by e), t, h, ho => (World.ownsRow.lt h.2 g ho).2
theorem OgC.lt {gv : Way → Value} {F : Nat → Prop} {x : Dsh} {l : List x.T} (h : OgC w gv F x l) {g : Nat} (hg : F g) : g < w.heap.size := by
 obtain ⟨k, hk, ho⟩ := (h.2.1 g).1 hg
 exact (h.1 k l[k] (List.getElem?_eq_getElem hk)).lt ho
theorem objAt_lt {p : Pl} {o : Oj} {g : Nat} (h : objR ρ w p o) (hat : objAt p o g) : g < w.heap.size := by
 unfold objAt at hat
 have hk : o.kd ≠ .dead := by intro e; simp only [e] at hat
 have hh := h
 unfold objR at hh
 cases hkd : o.kd with
 | dead => exact absurd hkd hk
 | ro fs =>
  simp only [hkd] at hat hh
  obtain ⟨hn, ad, had, rfl⟩ := hat
  obtain ⟨⟨e1, e2, e3⟩, _, vs, hc, hA⟩ := hh
  have hl : vs.length ≠ 0 := by rw [hc.len, e3, ← e1, ← e2]; exact hn
  have := World.block_lt_of_cell? _ _ (hA ad had 0 vs[0] (List.getElem?_eq_getElem (by omega)))
  rwa [block_add] at this
 | row =>
  simp only [hkd] at hat hh
  obtain ⟨ad, had, rfl⟩ := hat
  obtain ⟨_, vs, hc, hr⟩ := hh
  exact (World.ownsRow.lt hr ad.block (by rw [had]; rfl)).2
 | blk =>
  simp only [hkd] at hat hh
  obtain ⟨ad, had, rfl⟩ := hat
  obtain ⟨_, b, vs, hA, hc, hB⟩ := hh
  rw [had] at hA; injection hA with hA; subst hA
  exact hB.lt
 | gs fs =>
  simp only [hkd] at hat hh
  unfold GsR at hh
  have hh := hh.2
  split at hh
  ·exact hh.2.1 g hat
  ·exact hh.elim
 | dp fs =>
  simp only [hkd] at hat hh
  unfold DpR at hh
  split at hh
  ·exact hh.2.2.1 g hat
  ·exact hh.elim
 | og =>
  simp only [hkd] at hat hh
  unfold OgR at hh
  have hh := hh.2
  split at hh
  ·exact hh.2.lt hat
  ·exact hh.elim
 | od =>
  simp only [hkd] at hat hh
  unfold OdR at hh
  split at hh
  ·obtain ⟨_, ⟨F, h1, h2, _⟩, vs, _, hr⟩ := hh
   rcases (h2 g).1 hat with hF | ⟨ad, hA, rfl⟩
   ·exact h1.lt hF
   ·exact (World.ownsRow.lt hr ad.block (by rw [hA]; rfl)).2
  ·exact hh.elim
theorem RelA.put (h : RelA ρ bs w0 s a w) {d : Option Nat} {z : AV} {u : Value} (hu : avR ρ z u) (hd : ∀ k, d = some k → k < a.tmps.size) : RelA ρ bs w0 ⟨putF s.fr d z, s.gl, s.H⟩ (a.put d u) w :=
 ⟨putF_ok h.fr hu hd, h.gl, h.hp, h.sep, h.own, h.kp⟩
theorem RelA.drop (h : RelA ρ bs w0 s a w) {d : Option Nat} {u : Value} : RelA ρ bs w0 ⟨dropF s.fr d, s.gl, s.H⟩ (a.put d u) w :=
 ⟨dropF_ok h.fr, h.gl, h.hp, h.sep, h.own, h.kp⟩
theorem RelA.alloc (h : RelA ρ bs w0 s a w) (hs : okS s = true) {o : Oj} (ho : ltX s.H.length o.cs = true) {p : Pl} {b : Bool} {u : Value} (hg : w.grownBy w' none) (hn : newR ρ w w' u p b o) (hk : o.kd ≠ .dead)
  {d : Option Nat} (hd : ∀ k, d = some k → k < a.tmps.size) : RelA (upd ρ s.H.length p) bs w0 ⟨putF s.fr d (if b then .c (.pt s.H.length 0) else .c (.wh s.H.length)), s.gl, s.H ++ [o]⟩ (a.put d u) w' := by
 obtain ⟨hn1, hn2, hn3, hn4⟩ := hn
 have hkeep : ∀ (j : Nat) (x : Oj), s.H[j]? = some x → objR ρ w' (ρ j) x := fun j x hx => (h.hp j x hx).keep fun g hlt _ => hg.block g hlt (by simp)
 refine h.new hs ho rfl (fun j x hx => .inr ⟨hx, hkeep j x hx⟩) (h.kp.grown hg (fun g hg => by cases hg)) hn1 (fun _ j x g hx _ hat _ hat2 => ?_) (fun _ g hat => .inl (Nat.le_trans h.kp.size (hn2 g hat))) _ _ ?_
 ·have := objAt_lt (h.hp j x hx) hat2
  have := hn2 g hat
  omega
 ·refine putF_ok (fun t x hx => ltA_ok upd_lt (ltF_ok (okS_ok hs).1 t x hx) (h.fr t x hx)) ?_ hd
  cases b with
  | true =>
   obtain ⟨h1, ad, h2, rfl⟩ := hn3 rfl
   show clR _ (.pt _ 0) _
   refine ⟨by rw [upd_at]; exact h1, ad, by rw [upd_at]; exact h2, by simp [Addr.add]⟩
  | false =>
   show clR _ (.wh _) _
   simp only [clR, upd_at]
   exact hn4 rfl
end
end Go.Sx
end
section
namespace Go.Sx
open Go.RowKit Go.Ch
section
variable {P : Program} {T : Tab} {ρ : Pls} {w w' : World} {bs : Bs} {w0 : World} {s : S} {a : Act}
theorem own_block {p : Pl} {o : Oj} (h : objR ρ w p o) (hown : o.wr = true) {ad : Addr} (hA : p.A = some ad) :
  ∃ vs g cur, csR ρ o.cs vs ∧ ad = ⟨g, 0, none⟩ ∧ w.heap[g]? = some (.cells cur o.e (0, 0)) ∧ vs.length ≤ cur.size ∧ cur.toList.take vs.length = vs ∧
   (∀ (w' : World) (cur' : Array Value) (cs' : Cs) (vs' : List Value), w'.heap[g]? = some (.cells cur' o.e (0, 0)) → cur'.size = cur.size → cur'.toList.take vs.length = vs' → csR ρ cs' vs' → objR ρ w' p { o with cs := cs' }) := by
 have hh := h
 unfold objR at hh
 unfold Oj.wr at hown
 cases hk : o.kd with
 | dead => rw [hk] at hown; cases hown
 | ro fs => rw [hk] at hown; cases hown
 | dp fs => rw [hk] at hown; cases hown
 | gs fs => rw [hk] at hown; cases hown
 | od => rw [hk] at hown; cases hown
 | og => rw [hk] at hown; cases hown
 | row =>
  simp only [hk] at hh
  obtain ⟨⟨e1, e2, e3⟩, vs, hc, hr⟩ := hh
  rcases hr.2 with ⟨hv, _⟩ | ⟨g, cap, cur, hv, hb, hg, hnc, hcm, hcs, htk⟩
  ·injection hv with h1; rw [hA] at h1; cases h1
  ·injection hv with h1 h2 h3
   rw [hA] at h1; injection h1 with h1
   have hlen : vs.length = p.n * o.sz := hr.1
   have hle : vs.length ≤ cur.size := by rw [hlen, hcs]; exact Nat.mul_le_mul_right _ hnc
   refine ⟨vs, g, cur, hc, h1, hg, hle, by rw [hlen]; exact htk, fun w' cur' cs' vs' hg' hsz htk' hc' => ?_⟩
   have hl' : vs'.length = vs.length := by rw [← htk', List.length_take]; simp; omega
   unfold objR
   simp only [hk]
   refine ⟨⟨e1, e2, by rw [← hc'.len, hl', hc.len, e3]⟩, vs', hc', by rw [hl', hlen], .inr ⟨g, cap, cur', ?_, hb, hg', hnc, hcm, by rw [hsz, hcs], by rw [← hlen]; exact htk'⟩⟩
   rw [hA, h1, h3]
 | blk =>
  simp only [hk] at hh
  obtain ⟨⟨e1, e2, e3⟩, b, vs, hA', hc, hB⟩ := hh
  rw [hA] at hA'; injection hA' with hA'
  refine ⟨vs, b, vs.toArray, hc, hA', hB, by simp, by simp, fun w' cur' cs' vs' hg' hsz htk' hc' => ?_⟩
  have hl' : vs' = cur'.toList := by rw [← htk']; exact List.take_of_length_le (by simp at hsz ⊢; omega)
  unfold objR
  simp only [hk]
  refine ⟨⟨e1, e2, by rw [← hc'.len, hl', ← e3, ← hc.len]; simpa using hsz⟩, b, vs', by rw [hA, hA'], hc', ?_⟩
  unfold Blk
  rw [hg', hl']
theorem RelA.write (h : RelA ρ bs w0 s a w) {i : Nat} {o : Oj} (hi : s.H[i]? = some o) (hown : o.own = true) {cs' : Cs} {row : Option Nat} (hg : w.grownBy w' row) (hrow : ∀ g, row = some g → objAt (ρ i) o g)
  (hnew : objR ρ w' (ρ i) { o with cs := cs' }) : RelA ρ bs w0 ⟨s.fr, s.gl, s.H.set i { o with cs := cs' }⟩ a w' := by
 have hkeep := HpR.keep h.hp h.sep hg (i := i) (fun g hg => ⟨o, hi, hown, hrow g hg⟩)
 have get : ∀ (j : Nat) (x : Oj), (s.H.set i { o with cs := cs' })[j]? = some x → (j = i ∧ x = { o with cs := cs' }) ∨ (j ≠ i ∧ s.H[j]? = some x) := by
  intro j x hx
  rw [List.getElem?_set] at hx
  by_cases e : i = j
  ·subst e
   rw [if_pos rfl] at hx
   split at hx
   ·injection hx with hx; exact .inl ⟨rfl, hx.symm⟩
   ·cases hx
  ·rw [if_neg e] at hx; exact .inr ⟨fun h => e h.symm, hx⟩
 refine ⟨h.fr, h.gl, fun j x hx => ?_, fun j k x y g hjk hx hy hox hat hat2 => ?_, fun j x g hx hox hat => ?_, h.kp.grown hg (fun g hgr => h.own.o hi hown (hrow g hgr))⟩
 ·rcases get j x hx with ⟨rfl, rfl⟩ | ⟨hj, hx1⟩
  ·exact hnew
  ·exact hkeep j x hj hx1
 ·rcases get j x hx with ⟨rfl, rfl⟩ | ⟨hj, hx1⟩
  ·rcases get k y hy with ⟨rfl, _⟩ | ⟨hk, hy1⟩
   ·exact hjk rfl
   ·exact h.sep j k o y g hjk hi hy1 hown hat hat2
  ·rcases get k y hy with ⟨rfl, rfl⟩ | ⟨hk, hy1⟩
   ·exact h.sep j k x o g hjk hx1 hi hox hat hat2
   ·exact h.sep j k x y g hjk hx1 hy1 hox hat hat2
 ·rcases get j x hx with ⟨rfl, rfl⟩ | ⟨hj, hx1⟩
  ·exact h.own j o g hi hox hat
  ·exact h.own j x g hx1 hox hat
def Cs.st1 (cs : Cs) (off : Nat) (c : Cl) : Option Cs := match cs with
 | .b l => (match c with | .s (.u8 y) => some (.b (l.set off y)) | _ => none)
 | .w l => (match c with | .s (.u32 y) => some (.w (l.set off y)) | _ => none)
 | .q l => (match c with | .s (.u64 y) => some (.q (l.set off y)) | _ => none)
 | .z l => (match c with | .s (.k .i64 y) => some (.z (l.set off y)) | _ => none)
 | .c l => some (.c (l.set off c))
 | .d _ _ => none
 | .g _ _ _ _ => none
 | .p j js => (match c with | .gi i k => (match Nat.beq i j with | true => some (.p j (js.set off k)) | false => none) | _ => none)
theorem Cs.st1_ok {cs cs' : Cs} {off : Nat} {c : Cl} (h : cs.st1 off c = some cs') {vs : List Value} (hc : csR ρ cs vs) {u : Value} (hu : clR ρ c u) : csR ρ cs' (vs.set off u) := by
 have key : cs'.cl = cs.cl.set off c := by
  cases cs with
  | c l => injection h with h; subst h; rfl
  | d x l => cases h
  | g j n sz tl => cases h
  | p j js =>
   simp only [Cs.st1] at h
   split at h
   ·split at h
    ·rename_i hb
     have := Nat.eq_of_beq_eq_true hb
     subst this
     injection h with h; subst h; simp [Cs.cl, List.map_set]
    ·cases h
   ·cases h
  | b l => simp only [Cs.st1] at h; split at h <;> first | (injection h with h; subst h; simp [Cs.cl, List.map_set]) | cases h
  | w l => simp only [Cs.st1] at h; split at h <;> first | (injection h with h; subst h; simp [Cs.cl, List.map_set]) | cases h
  | q l => simp only [Cs.st1] at h; split at h <;> first | (injection h with h; subst h; simp [Cs.cl, List.map_set]) | cases h
  | z l => simp only [Cs.st1] at h; split at h <;> first | (injection h with h; subst h; simp [Cs.cl, List.map_set]) | cases h
 unfold csR
 rw [key]
 exact F2.set hc off hu
theorem seg_take (l vs news : List Value) (off : Nat) (h : l.take vs.length = vs) (hb : off + news.length ≤ vs.length) :
  (l.take off ++ news ++ l.drop (off + news.length)).take vs.length = vs.take off ++ news ++ vs.drop (off + news.length) := by
 obtain ⟨r, rfl⟩ : ∃ r, l = vs ++ r := ⟨l.drop vs.length, by conv => lhs; rw [← List.take_append_drop vs.length l, h]⟩
 rw [List.take_append_of_le_length (l₁ := vs) (l₂ := r) (i := off) (by omega), List.drop_append_of_le_length (l₁ := vs) (l₂ := r) (by omega), ← List.append_assoc]
 exact List.take_left' (by simp; omega)
theorem objAt_own {p : Pl} {o : Oj} {ad : Addr} (hown : o.wr = true) (hA : p.A = some ad) : objAt p o ad.block := by
 unfold objAt
 unfold Oj.wr at hown
 cases hk : o.kd with
 | dead => rw [hk] at hown; cases hown
 | ro fs => rw [hk] at hown; cases hown
 | dp fs => rw [hk] at hown; cases hown
 | gs fs => rw [hk] at hown; cases hown
 | od => rw [hk] at hown; cases hown
 | og => rw [hk] at hown; cases hown
 | row => exact ⟨ad, hA, rfl⟩
 | blk => exact ⟨ad, hA, rfl⟩
def stA (T : Tab) (H : Hp) (t : TypeId) (x y : AV) : Option (Nat × Oj × Cs) := match T t, x with
 | some ti, .c (.pt i off) => (match live H i with
  | some o => (match o.wr with
   | false => none
   | true => (match y with
    | .c c => (match decide (ti.size = 1), okC c, o.cs.st1 off c with | true, true, some cs' => some (i, o, cs') | _, _, _ => none)
    | .g n ys => (match decide (n = ti.size), okX ys with
     | true, true => (match decide (off = 0 ∧ n = o.n * o.sz) with
      | true => some (i, o, ys)
      | false => (match o.cs with
       | .c l => (match decide (off + n ≤ l.length) with | true => some (i, o, .c (l.take off ++ exC n ys ++ l.drop (off + n))) | false => none)
       | _ => none))
     | _, _ => none)
    | _ => none))
  | none => none)
 | _, _ => none
theorem set_seg (l : List Value) (k : Nat) (u : Value) (hk : k < l.length) : l.set k u = l.take k ++ [u] ++ l.drop (k + 1) := by
 rw [List.set_eq_take_append_cons_drop, if_pos hk]; simp
theorem stA_ok (hT : TabOk P T) (h : RelA ρ bs w0 s a w) {t : TypeId} {x y : AV} {i : Nat} {o : Oj} {cs' : Cs} (hst : stA T s.H t x y = some (i, o, cs')) {vx vy : Value} (hx : avR ρ x vx) (hy : avR ρ y vy) :
  ∃ w', (Instr.storeAt t vx vy).run P w = .ok () w' ∧ RelA ρ bs w0 ⟨s.fr, s.gl, s.H.set i { o with cs := cs' }⟩ a w' ∧ (Instr.storeAt t vx vy).run P w' = .ok () w' := by
 unfold stA at hst
 split at hst
 ·rename_i ti i' off ht
  split at hst
  ·rename_i o' hl
   obtain ⟨h1, h2⟩ := live_ok hl
   obtain ⟨ie, hie, hs1, _⟩ := (hT.at ht).i
   split at hst
   ·cases hst
   ·rename_i hown
    obtain ⟨hlt, ad, hA, rfl⟩ := hx
    obtain ⟨⟨e1, e2, e3⟩, _⟩ := (h.hp i' o' h1).read h2
    obtain ⟨vs, g, cur, hc, rfl, hg, hle, htk, hback⟩ := own_block (h.hp i' o' h1) hown hA
    have hlen : vs.length = o'.n * o'.sz := by rw [hc.len, e3]
    rw [e1, e2, ← hlen] at hlt
    have eoff : (⟨g, 0, none⟩ : Addr).add off = ⟨g, off, none⟩ := by unfold Addr.add; split <;> simp_all
    have key : ∀ (news : List Value) (cs2 : Cs), vy.cells.toList = news → news.length = ti.size → off + news.length ≤ vs.length → (∀ u ∈ news, u.oneCell' = true) → csR ρ cs2 (vs.take off ++ news ++ vs.drop (off + news.length)) →
      ∃ w', (Instr.storeAt t (.pointer (some ((⟨g, 0, none⟩ : Addr).add off))) vy).run P w = .ok () w' ∧ RelA ρ bs w0 ⟨s.fr, s.gl, s.H.set i' { o' with cs := cs2 }⟩ a w' ∧ (Instr.storeAt t (.pointer (some ((⟨g, 0, none⟩ : Addr).add off))) vy).run P w' = .ok () w' := by
     intro news cs2 hn hnl hb h1c hcs2
     have hrun := run_storeCells_at P g off o'.e news 0 cur w hg (by omega) h1c
     simp only [Nat.add_zero] at hrun
     refine ⟨_, ?_, h.write h1 (Oj.wr_own hown) (grown_setRow w g _) (fun g' hg' => ?_) (hback _ (cur.toList.take off ++ news ++ cur.toList.drop (off + news.length)).toArray cs2 _ (setRow_heap w g _ _ o'.e (0, 0) hg) (by simp; omega) ?_ hcs2), ?_⟩
     ·have hsz : vy.cells.size = ti.size := by rw [← Array.length_toList, hn, hnl]
      rw [eoff]
      simp [Instr.storeAt, Instr.sureAddr, storeVar, sizeOf, typeInfo, hie, hs1, hsz, hn, hrun]
     ·injection hg' with hg'
      subst hg'
      exact objAt_own hown hA
     ·exact seg_take cur.toList vs news off htk hb
     ·have hsz : vy.cells.size = ti.size := by rw [← Array.length_toList, hn, hnl]
      have hcs : cur.toList.length = cur.size := Array.length_toList
      have hcur : off + news.length ≤ cur.toList.length := by omega
      generalize hA2 : (cur.toList.take off ++ news ++ cur.toList.drop (off + news.length)) = A2
      have hA2l : A2.length = cur.size := by rw [← hA2, List.length_append, List.length_append, List.length_take, List.length_drop]; omega
      have hh := setRow_heap w g cur A2.toArray o'.e (0, 0) hg
      have hrun2 := run_storeCells_at P g off o'.e news 0 A2.toArray (w.setRow g A2.toArray) hh (by rw [List.size_toArray]; omega) h1c
      simp only [Nat.add_zero] at hrun2
      have hsame : A2.take off ++ news ++ A2.drop (off + news.length) = A2 := by
       have l1 : (cur.toList.take off).length = off := by rw [List.length_take]; omega
       rw [← hA2]
       rw [show (cur.toList.take off ++ news ++ cur.toList.drop (off + news.length)).take off = cur.toList.take off by rw [List.append_assoc]; exact List.take_left' l1]
       rw [show (cur.toList.take off ++ news ++ cur.toList.drop (off + news.length)).drop (off + news.length) = cur.toList.drop (off + news.length) from List.drop_left' (by rw [List.length_append, l1])]
      rw [show (A2.toArray.toList.take off ++ news ++ A2.toArray.toList.drop (off + news.length)) = A2 from hsame, setRow_self _ g A2.toArray o'.e (0, 0) hh] at hrun2
      rw [eoff]
      simp [Instr.storeAt, Instr.sureAddr, storeVar, sizeOf, typeInfo, hie, hs1, hsz, hn, hrun2]
    split at hst
    ·rename_i c
     split at hst
     ·rename_i cs2 hd hok hcs
      simp only [decide_eq_true_eq] at hd
      injection hst with hst; simp only [Prod.mk.injEq] at hst; obtain ⟨rfl, rfl, rfl⟩ := hst
      obtain ⟨hc1, hc2⟩ := okC_ok hok hy
      have hset := Cs.st1_ok hcs hc hy
      rw [set_seg _ _ _ hlt] at hset
      exact key [vy] cs2 (by rw [hc1]) (by simp [hd]) (by simp; omega) (by simpa using hc2) (by simpa using hset)
     ·cases hst
    ·rename_i n ys
     split at hst
     ·rename_i hd hok
      simp only [decide_eq_true_eq] at hd
      obtain ⟨vys, hys, hyn, rfl⟩ := hy
      have h1c := okX_ok hok hys
      split at hst
      ·rename_i hd2
       simp only [decide_eq_true_eq] at hd2
       obtain ⟨rfl, hn2⟩ := hd2
       injection hst with hst; simp only [Prod.mk.injEq] at hst; obtain ⟨rfl, rfl, rfl⟩ := hst
       refine key vys ys (by simp [Value.cells]) (by rw [hyn, hd]) (by omega) (fun u hu => (h1c u hu).2) ?_
       rw [List.drop_of_length_le (by omega)]
       simpa using hys
      ·split at hst
       ·rename_i l hcsl
        split at hst
        ·rename_i hd3
         simp only [decide_eq_true_eq] at hd3
         injection hst with hst; simp only [Prod.mk.injEq] at hst; obtain ⟨rfl, rfl, rfl⟩ := hst
         rw [hcsl] at hc
         have hll : l.length = vs.length := hc.1
         refine key vys _ (by simp [Value.cells]) (by rw [hyn, hd]) (by omega) (fun u hu => (h1c u hu).2) ?_
         rw [hyn]
         exact F2.append (F2.append (F2.take hc off) (exC_ok hys hyn)) (F2.drop hc _)
        ·cases hst
       ·cases hst
     ·cases hst
    ·cases hst
  ·cases hst
 ·cases hst
theorem RelA.recs0 (r3 : RelA ρ bs w0 s a w) {i : Nat} {o : Oj} {cs : Cs} (ho : s.H[i]? = some o) (hr : objR ρ w (ρ i) { o with cs := cs }) : RelA ρ bs w0 ⟨s.fr, s.gl, s.H.set i { o with cs := cs }⟩ a w := by
 have at_ : ∀ (j : Nat) (x : Oj), (s.H.set i { o with cs := cs })[j]? = some x → ∃ y, s.H[j]? = some y ∧ (x = y ∨ (j = i ∧ y = o ∧ x = { o with cs := cs })) := by
  intro j x hx
  rw [List.getElem?_set] at hx
  split at hx
  ·rename_i e
   subst e
   split at hx
   ·injection hx with hx; exact ⟨o, ho, .inr ⟨rfl, rfl, hx.symm⟩⟩
   ·cases hx
  ·exact ⟨x, hx, .inl rfl⟩
 refine ⟨r3.fr, r3.gl, fun j x hx => ?_, fun j k x y g hjk hx hy hox hat hat2 => ?_, fun j x g hx hox hat => ?_, r3.kp⟩
 ·obtain ⟨y, hy, rfl | ⟨rfl, rfl, rfl⟩⟩ := at_ j x hx
  ·exact r3.hp j x hy
  ·exact hr
 ·obtain ⟨x', hx', ex⟩ := at_ j x hx
  obtain ⟨y', hy', ey⟩ := at_ k y hy
  refine r3.sep j k x' y' g hjk hx' hy' ?_ ?_ ?_
  ·rcases ex with rfl | ⟨_, rfl, rfl⟩ <;> exact hox
  ·rcases ex with rfl | ⟨_, rfl, rfl⟩ <;> exact hat
  ·rcases ey with rfl | ⟨_, rfl, rfl⟩ <;> exact hat2
 ·obtain ⟨x', hx', ex⟩ := at_ j x hx
  rcases ex with rfl | ⟨_, rfl, rfl⟩
  ·exact r3.own j _ g hx' hox hat
  ·exact r3.own j x' g hx' hox hat
theorem row_in {p : Pl} {o : Oj} {cs : Cs} (h : objR ρ w p o) (hw : o.wr = true) (he : cs.cl = o.cs.cl) : objR ρ w p { o with cs := cs } := by
 have hc : ∀ vs, csR ρ o.cs vs → csR ρ cs vs := fun vs hv => by unfold csR at hv ⊢; rw [he]; exact hv
 unfold Oj.wr at hw
 unfold objR at h ⊢
 cases hk : o.kd with
 | row => simp only [hk] at h ⊢; exact ⟨⟨h.1.1, h.1.2.1, by rw [he]; exact h.1.2.2⟩, h.2.imp fun vs hv => ⟨hc vs hv.1, hv.2⟩⟩
 | blk => simp only [hk] at h ⊢; obtain ⟨h0, b, vs, hA, hv, hB⟩ := h; exact ⟨⟨h0.1, h0.2.1, by rw [he]; exact h0.2.2⟩, b, vs, hA, hc vs hv, hB⟩
 | _ => rw [hk] at hw; cases hw
def stT (T : Tab) (H : Hp) (t : TypeId) (x y : AV) : Option (List Prop × Nat × Oj × Cs) := match T t, x, y with
 | some ti, .c (.pt i off), .c c => (match live H i with
  | some o => (match o.wr, o.cs, decide (ti.size = 1), okC c with
   | true, .g j n sz tl, true, true => (match tailC (isU8T ti.d) tl with | some (k, _) => some ([off = n * sz + k], i, o, .g j n sz (tl.set k c)) | none => none)
   | _, _, _, _ => none)
  | none => none)
 | _, _, _ => none
theorem stT_ok (hT : TabOk P T) (h : RelA ρ bs w0 s a w) {t : TypeId} {x y : AV} {g : List Prop} {i : Nat} {o : Oj} {cs' : Cs} (hst : stT T s.H t x y = some (g, i, o, cs')) (hg : allP g) {vx vy : Value} (hx : avR ρ x vx) (hy : avR ρ y vy) :
  ∃ w', (Instr.storeAt t vx vy).run P w = .ok () w' ∧ RelA ρ bs w0 ⟨s.fr, s.gl, s.H.set i { o with cs := cs' }⟩ a w' := by
 unfold stT at hst
 split at hst
 ·rename_i ti i' off c ht
  split at hst
  ·rename_i o' hl
   split at hst
   ·rename_i j n sz tl hw hcs hd hok
    split at hst
    ·rename_i k c0 htc
     injection hst with hst; simp only [Prod.mk.injEq] at hst; obtain ⟨rfl, rfl, rfl, rfl⟩ := hst
     obtain rfl : off = n * sz + k := by simpa [allP] using hg
     obtain ⟨h1, h2⟩ := live_ok hl
     have hil : i' < s.H.length := (List.getElem?_eq_some_iff.1 h1).1
     have r1 := h.recs0 (cs := .c (ghc j n sz ++ tl)) h1 (row_in (h.hp i' o' h1) hw (by rw [hcs]; rfl))
     have hset : (ghc j n sz ++ tl).set (n * sz + k) c = ghc j n sz ++ tl.set k c := by
      rw [List.set_append_right _ _ (by rw [ghc_len]; omega), ghc_len, Nat.add_sub_cancel_left]
     have hlv : live (s.H.set i' { o' with cs := .c (ghc j n sz ++ tl) }) i' = some { o' with cs := .c (ghc j n sz ++ tl) } := by
      have hg1 : (s.H.set i' { o' with cs := .c (ghc j n sz ++ tl) })[i']? = some { o' with cs := .c (ghc j n sz ++ tl) } := by rw [List.getElem?_set_self hil]
      have hw' := hw
      unfold Oj.wr at hw'
      unfold live
      rw [hg1]
      dsimp only
      cases hk : o'.kd with
      | row => rfl
      | blk => rfl
      | _ => (first | (rw [hk] at hw'; done) | (rw [hk] at hw'; cases hw') | simp [hk] at hw')
     obtain ⟨w', e1, e2, _⟩ := stA_ok hT r1 (t := t) (x := .c (.pt i' (n * sz + k))) (y := .c c) (i := i') (o := { o' with cs := .c (ghc j n sz ++ tl) }) (cs' := .c ((ghc j n sz ++ tl).set (n * sz + k) c)) (by
      unfold stA
      simp only [ht, hlv, hd, hok, Cs.st1]
      rw [show ({ o' with cs := Cs.c (ghc j n sz ++ tl) } : Oj).wr = true from hw]) hx hy
     refine ⟨w', e1, ?_⟩
     rw [List.set_set] at e2
     have r2 := e2.recs0 (i := i') (o := { o' with cs := .c ((ghc j n sz ++ tl).set (n * sz + k) c) }) (cs := .g j n sz (tl.set k c)) (by rw [List.getElem?_set_self hil]) (row_in (e2.hp i' _ (by rw [List.getElem?_set_self hil])) hw (by show ghc j n sz ++ tl.set k c = _; rw [← hset]; rfl))
     rw [List.set_set] at r2
     exact r2
    ·cases hst
   ·cases hst
  ·cases hst
 ·cases hst
def Cs.app : Cs → Cs → Option Cs
 | .b l, .b r => some (.b (l ++ r))
 | .w l, .w r => some (.w (l ++ r))
 | .q l, .q r => some (.q (l ++ r))
 | .z l, .z r => some (.z (l ++ r))
 | .c l, .c r => some (.c (l ++ r))
 | .g j n sz tl, .c r => some (.g j n sz (tl ++ r))
 | .c [], .p j js => some (.p j js)
 | _, _ => none
theorem Cs.app_ok {x y z : Cs} (h : x.app y = some z) {xs ys : List Value} (hx : csR ρ x xs) (hy : csR ρ y ys) : csR ρ z (xs ++ ys) := by
 unfold Cs.app at h
 split at h <;> first
  | (injection h with h; subst h; unfold csR Cs.cl; simp only [List.map_append]; exact F2.append hx hy)
  | (injection h with h; subst h; exact F2.append hx hy)
  | (injection h with h; subst h; show F2 _ (ghc _ _ _ ++ (_ ++ _)) _; rw [← List.append_assoc]; exact F2.append hx hy)
  | cases h
def dpX (i : Nat) (o : Oj) : Nat × Nat × Cs := match o.cs with
 | .d (.by _) _ => (match o.kd with | .dp _ => (1, o.n, .p i (List.range o.n)) | _ => (o.sz, o.n, o.cs))
 | _ => (o.sz, o.n, o.cs)
theorem dpX_n (i : Nat) (o : Oj) : (dpX i o).2.1 = o.n := by
 unfold dpX; split
 ·split <;> rfl
 ·rfl
theorem dpX_ok {H : Hp} (hp : HpR ρ w H) {i : Nat} {o : Oj} (hl : liveS H i = some o) : (dpX i o).1 = o.sz ∧ ((dpX i o).2.2 = o.cs ∨ ∃ vs, csR ρ (dpX i o).2.2 vs ∧ SlR w (.slice (ρ i).A (ρ i).n (ρ i).cap) o.n o.sz vs) := by
 obtain ⟨h1, h2⟩ := liveS_ok hl
 have hr := hp i o h1
 unfold dpX
 split
 ·rename_i e t hc
  split
  ·rename_i b hk
   unfold objR at hr
   simp only [hk] at hr
   unfold DpR at hr
   rw [hc] at hr
   obtain ⟨⟨e1, e2, e3, e4⟩, k1, k2, A, cap, k3, k4, k5, k6, k7, k8⟩ := hr
   have e5 : o.sz = 1 := e4
   refine ⟨e5.symm, .inr ⟨(List.range o.n).map fun k => (ρ i).gv [(k, 0)], ?_, ?_⟩⟩
   ·refine ⟨by simp [Cs.cl], fun q x y hx hy => ?_⟩
    simp only [Cs.cl, List.getElem?_map] at hx hy
    by_cases hq : q < o.n
    ·rw [List.getElem?_range hq] at hx hy
     injection hx with hx; injection hy with hy
     subst hx; subst hy
     obtain ⟨A', cap', g1, _⟩ := (k8 q (List.getD (α := List UInt8) t q []) (gq_getD (Nat.lt_of_lt_of_eq hq e3))).2
     exact ⟨rfl, by rw [e2]; exact hq, _, _, _, g1⟩
    ·rw [List.getElem?_eq_none (by simp; omega)] at hx; cases hx
   ·rw [k1] at k3
    injection k3 with a b' c
    subst a; subst c
    rw [e5]
    refine ⟨by simp, (ρ i).A, (ρ i).cap, by rw [e2], by rw [← e2, b']; exact k4, k5, k6, fun ad had j u hu => ?_⟩
    rw [List.getElem?_map] at hu
    by_cases hq : j < o.n
    ·rw [List.getElem?_range hq] at hu
     injection hu with hu; subst hu
     have := (k8 j (List.getD (α := List UInt8) t j []) (gq_getD (Nat.lt_of_lt_of_eq hq e3))).1 ad had 0 Nat.one_pos
     simpa [Dsh.sz] using this
    ·rw [List.getElem?_eq_none (by simp; omega)] at hu; cases hu
  ·exact ⟨rfl, .inl rfl⟩
 ·exact ⟨rfl, .inl rfl⟩
def vcs (H : Hp) (x : Cl) : Option (Nat × Nat × Cs) := match x with
 | .wh i => (match liveS H i with | some o => some (dpX i o) | none => none)
 | .sl i lo n => (match liveS H i with | some o => some (o.sz, n, o.cs.part (mulS lo o.sz) (mulS n o.sz)) | none => none)
 | .dv i p => (match dvD H i p with
  | some ⟨.by _, t⟩ => some (1, List.length (α := UInt8) t, .b t)
  | some ⟨.wo _, t⟩ => some (1, List.length (α := UInt32) t, .w t)
  | _ => none)
 | .gi i k => (match giD H i k with | some l => some (1, l.length, .b l) | none => none)
 | _ => none
theorem vcs_wh {H : Hp} (hp : HpR ρ w H) {i sz n : Nat} {cs : Cs} (h : vcs H (.wh i) = some (sz, n, cs)) : ∃ o, liveS H i = some o ∧ o.sz = sz ∧ o.n = n := by
 simp only [vcs] at h
 split at h
 ·rename_i o hl
  injection h with h
  have d1 := (dpX_ok hp hl).1
  have d3 := dpX_n i o
  rw [h] at d1 d3
  exact ⟨o, hl, d1.symm, d3.symm⟩
 ·cases h
theorem vcs_ok {H : Hp} (hp : HpR ρ w H) {x : Cl} {sz n : Nat} {cs : Cs} (h : vcs H x = some (sz, n, cs)) {v : Value} (hv : clR ρ x v) : ∃ vs, csR ρ cs vs ∧ SlR w v n sz vs := by
 cases x with
 | wh i =>
  simp only [vcs] at h
  cases hl : liveS H i with
  | none => simp [hl] at h
  | some o =>
   simp only [hl] at h
   injection h with h
   obtain ⟨d1, d2⟩ := dpX_ok hp hl
   have d3 := dpX_n i o
   rw [h] at d1 d2 d3
   simp only at d1 d2 d3
   rcases d2 with d2 | ⟨vs, d4, d5⟩
   ·subst d1; subst d2; subst d3
    obtain ⟨h1, h2, vs, hc, hS⟩ := slc_ok hp (x := .wh i) (o := o) (lo := 0) (n := o.n) (by simp [slc, hl]) hv
    refine ⟨vs, hc, ?_⟩
    have hlen : vs.length = o.n * o.sz := by rw [hc.len, h2]
    rw [Nat.zero_mul, List.drop_zero, List.take_of_length_le (by omega)] at hS
    exact hS
   ·refine ⟨vs, d4, ?_⟩
    rw [show v = _ from hv, d3]
    rw [d1]
    exact d5
 | sl i lo m =>
  simp only [vcs] at h
  cases hl : liveS H i with
  | none => simp [hl] at h
  | some o =>
   simp only [hl] at h
   injection h with h; simp only [Prod.mk.injEq] at h; obtain ⟨rfl, rfl, rfl⟩ := h
   obtain ⟨h1, h2, vs, hc, hS⟩ := slc_ok hp (x := .sl i lo m) (o := o) (lo := lo) (n := m) (by simp [slc, hl]) hv
   refine ⟨_, ?_, hS⟩
   unfold csR
   rw [Cs.part_cl, mulS_eq, mulS_eq]
   exact (F2.drop hc _).take _
 | gi i k =>
  simp only [vcs] at h
  split at h
  ·rename_i l hl
   injection h with h; simp only [Prod.mk.injEq] at h; obtain ⟨rfl, rfl, rfl⟩ := h
   obtain ⟨A, cap, rfl, k1, k2, k3, _, k4⟩ := giD_ok hp hl hv
   exact ⟨l.map bU, csR_b.2 rfl, by simp, A, cap, rfl, k1, k2, k3, k4⟩
  ·cases h
 | dv i p =>
  simp only [vcs] at h
  split at h
  ·rename_i e t hd
   change List UInt8 at t
   injection h with h; simp only [Prod.mk.injEq] at h; obtain ⟨rfl, rfl, rfl⟩ := h
   obtain ⟨h1, h2, vs, hc, hS⟩ := slc_ok hp (x := .dv i p) (o := ⟨.ro false, e, 1, List.length (α := UInt8) t, .b t⟩) (lo := 0) (n := List.length (α := UInt8) t) (by simp only [slc, hd]) hv
   refine ⟨vs, hc, ?_⟩
   obtain rfl := csR_b.1 hc
   rw [Nat.zero_mul, List.drop_zero, Nat.mul_one, List.take_of_length_le (Nat.le_of_eq (List.length_map bU))] at hS
   exact hS
  ·rename_i e t hd
   change List UInt32 at t
   injection h with h; simp only [Prod.mk.injEq] at h; obtain ⟨rfl, rfl, rfl⟩ := h
   obtain ⟨h1, h2, vs, hc, hS⟩ := slc_ok hp (x := .dv i p) (o := ⟨.ro false, e, 1, List.length (α := UInt32) t, .w t⟩) (lo := 0) (n := List.length (α := UInt32) t) (by simp only [slc, hd]) hv
   refine ⟨vs, hc, ?_⟩
   obtain rfl := csR_w.1 hc
   rw [Nat.zero_mul, List.drop_zero, Nat.mul_one, List.take_of_length_le (Nat.le_of_eq (List.length_map w32))] at hS
   exact hS
  ·cases h
 | _ => simp [vcs] at h
def killH (H : Hp) (i : Nat) : Hp := match H[i]? with
 | some o => H.set i { o with kd := .dead }
 | none => H
theorem killH_len (H : Hp) (i : Nat) : (killH H i).length = H.length := by unfold killH; split <;> simp
theorem killH_at {H : Hp} {i j : Nat} {x : Oj} (h : (killH H i)[j]? = some x) : x.kd = .dead ∨ (j ≠ i ∧ H[j]? = some x) := by
 unfold killH at h
 split at h
 ·rename_i o ho
  rw [List.getElem?_set] at h
  by_cases e : i = j
  ·subst e
   rw [if_pos rfl] at h
   split at h
   ·injection h with h; left; rw [← h]
   ·cases h
  ·rw [if_neg e] at h; exact .inr ⟨fun h => e h.symm, h⟩
 ·rename_i ho
  by_cases e : j = i
  ·subst e; rw [ho] at h; cases h
  ·exact .inr ⟨e, h⟩
def lenG (n sz k : Nat) : Nat := match sz with | 1 => n + k | _ => n * sz + k
def Cs.len : Cs → Nat
 | .b l => l.length
 | .w l => l.length
 | .q l => l.length
 | .z l => l.length
 | .c l => l.length
 | .d x l => l.length * x.sz
 | .g _ n sz tl => lenG n sz tl.length
 | .p _ js => js.length
theorem Cs.len_cl (cs : Cs) : cs.cl.length = cs.len := by
 cases cs with
 | g j n sz tl => show (ghc j n sz ++ tl).length = lenG n sz tl.length; rw [List.length_append, ghc_len]; unfold lenG; split <;> simp
 | p j js => simp [Cs.cl, Cs.len]
 | _ => simp [Cs.cl, Cs.len]
def nOf (sz : Nat) (cs : Cs) (n : Nat) : Nat := match sz with | 1 => cs.len | _ => n
theorem nOf_eq {sz : Nat} {cs : Cs} {n : Nat} (h : cs.cl.length = n * sz) : nOf sz cs n = n := by
 unfold nOf; split
 ·rw [← Cs.len_cl, h, Nat.mul_one]
 ·rfl
def killM (io : Option Nat) (H : Hp) : Hp := match io with | some i => killH H i | none => H
def apB (H : Hp) (te : Ti) (e : TypeId) (cx : Cl) (sz m : Nat) (ys : Cs) : Option (List Prop × Option Nat × Oj) := match cx with
 | .wh i => (match live H i with
  | some o => (match o.kd, decide (o.e = e ∧ o.sz = te.size), o.cs.app ys with
   | .row, true, some cs' => some ([rmB (o.n + m) te.bytes], some i, ⟨.row, e, o.sz, nOf o.sz cs' (o.n + m), cs'⟩)
   | _, _, _ => none)
  | none => none)
 | .nils => some ([rmB m te.bytes], none, ⟨.row, e, sz, nOf sz ys m, ys⟩)
 | _ => none
def apC (H : Hp) (te : Ti) (e : TypeId) (zs : List Z) (cx cy : Cl) : Option (List Prop × Option Nat × Oj) :=
 match decide (zs.length = te.size ∧ 0 < te.size ∧ 0 < te.bytes), vcs H cy with
 | true, some (sz, m, ys) => (match decide (sz = te.size), okX ys with
  | true, true => apB H te e cx sz m ys
  | _, _ => none)
 | _, _ => none
def apA (T : Tab) (H : Hp) (t : TypeId) (x y : AV) : Option (List Prop × Option Nat × Oj) := match slT T t with
 | some e => (match T e with
  | some te => (match te.z with
   | some zs => (match x with
    | .c cx => (match y with
     | .c cy => apC H te e zs cx cy
     | _ => none)
    | _ => none)
   | none => none)
  | none => none)
 | none => none
theorem run_append_gen (hT : TabOk P T) {t e ty : TypeId} {te : Ti} (ut : P.underlying t = some (.slice e)) (hte : T e = some te) {zs : List Z} (hz : te.z = some zs) (hzl : zs.length = te.size) (hpos : 0 < te.size) (hb : 0 < te.bytes)
  {v y : Value} {n m : Nat} {xs ys : List Value} (hown : w.ownsRow 0 e te.size v n xs) (hy : SlR w y m te.size ys) (h1 : ∀ u ∈ ys, u.oneCell' = true) (hroom : rmB (n + m) te.bytes) :
  ∃ v' w', (Builtin.append_ #[t, t] ty #[v, y]).run P w = .ok v' w' ∧ w'.ownsRow 0 e te.size v' (n + m) (xs ++ ys) ∧ w.grownBy w' v.ownBlock ∧ (v'.ownBlock = v.ownBlock ∨ v'.ownBlock = some w.heap.size) := by
 obtain ⟨ie, hie, hs1, hs2, _, hzz⟩ := (hT.at hte).i
 obtain ⟨zv, hzv, hzc⟩ := hzz zs hz
 obtain ⟨hl, A, c, rfl, g1, g2, g3, g4⟩ := hy
 unfold rmB at hroom
 cases A with
 | none =>
  have hc0 := g3 rfl
  have hm : m = 0 := by omega
  subst hm
  have hys : ys = [] := List.eq_nil_of_length_eq_zero (by omega)
  subst hys
  refine ⟨v, w, ?_, by simpa using hown, World.grownBy.refl w _, .inl rfl⟩
  rcases hown.2 with ⟨rfl, h0⟩ | ⟨g, cap, cur, rfl, _, _, hnc, _⟩
  ·simp [Builtin.append_, run_underlying ut, sizeOf, typeInfo, hie, Builtin.lenOf, Builtin.firstCells]
  ·simp [Builtin.append_, run_underlying ut, sizeOf, typeInfo, hie, Builtin.lenOf, Builtin.firstCells, hnc, storeCells]
 | some ad =>
  have h63 : n + m ≤ maxLen := by
   have := Nat.le_mul_of_pos_right (n + m) hb
   unfold maxLen; omega
  obtain ⟨v', w', hrun, h2, h3, _, h5⟩ := run_append_own_at (P := P) w 0 t ty e ie zv te.size te.bytes ut hie hzv hs1 hs2 (by rw [hzc]; simpa using hzl) hpos v n xs hown ad m c ys hl (g4 ad rfl) h1 h63 hroom (Nat.zero_le _)
  exact ⟨v', w', hrun, h2, h3, h5⟩
theorem ownsRow_form {base : Nat} {e : TypeId} {sz : Nat} {v : Value} {n : Nat} {xs : List Value} (h : w.ownsRow base e sz v n xs) : ∃ A cap, v = .slice A n cap ∧ v.ownBlock = A.map (·.block) := by
 rcases h.2 with ⟨rfl, h0⟩ | ⟨g, cap, cur, rfl, _⟩
 ·exact ⟨none, 0, by rw [h0], rfl⟩
 ·exact ⟨_, _, rfl, rfl⟩
theorem apA_ok (hT : TabOk P T) (h : RelA ρ bs w0 s a w) (hs : okS s = true) {t ty : TypeId} {x y : AV} {g : List Prop} {io : Option Nat} {o' : Oj} (ha : apA T s.H t x y = some (g, io, o')) (hlt : ltX s.H.length o'.cs = true) (hg : allP g)
  {vx vy : Value} (hx : avR ρ x vx) (hy : avR ρ y vy) {d : Option Nat} (hd : ∀ k, d = some k → k < a.tmps.size) :
  ∃ u w' p, (Builtin.append_ #[t, t] ty #[vx, vy]).run P w = .ok u w' ∧
   RelA (upd ρ s.H.length p) bs w0 ⟨putF s.fr d (.c (.wh s.H.length)), s.gl, killM io s.H ++ [o']⟩ (a.put d u) w' := by
 unfold apA at ha
 split at ha
 ·rename_i e he
  have ut := slT_ok hT he
  split at ha
  ·rename_i te hte
   split at ha
   ·rename_i zs hz
    obtain ⟨cx, rfl⟩ : ∃ cx, x = .c cx := by cases x with | c cx => exact ⟨cx, rfl⟩ | _ => simp at ha
    obtain ⟨cy, rfl⟩ : ∃ cy, y = .c cy := by cases y with | c cy => exact ⟨cy, rfl⟩ | _ => simp at ha
    simp only at ha
    unfold apC at ha
    split at ha
    ·rename_i sz m ys hdec hvy
     simp only [decide_eq_true_eq] at hdec
     obtain ⟨d1, d2, d3⟩ := hdec
     split at ha
     ·rename_i hsz hok
      simp only [decide_eq_true_eq] at hsz
      subst hsz
      obtain ⟨vys, hcy, hSy⟩ := vcs_ok h.hp hvy hy
      have h1c := fun u hu => (okX_ok hok hcy u hu).2
      -- the new object, whatever it took
      have fin : ∀ (v' : Value) (w' : World) (n' : Nat) (cs' : Cs) (xs' : List Value) (io : Option Nat) (H' : Hp), w'.ownsRow 0 e te.size v' n' xs' → csR ρ cs' xs' → ltX s.H.length cs' = true → w.grownBy w' vx.ownBlock →
        H'.length = s.H.length → (∀ (j : Nat) (z : Oj), H'[j]? = some z → z.kd = .dead ∨ (s.H[j]? = some z ∧ ∀ g, vx.ownBlock = some g → ¬ objAt (ρ j) z g)) → (v'.ownBlock = vx.ownBlock ∨ v'.ownBlock = some w.heap.size) → (∀ g, vx.ownBlock = some g → w0.heap.size ≤ g ∨ bs g) →
        ∃ p, RelA (upd ρ s.H.length p) bs w0 ⟨putF s.fr d (.c (.wh s.H.length)), s.gl, H' ++ [⟨.row, e, te.size, n', cs'⟩]⟩ (a.put d v') w' := by
       intro v' w' n' cs' xs' io H' ho hc hl hgr hlen hH' hblk hown
       obtain ⟨A, cap, rfl, hA⟩ := ownsRow_form ho
       refine ⟨(pl4 A n' cap te.size), h.new hs hl hlen (fun j z hz => ?_) (h.kp.grown hgr hown) (show objR ρ w' (pl4 A n' cap te.size) ⟨.row, e, te.size, n', cs'⟩ from ⟨⟨rfl, rfl, by rw [← hc.len]; exact ho.1⟩, xs', hc, ho⟩) (fun _ j z g hz hzk hat _ hat2 => ?_) (fun _ g hat => ?_) _ _ ?_⟩
       ·rcases hH' j z hz with hd | ⟨hz1, hz2⟩
        ·exact .inl hd
        ·exact .inr ⟨hz1, (h.hp j z hz1).keep fun g hlt hat => hgr.block g hlt (fun e => hz2 g e.symm hat)⟩
       ·rcases hH' j z hz with hd | ⟨hz1, hz2⟩
        ·exact hzk hd
        ·obtain ⟨ad, had, rfl⟩ := hat
         have hob : (Value.slice A n' cap).ownBlock = some ad.block := by rw [hA, show A = some ad from had]; rfl
         rcases hblk with hb | hb
         ·rw [hob] at hb; exact hz2 _ hb.symm hat2
         ·rw [hob] at hb; injection hb with hb
          have := objAt_lt (h.hp j z hz1) hat2
          omega
       ·obtain ⟨ad, had, rfl⟩ := hat
        have hob : (Value.slice A n' cap).ownBlock = some ad.block := by rw [hA, show A = some ad from had]; rfl
        rcases hblk with hb | hb
        ·rw [hob] at hb; exact two3 (hown _ hb.symm)
        ·rw [hob] at hb; injection hb with hb
         exact .inl (by rw [hb]; exact h.kp.size)
       ·refine putF_ok (fun t x hx => ltA_ok upd_lt (ltF_ok (okS_ok hs).1 t x hx) (h.fr t x hx)) ?_ hd
        show clR _ (.wh _) _
        simp only [clR, upd_at]
      unfold apB at ha
      split at ha
      ·rename_i i
       split at ha
       ·rename_i o hl
        obtain ⟨h1, h2⟩ := live_ok hl
        split at ha
        ·rename_i cs' hkd hdec2 happ
         simp only [decide_eq_true_eq] at hdec2
         obtain ⟨rfl, e2⟩ := hdec2
         injection ha with ha; simp only [Prod.mk.injEq] at ha; obtain ⟨rfl, rfl, rfl⟩ := ha
         have hr := h.hp i o h1
         unfold objR at hr
         simp only [hkd] at hr
         obtain ⟨⟨f1, f2, f3⟩, vxs, hcx, hrow⟩ := hr
         have hvx : vx = .slice (ρ i).A (ρ i).n (ρ i).cap := hx
         rw [← hvx, f2, e2] at hrow
         simp only [allP] at hg
         obtain ⟨v', w', hrun, ho, hgr, hblk⟩ := run_append_gen hT ut hte hz d1 d2 d3 hrow hSy h1c hg (ty := ty)
         have hown : o.own = true := by unfold Oj.own; rw [hkd]
         have hat : ∀ g, vx.ownBlock = some g → objAt (ρ i) o g := fun g hgb => by
          rw [hvx] at hgb
          cases hA : (ρ i).A with
          | none => rw [hA] at hgb; cases hgb
          | some ad => rw [hA] at hgb; injection hgb with hgb; subst hgb; exact objAt_own (show o.wr = true by unfold Oj.wr; rw [hkd]) hA
         rw [← e2] at fin
         rw [← e2] at ho
         have hcz := Cs.app_ok happ hcx hcy
         have hnn : nOf o.sz cs' (o.n + m) = o.n + m := nOf_eq (by rw [← hcz.len]; exact ho.1)
         simp only [hnn] at hlt ⊢
         obtain ⟨p, hp⟩ := fin v' w' (o.n + m) cs' _ (some i) (killH s.H i) ho hcz hlt hgr (killH_len _ _) (fun j z hz => by
          rcases killH_at hz with hd | ⟨hj, hz1⟩
          ·exact .inl hd
          ·exact .inr ⟨hz1, fun g hgb => h.sep i j o z g (fun e => hj e.symm) h1 hz1 hown (hat g hgb)⟩) hblk (fun g hgb => h.own.o h1 hown (hat g hgb))
         exact ⟨v', w', p, hrun, hp⟩
        ·cases ha
       ·cases ha
      ·injection ha with ha; simp only [Prod.mk.injEq] at ha; obtain ⟨rfl, rfl, rfl⟩ := ha
       have hvx : vx = .slice none 0 0 := hx
       subst hvx
       simp only [allP] at hg
       obtain ⟨v', w', hrun, ho, hgr, hblk⟩ := run_append_gen hT ut hte hz d1 d2 d3 (World.ownsRow_nil w 0 e te.size) hSy h1c (by simpa using hg) (ty := ty)
       rw [Nat.zero_add, List.nil_append] at ho
       have hnn : nOf te.size ys m = m := nOf_eq (by rw [← hcy.len]; exact ho.1)
       simp only [hnn] at hlt ⊢
       obtain ⟨p, hp⟩ := fin v' w' m ys vys none s.H ho hcy hlt hgr rfl (fun j z hz => .inr ⟨hz, fun g hgb => by cases hgb⟩) hblk (fun g hgb => by cases hgb)
       exact ⟨v', w', p, hrun, hp⟩
      ·cases ha
     ·cases ha
    ·cases ha
   ·cases ha
  ·cases ha
 ·cases ha
end
end Go.Sx
end
section
namespace Go.Sx
open Go.RowKit Go.Ch
section
variable {P : Program} {T : Tab} {ρ : Pls} {w w' : World} {bs : Bs} {w0 : World} {s : S} {a : Act} {N : Nat}
def Cs.lay (lo k : Nat) : Cs → Cs → Option Cs
 | .b l, .b r => some (.b (l.take lo ++ r.take k ++ l.drop (lo + k)))
 | .w l, .w r => some (.w (l.take lo ++ r.take k ++ l.drop (lo + k)))
 | .q l, .q r => some (.q (l.take lo ++ r.take k ++ l.drop (lo + k)))
 | .z l, .z r => some (.z (l.take lo ++ r.take k ++ l.drop (lo + k)))
 | _, _ => none
theorem Cs.lay_ok {lo k : Nat} {x y z : Cs} (h : Cs.lay lo k x y = some z) {xs ys : List Value} (hx : csR ρ x xs) (hy : csR ρ y ys) : csR ρ z (xs.take lo ++ ys.take k ++ xs.drop (lo + k)) := by
 unfold Cs.lay at h
 split at h <;> first
  | (injection h with h; subst h; unfold csR Cs.cl; simp only [List.map_append, List.map_take, List.map_drop]; exact F2.append (F2.append (F2.take hx lo) (F2.take hy k)) (F2.drop hx _))
  | cases h
theorem objR_cs {p : Pl} {o : Oj} {cs : Cs} (h : ∀ vs, csR ρ o.cs vs → csR ρ cs vs) (hr : objR ρ w p o) (hown : o.wr = true) : objR ρ w p { o with cs := cs } := by
 have hl : ∀ vs, csR ρ o.cs vs → cs.cl.length = o.cs.cl.length := fun vs hv => by rw [← (h vs hv).len, hv.len]
 unfold objR at hr ⊢
 cases hk : o.kd with
 | dead => exact True.intro
 | ro fs => simp only [hk] at hr ⊢; obtain ⟨⟨e1, e2, e3⟩, g1, vs, hc, hA⟩ := hr; exact ⟨⟨e1, e2, by rw [hl vs hc]; exact e3⟩, g1, vs, h vs hc, hA⟩
 | row => simp only [hk] at hr ⊢; obtain ⟨⟨e1, e2, e3⟩, vs, hc, hA⟩ := hr; exact ⟨⟨e1, e2, by rw [hl vs hc]; exact e3⟩, vs, h vs hc, hA⟩
 | blk => simp only [hk] at hr ⊢; obtain ⟨⟨e1, e2, e3⟩, b, vs, hA, hc, hB⟩ := hr; exact ⟨⟨e1, e2, by rw [hl vs hc]; exact e3⟩, b, vs, hA, h vs hc, hB⟩
 | dp fs => unfold Oj.wr at hown; rw [hk] at hown; cases hown
 | gs fs => unfold Oj.wr at hown; rw [hk] at hown; cases hown
 | od => unfold Oj.wr at hown; rw [hk] at hown; cases hown
 | og => unfold Oj.wr at hown; rw [hk] at hown; cases hown
def dstC (H : Hp) : Cl → Option (Nat × Oj × Nat × Nat)
 | .wh i => (match live H i with | some o => some (i, o, 0, o.n) | none => none)
 | .sl i lo n => (match live H i with | some o => some (i, o, lo, n) | none => none)
 | _ => none
theorem dstC_ok {H : Hp} (hp : HpR ρ w H) {x : Cl} {i lo n : Nat} {o : Oj} (h : dstC H x = some (i, o, lo, n)) (ho : o.sz = 1) {v : Value} (hv : clR ρ x v) :
  H[i]? = some o ∧ o.kd ≠ .dead ∧ lo + n ≤ o.n ∧ ∃ A c, v = .slice A n c ∧ (A = none → n = 0) ∧ (0 < n → A = (ρ i).A.map (·.add lo)) := by
 cases x with
 | wh j =>
  simp only [dstC] at h
  cases hl : live H j with
  | none => rw [hl] at h; cases h
  | some o' =>
   rw [hl] at h
   simp only [Option.some.injEq, Prod.mk.injEq] at h
   obtain ⟨rfl, rfl, rfl, rfl⟩ := h
   obtain ⟨h1, h2⟩ := live_ok hl
   obtain ⟨⟨e1, e2, e3⟩, vs, hc, hA⟩ := (hp _ _ h1).read h2
   refine ⟨h1, h2, by omega, (ρ j).A, (ρ j).cap, by rw [← e2]; exact hv, fun e => ?_, fun _ => ?_⟩
   ·have hh := hp _ _ h1
    unfold objR at hh
    cases hk : o'.kd with
    | dead => exact absurd hk h2
    | ro b => have := ((hp _ _ h1).slc (.inl ⟨b, hk⟩)); have := this.2.2 e; omega
    | row => have := ((hp _ _ h1).slc (.inr (.inl hk))); have := this.2.2 e; omega
    | dp fs => have := ((hp _ _ h1).slc (.inr (.inr ⟨_, hk⟩))); have := this.2.2 e; omega
    | gs fs => exact absurd hk (live_gs hl _)
    | og => exact absurd hk (live_og hl)
    | od => simp only [hk] at hh; have h9 := OdR.slc hh; have h8 := h9.2.2 e; have h7 := h9.1; omega
    | blk => simp only [hk] at hh; obtain ⟨_, b, vs, hA', _⟩ := hh; rw [e] at hA'; cases hA'
   ·cases (ρ j).A with
    | none => rfl
    | some ad => simp [Addr.add]
 | sl j lo' n' =>
  simp only [dstC] at h
  cases hl : live H j with
  | none => rw [hl] at h; cases h
  | some o' =>
   rw [hl] at h
   simp only [Option.some.injEq, Prod.mk.injEq] at h
   obtain ⟨rfl, rfl, rfl, rfl⟩ := h
   obtain ⟨h1, h2⟩ := live_ok hl
   obtain ⟨⟨e1, e2, e3⟩, _⟩ := (hp _ _ h1).read h2
   obtain ⟨k1, A, c, rfl, k2, k3, k4, k5⟩ := hv
   rw [e1, ho, Nat.mul_one] at k5
   exact ⟨h1, h2, by omega, A, c, rfl, fun e => by have := k4 e; omega, k5⟩
 | _ => cases h
theorem addr_add0 (g lo : Nat) : (⟨g, 0, none⟩ : Addr).add lo = ⟨g, lo, none⟩ := by unfold Addr.add; split <;> simp_all
def cpA (T : Tab) (H : Hp) (t : TypeId) (x y : AV) : Option (Nat × Oj × Cs × Nat) := match slT T t, x, y with
 | some e, .c d, .c sc => (match T e, dstC H d, vcs H sc with
  | some te, some (i, o, lo, n), some (1, m, ys) => (match decide (te.size = 1 ∧ o.sz = 1) && (o.wr && okX ys), Cs.lay lo (min m n) o.cs ys with
   | true, some cs' => some (i, o, cs', min m n)
   | _, _ => none)
  | _, _, _ => none)
 | _, _, _ => none
theorem cpA_ok (hT : TabOk P T) (h : RelA ρ bs w0 s a w) {t t' ty : TypeId} {x y : AV} {i k : Nat} {o : Oj} {cs' : Cs} (hc : cpA T s.H t x y = some (i, o, cs', k)) {vx vy : Value} (hx : avR ρ x vx) (hy : avR ρ y vy) :
  ∃ w', (Builtin.copy_ #[t, t'] ty #[vx, vy]).run P w = .ok (.int .i64 (k : Int)) w' ∧ RelA ρ bs w0 ⟨s.fr, s.gl, s.H.set i { o with cs := cs' }⟩ a w' := by
 unfold cpA at hc
 split at hc
 ·rename_i e d sc he
  have ut := slT_ok hT he
  split at hc
  ·rename_i te i' o' lo n m ys hte hd hv
   split at hc
   ·rename_i cs2 hck hlay
    simp only [Bool.and_eq_true, decide_eq_true_eq] at hck
    obtain ⟨⟨s1, s2⟩, hown, hok⟩ := hck
    injection hc with hc; simp only [Prod.mk.injEq] at hc; obtain ⟨rfl, rfl, rfl, rfl⟩ := hc
    obtain ⟨ie, hie, hs1, _⟩ := (hT.at hte).i
    obtain ⟨h1, h2, hle, A, c, rfl, hA0, hA1⟩ := dstC_ok h.hp hd s2 hx
    obtain ⟨vys, hcy, hl, B, cb, rfl, b1, b2, b3, b4⟩ := vcs_ok h.hp hv hy
    rw [Nat.mul_one] at hl
    have h1c := fun u hu => (okX_ok hok hcy u hu).2
    have hlt : (vys.take (min m n)).length = min m n := by rw [List.length_take]; omega
    have hcells : (Builtin.firstCells ie.size (min m n) (.slice B m cb)).run P w = .ok (vys.take (min m n)).toArray w := by
     rw [hs1, s1]
     cases B with
     | none => 
      have h0 : m = 0 := by have := b3 rfl; omega
      subst h0
      simp [Builtin.firstCells]
     | some ad => exact run_firstCells_some (P := P) (w := w) 1 (min m n) ad m cb (vys.take (min m n)) (by rw [hlt, Nat.mul_one]) (fun j u hu => b4 ad rfl j u (by rw [List.getElem?_take] at hu; split at hu; exact hu; cases hu))
    have hsame : min m n = 0 → ∀ vs, csR ρ o'.cs vs → csR ρ cs2 vs := fun h0 vs hvs => by
     have := Cs.lay_ok hlay hvs hcy
     rw [h0] at this
     simpa using this
    have still : min m n = 0 → RelA ρ bs w0 ⟨s.fr, s.gl, s.H.set i' { o' with cs := cs2 }⟩ a w := fun h0 =>
     h.write h1 (Oj.wr_own hown) (row := none) (World.grownBy.refl w _) (fun g hg => by cases hg) (objR_cs (hsame h0) (h.hp i' o' h1) hown)
    cases A with
    | none =>
     have h0 : min m n = 0 := by have := hA0 rfl; omega
     refine ⟨w, ?_, still h0⟩
     have e1 : Nat.min m n = min m n := rfl
     simp [Builtin.copy_, run_underlying ut, sizeOf, typeInfo, hie, Builtin.lenOf, e1, hcells, goInt]
    | some ad =>
     by_cases h0 : min m n = 0
     ·refine ⟨w, ?_, still h0⟩
      have e0 : vys.take (min m n) = [] := by rw [h0]; rfl
      have e1 : Nat.min m n = min m n := rfl
      simp [Builtin.copy_, run_underlying ut, sizeOf, typeInfo, hie, Builtin.lenOf, e1, hcells, e0, storeCells, goInt]
     ·have hn : 0 < n := by omega
      have hA := hA1 hn
      cases hp : (ρ i').A with
      | none => rw [hp] at hA; cases hA
      | some a0 =>
       rw [hp] at hA; injection hA with hA; subst hA
       obtain ⟨⟨e1, e2, e3⟩, _⟩ := (h.hp i' o' h1).read h2
       obtain ⟨vs, g, cur, hcv, rfl, hg, hle2, htk, hback⟩ := own_block (h.hp i' o' h1) hown hp
       have hlen : vs.length = o'.n := by rw [hcv.len, e3, s2, Nat.mul_one]
       have eoff := addr_add0 g lo
       have hrun := run_storeCells_at P g lo o'.e (vys.take (min m n)) 0 cur w hg (by rw [hlt]; omega) (fun u hu => h1c u (List.mem_of_mem_take hu))
       simp only [Nat.add_zero] at hrun
       have hcs2 : csR ρ cs2 (vs.take lo ++ vys.take (min m n) ++ vs.drop (lo + (vys.take (min m n)).length)) := by rw [hlt]; exact Cs.lay_ok hlay hcv hcy
       refine ⟨_, ?_, h.write h1 (Oj.wr_own hown) (grown_setRow w g _) (fun g' hg' => ?_) (hback _ (cur.toList.take lo ++ vys.take (min m n) ++ cur.toList.drop (lo + (vys.take (min m n)).length)).toArray cs2 _ (setRow_heap w g _ _ o'.e (0, 0) hg) (by rw [List.size_toArray, List.length_append, List.length_append, List.length_take, List.length_drop, hlt]; simp only [Array.length_toList]; omega) (seg_take cur.toList vs (vys.take (min m n)) lo htk (by rw [hlt]; omega)) hcs2)⟩
       ·have e1 : Nat.min m n = min m n := rfl
        show (Builtin.copy_ #[t, t'] ty #[Value.slice (some ((⟨g, 0, none⟩ : Addr).add lo)) n c, Value.slice B m cb]).run P w = _
        rw [eoff]
        simp [Builtin.copy_, run_underlying ut, sizeOf, typeInfo, hie, Builtin.lenOf, e1, hcells, hrun, goInt]
       ·injection hg' with hg'
        subst hg'
        exact objAt_own hown hp
   ·cases hc
  ·cases hc
 ·cases hc
def mkA (T : Tab) (H : Hp) (t t' : TypeId) (x : AV) : Option (Nat × Oj) := match slT T t, x with
 | some e, .c (.wh i) => (match live H i with
  | some o => (match decide (t = t' ∧ o.e = e ∧ o.sz = 1 ∧ 0 < o.n), u8T T e, o.kd with
   | true, true, .row => some (i, o)
   | _, _, _ => none)
  | none => none)
 | _, _ => none
theorem mkA_ok (hT : TabOk P T) (h : RelA ρ bs w0 s a w) {t t' : TypeId} {x : AV} {i : Nat} {o : Oj} (hc : mkA T s.H t t' x = some (i, o)) {v : Value} (hx : avR ρ x v) :
  ∃ w', (convert t t' v).run P w = .ok v w' ∧ RelA ρ bs w0 ⟨s.fr, s.gl, s.H.set i { o with kd := .ro true }⟩ a w' := by
 unfold mkA at hc
 split at hc
 ·rename_i e i' he
  have ut := slT_ok hT he
  split at hc
  ·rename_i o' hl
   split at hc
   ·rename_i hdec hu8 hk
    simp only [decide_eq_true_eq] at hdec
    obtain ⟨rfl, rfl, hsz, hn⟩ := hdec
    injection hc with hc; simp only [Prod.mk.injEq] at hc; obtain ⟨rfl, rfl⟩ := hc
    obtain ⟨h1, _⟩ := live_ok hl
    have ue := u8T_ok hT hu8
    have hv : v = .slice (ρ i').A (ρ i').n (ρ i').cap := hx
    have hr := h.hp i' o' h1
    have hown : o'.own = true := by unfold Oj.own; rw [hk]
    have hslc := hr.slc (.inr (.inl hk))
    obtain ⟨⟨e1, e2, e3⟩, vs, hcv, hAt⟩ := hr.read (by rw [hk]; simp)
    have hr2 := hr
    unfold objR at hr2
    simp only [hk] at hr2
    obtain ⟨_, vs2, hcv2, hrow⟩ := hr2
    rcases hrow.2 with ⟨_, h0⟩ | ⟨g, cap, cur, hsl, _, hg, hnc, hcm, hcs, htk⟩
    ·omega
    ·injection hsl with q1 q2 q3
     have hsh : w.shape? g = some (o'.e, cur.size) := by simp [World.shape?, hg]
     have hgr := freeze_grown w ⟨g, cur.size, none⟩ 1
     obtain ⟨fr', hsame⟩ := freeze_same w ⟨g, cur.size, none⟩ 1 cur o'.e (0, 0) hg
     have hkeep := HpR.keep h.hp h.sep hgr (i := i') (fun g' hg' => ⟨o', h1, hown, by injection hg' with hg'; subst hg'; unfold objAt; simp only [hk]; exact ⟨_, q1, rfl⟩⟩)
     have hnew : objR ρ (w.freeze ⟨g, cur.size, none⟩ 1) (ρ i') { o' with kd := .ro true } := by
      refine ⟨⟨e1, e2, e3⟩, hslc, vs, hcv, fun ad had j u hu => ?_⟩
      rw [q1] at had; injection had with had; subst had
      have ee : (⟨g, 0, none⟩ : Addr).add j = ⟨g, j, none⟩ := addr_add0 g j
      have := hAt _ q1 j u hu
      rw [ee] at this ⊢
      rw [cell_of_row _ g j cur o'.e fr' hsame]
      rw [cell_of_row _ g j cur o'.e (0, 0) hg] at this
      exact this
     have at_ : ∀ (j : Nat) (y : Oj), (s.H.set i' { o' with kd := .ro true })[j]? = some y → (j = i' ∧ y = { o' with kd := .ro true }) ∨ (j ≠ i' ∧ s.H[j]? = some y) := by
      intro j y hy
      rw [List.getElem?_set] at hy
      split at hy
      ·rename_i e4
       subst e4
       split at hy
       ·injection hy with hy; exact .inl ⟨rfl, hy.symm⟩
       ·cases hy
      ·rename_i e4; exact .inr ⟨fun e5 => e4 e5.symm, hy⟩
     have toRow : ∀ g', objAt (ρ i') { o' with kd := .ro true } g' → objAt (ρ i') o' g' := fun g' hat => by
      obtain ⟨_, hat⟩ := hat
      unfold objAt; simp only [hk]; exact hat
     refine ⟨_, ?_, h.fr, h.gl, fun j y hy => ?_, fun j k y z g' hjk hy hz hyo hat hat2 => ?_, fun j y g' hy hyo hat => ?_, h.kp.grown hgr (fun g' hg' => ?_)⟩
     ·rw [hv, q1]
      simp [convert, run_underlying ut, run_underlying ue, markStringish, hsh]
     ·rcases at_ j y hy with ⟨rfl, rfl⟩ | ⟨hj, hy1⟩
      ·exact hnew
      ·exact hkeep j y hj hy1
     ·rcases at_ j y hy with ⟨rfl, rfl⟩ | ⟨hj, hy1⟩
      ·cases hyo
      ·rcases at_ k z hz with ⟨rfl, rfl⟩ | ⟨hk2, hz1⟩
       ·exact h.sep j k y o' g' hjk hy1 h1 hyo hat (toRow g' hat2)
       ·exact h.sep j k y z g' hjk hy1 hz1 hyo hat hat2
     ·rcases at_ j y hy with ⟨rfl, rfl⟩ | ⟨hj, hy1⟩
      ·exact two3 (h.own.o h1 hown (toRow g' hat))
      ·exact h.own j y g' hy1 hyo hat
     ·injection hg' with hg'
      subst hg'
      exact h.own.o h1 hown (by unfold objAt; simp only [hk]; exact ⟨_, q1, rfl⟩)
   ·cases hc
  ·cases hc
 ·cases hc
end
end Go.Sx
end
section
namespace Go.Sx
open Go.RowKit Go.Ch
section
variable {P : Program} {T : Tab} {ρ : Pls} {w w' : World} {bs : Bs} {w0 : World} {s : S} {a : Act} {N : Nat}
abbrev Ct := List AV → Hp → Option (List Prop × AV × List Oj)
def updL (ρ : Pls) (m : Nat) (ps : List Pl) : Pls := fun i => if i < m then ρ i else match ps[i - m]? with | some p => p | none => ρ i
theorem updL_lt {ρ : Pls} {m : Nat} {ps : List Pl} : ∀ i, i < m → updL ρ m ps i = ρ i := fun i hi => by unfold updL; rw [if_pos hi]
theorem updL_at {ρ : Pls} {m : Nat} {ps : List Pl} {k : Nat} {p : Pl} (h : ps[k]? = some p) : updL ρ m ps (m + k) = p := by
 unfold updL; rw [if_neg (by omega), show m + k - m = k by omega, h]
def Oj.lose (o : Oj) : Prop := o.kd = .ro false ∨ o.kd = .dp false
structure Left (ρ : Pls) (w : World) (H : Hp) (av : AV) (objs : List Oj) (v : Value) (w' : World) (ps : List Pl) : Prop where
 len : ps.length = objs.length
 obj : ∀ (k : Nat) (o : Oj) (p : Pl), objs[k]? = some o → ps[k]? = some p → objR (updL ρ H.length ps) w' p o
 val : avR (updL ρ H.length ps) av v
 place : ∀ (k : Nat) (o : Oj) (p : Pl) (g : Nat), objs[k]? = some o → ps[k]? = some p → objAt p o g → w.heap.size ≤ g ∨ o.lose
 sep : ∀ (k l : Nat) (o o' : Oj) (p p' : Pl) (g : Nat), k ≠ l → objs[k]? = some o → objs[l]? = some o' → ps[k]? = some p → ps[l]? = some p' → o.own = true → objAt p o g → ¬ objAt p' o' g
def CtOk (P : Program) (I : World → Prop) (f : FuncId) (F : Ct) : Prop :=
 ∀ (args : List AV) (H : Hp) (g : List Prop) (av : AV) (objs : List Oj), F args H = some (g, av, objs) → allP g → ∀ (ρ : Pls) (w : World) (vals : List Value), I w → HpR ρ w H → F2 (avR ρ) args vals →
  Calls P f vals.toArray w (Ret fun v w' => Ext w w' ∧ ∃ ps, Left ρ w H av objs v w' ps)
abbrev CtM := List AV → Hp → Option (List Prop × AV × List (Nat × Oj) × List Oj)
def CtVOk (P : Program) (I : World → Prop) (f : FuncId) (F : Ct) : Prop :=
 ∀ (args : List AV) (H : Hp) (g : List Prop) (av : AV) (objs : List Oj), F args H = some (g, av, objs) → allP g → ∀ (ρ : Pls) (w : World) (vals : List Value), I w → HpR ρ w H → F2 (avR ρ) args vals →
  Calls P f vals.toArray w (Ret fun v w' => Ext w w' ∧ ∃ ps, Left ρ w H av objs v w' ps ∧ ∀ (k : Nat) (o : Oj) (p : Pl) (g : Nat), objs[k]? = some o → ps[k]? = some p → objAt p o g → w.heap.size ≤ g ∨ ∃ i y, H[i]? = some y ∧ y.own = false ∧ objAt (ρ i) y g)
inductive CtS where | p (F : Ct) | m (F : CtM) | v (F : Ct)
abbrev FT := FuncId → Option CtS
def consB (ρ : Pls) (H : Hp) (up : List (Nat × Oj)) (g : Nat) : Prop := ∃ i o' o, (i, o') ∈ up ∧ H[i]? = some o ∧ o.own = true ∧ objAt (ρ i) o g
structure SamePl (p q : Pl) : Prop where
 A : q.A = p.A
 n : q.n = p.n
 cap : q.cap = p.cap
 sz : q.sz = p.sz
 gv : q.gv = p.gv
theorem SamePl.refl (p : Pl) : SamePl p p := ⟨rfl, rfl, rfl, rfl, rfl⟩
theorem clR_same {ρ ρ' : Pls} (h : ∀ i, SamePl (ρ i) (ρ' i)) {c : Cl} {v : Value} (hv : clR ρ c v) : clR ρ' c v := by
 cases c with
 | s x => exact hv
 | nils => exact hv
 | junk => exact hv
 | wh i => simp only [clR, (h i).A, (h i).n, (h i).cap] at hv ⊢; exact hv
 | sl i lo n => simp only [clR, (h i).A, (h i).n, (h i).sz] at hv ⊢; exact hv
 | pt i off => simp only [clR, (h i).A, (h i).n, (h i).sz] at hv ⊢; exact hv
 | dv i p => simp only [clR, (h i).gv] at hv ⊢; exact hv
 | gh i p => simp only [clR, (h i).gv] at hv ⊢; exact hv
 | gi i k => simp only [clR, (h i).gv, (h i).n] at hv ⊢; exact hv
 | dq i p k f sz => simp only [clR, (h i).gv] at hv ⊢; exact hv
 | fp f i off => simp only [clR, (h i).A, (h i).n, (h i).sz] at hv ⊢; exact hv
 | pre i n => simp only [clR, (h i).A, (h i).n, (h i).cap] at hv ⊢; exact hv
theorem csR_same {ρ ρ' : Pls} (h : ∀ i, SamePl (ρ i) (ρ' i)) {cs : Cs} {vs : List Value} (hv : csR ρ cs vs) : csR ρ' cs vs := F2.mono hv fun _ _ _ hr => clR_same h hr
theorem a1R_same {ρ ρ' : Pls} (h : ∀ i, SamePl (ρ i) (ρ' i)) {x : A1} {v : Value} (hv : a1R ρ x v) : a1R ρ' x v := by
 cases x with
 | c x => exact clR_same h hv
 | g n cs => obtain ⟨vs, h1, h2⟩ := hv; exact ⟨vs, csR_same h h1, h2⟩
theorem avR_same {ρ ρ' : Pls} (h : ∀ i, SamePl (ρ i) (ρ' i)) {x : AV} {v : Value} (hv : avR ρ x v) : avR ρ' x v := by
 cases x with
 | c x => exact clR_same h hv
 | g n cs => obtain ⟨vs, h1, h2⟩ := hv; exact ⟨vs, csR_same h h1, h2⟩
 | t xs => obtain ⟨vs, h1, h2⟩ := hv; exact ⟨vs, F2.mono h1 fun _ _ _ hr => a1R_same h hr, h2⟩
theorem objR_same {ρ ρ' : Pls} (h : ∀ i, SamePl (ρ i) (ρ' i)) {p : Pl} {o : Oj} (hv : objR ρ w p o) : objR ρ' w p o := by
 unfold objR at hv ⊢
 cases hk : o.kd with
 | dead => exact True.intro
 | ro fs => simp only [hk] at hv ⊢; obtain ⟨h0, h1, vs, hc, hA⟩ := hv; exact ⟨h0, h1, vs, csR_same h hc, hA⟩
 | row => simp only [hk] at hv ⊢; obtain ⟨h0, vs, hc, hA⟩ := hv; exact ⟨h0, vs, csR_same h hc, hA⟩
 | blk => simp only [hk] at hv ⊢; obtain ⟨h0, b, vs, hA, hc, hB⟩ := hv; exact ⟨h0, b, vs, hA, csR_same h hc, hB⟩
 | dp fs => simp only [hk] at hv ⊢; exact hv
 | gs fs => simp only [hk] at hv ⊢; exact hv
 | od => simp only [hk] at hv ⊢; exact hv
 | og => simp only [hk] at hv ⊢; exact hv
def updP (ρ : Pls) (up : List (Nat × Oj)) (pu : Pls) : Pls := fun i => match up.lookup i with | some _ => pu i | none => ρ i
structure LeftM (ρ : Pls) (w : World) (H : Hp) (av : AV) (up : List (Nat × Oj)) (objs : List Oj) (v : Value) (w' : World) (ps : List Pl) (pu : Pls) : Prop where
 len : ps.length = objs.length
 same : ∀ i o', (i, o') ∈ up → SamePl (ρ i) (pu i)
 obj : ∀ (k : Nat) (o : Oj) (p : Pl), objs[k]? = some o → ps[k]? = some p → objR (updL ρ H.length ps) w' p o
 upd : ∀ i o', (i, o') ∈ up → objR (updL ρ H.length ps) w' (pu i) o'
 val : avR (updL ρ H.length ps) av v
 place : ∀ (k : Nat) (o : Oj) (p : Pl) (g : Nat), objs[k]? = some o → ps[k]? = some p → objAt p o g → w.heap.size ≤ g ∨ consB ρ H up g
 uplace : ∀ i o' g, (i, o') ∈ up → objAt (pu i) o' g → w.heap.size ≤ g ∨ consB ρ H up g
 sep : ∀ (k l : Nat) (o o' : Oj) (p p' : Pl) (g : Nat), k ≠ l → objs[k]? = some o → objs[l]? = some o' → ps[k]? = some p → ps[l]? = some p' → o.own = true → objAt p o g → ¬ objAt p' o' g
 sepu : ∀ (k : Nat) (o : Oj) (p : Pl) (i : Nat) (o' : Oj) (g : Nat), objs[k]? = some o → ps[k]? = some p → (i, o') ∈ up → (o.own = true ∨ o'.own = true) → objAt p o g → ¬ objAt (pu i) o' g
 sepuu : ∀ i o i' o' g, i ≠ i' → (i, o) ∈ up → (i', o') ∈ up → o.own = true → objAt (pu i) o g → ¬ objAt (pu i') o' g
def CtMOk (P : Program) (f : FuncId) (F : CtM) : Prop :=
 ∀ (args : List AV) (H : Hp) (g : List Prop) (av : AV) (up : List (Nat × Oj)) (objs : List Oj), F args H = some (g, av, up, objs) → allP g → ∀ (ρ : Pls) (w : World) (vals : List Value), HpR ρ w H → SepR ρ H → F2 (avR ρ) args vals →
  Calls P f vals.toArray w (Ret fun v w' => Kp ⟨consB ρ H up, fun _ => undef, fun _ => False⟩ w w' ∧ ∃ ps pu, LeftM ρ w H av up objs v w' ps pu)
def FtOk (P : Program) (I : World → Prop) (ft : FT) : Prop := ∀ f F, ft f = some F → (match F with | .p F => CtOk P I f F | .m F => CtMOk P f F | .v F => CtVOk P I f F) ∧ ∃ fn, P.funcs[f]? = some fn ∧ (fn.name == "runtime.NumGoroutine") = false ∧ fn.body.isNone = false
def ftP (ft : FT) (f : FuncId) : Option Ct := match ft f with | some (.p F) => some F | _ => none
theorem FtOk.weak {I J : World → Prop} {ft : FT} (h : FtOk P I ft) (hIJ : ∀ w, J w → I w) : FtOk P J ft := fun f F hf => by
 obtain ⟨h1, h2⟩ := h f F hf
 refine ⟨?_, h2⟩
 cases F with
 | p F =>
  have h1' : CtOk P I f F := h1
  exact fun args H g av objs ha hg ρ w vals hJ => h1' args H g av objs ha hg ρ w vals (hIJ w hJ)
 | m F => exact h1
 | v F =>
  have h1' : CtVOk P I f F := h1
  exact fun args H g av objs ha hg ρ w vals hJ => h1' args H g av objs ha hg ρ w vals (hIJ w hJ)
theorem FtOk.p {I : World → Prop} {ft : FT} (h : FtOk P I ft) {f : FuncId} {F : Ct} (hf : ftP ft f = some F) : CtOk P I f F ∧ ∃ fn, P.funcs[f]? = some fn ∧ (fn.name == "runtime.NumGoroutine") = false ∧ fn.body.isNone = false := by
 unfold ftP at hf
 split at hf
 ·rename_i F' hF
  injection hf with hf; subst hf
  exact h f _ hF
 ·cases hf
theorem RelA.news (h : RelA ρ bs w0 s a w) (hs : okS s = true) {objs : List Oj} {ps : List Pl} (hl : ps.length = objs.length) {H' : Hp}
  (hlen : H'.length = s.H.length) (hH' : ∀ (j : Nat) (x : Oj), H'[j]? = some x → x.kd = .dead ∨ (s.H[j]? = some x ∧ objR ρ w' (ρ j) x))
  (hk : Kp bs w0 w') (hnew : ∀ (k : Nat) (o : Oj) (p : Pl), objs[k]? = some o → ps[k]? = some p → objR (updL ρ s.H.length ps) w' p o)
  (hsep : ∀ (k : Nat) (o : Oj) (p : Pl) (j : Nat) (x : Oj) (g : Nat), objs[k]? = some o → ps[k]? = some p → H'[j]? = some x → x.kd ≠ .dead → objAt p o g → (x.own = true ∨ o.own = true) → ¬ objAt (ρ j) x g)
  (hsep2 : ∀ (k l : Nat) (o o' : Oj) (p p' : Pl) (g : Nat), k ≠ l → objs[k]? = some o → objs[l]? = some o' → ps[k]? = some p → ps[l]? = some p' → o.own = true → objAt p o g → ¬ objAt p' o' g)
  (hown : ∀ (k : Nat) (o : Oj) (p : Pl), objs[k]? = some o → ps[k]? = some p → o.fsh = true → ∀ g, objAt p o g → w0.heap.size ≤ g ∨ bs g) (fr : Fr) (a' : Act) (hfr : FrR (updL ρ s.H.length ps) fr a') :
  RelA (updL ρ s.H.length ps) bs w0 ⟨fr, s.gl, H' ++ objs⟩ a' w' := by
 obtain ⟨h1, h2, h3⟩ := okS_ok hs
 have hlt : ∀ i, i < s.H.length → updL ρ s.H.length ps i = ρ i := updL_lt
 have part : ∀ (i : Nat) (x : Oj), (H' ++ objs)[i]? = some x → (i < s.H.length ∧ H'[i]? = some x) ∨ ∃ k p, i = s.H.length + k ∧ objs[k]? = some x ∧ ps[k]? = some p := by
  intro i x hx
  by_cases hi : i < H'.length
  ·rw [List.getElem?_append_left hi] at hx; exact .inl ⟨by omega, hx⟩
  ·rw [List.getElem?_append_right (by omega)] at hx
   have hk := (List.getElem?_eq_some_iff.1 hx).1
   exact .inr ⟨i - H'.length, ps[i - H'.length], by omega, hx, List.getElem?_eq_getElem (by omega)⟩
 refine ⟨hfr, fun t x hx => ltA_ok hlt (ltF_ok h2 t x hx) (h.gl t x hx), fun i x hx => ?_, fun i j x y g hij hx hy hox hat hat2 => ?_, fun i x g hx hox hat => ?_, hk⟩
 ·rcases part i x hx with ⟨hi, hx1⟩ | ⟨k, p, rfl, hx1, hp⟩
  ·rw [hlt i hi]
   rcases hH' i x hx1 with hd | ⟨hs, hr⟩
   ·unfold objR; simp only [hd]
   ·exact objR_lt hlt (fun hkd => ltH_ok h3 i x hs hkd) hr
  ·rw [updL_at hp]; exact hnew k x p hx1 hp
 ·have hxk : x.kd ≠ .dead := by intro e; unfold Oj.own at hox; rw [e] at hox; cases hox
  have hyk : y.kd ≠ .dead := by intro e; unfold objAt at hat2; simp only [e] at hat2
  rcases part i x hx with ⟨hi, hx1⟩ | ⟨k, p, rfl, hx1, hp⟩
  ·rw [hlt i hi] at hat
   rcases part j y hy with ⟨hj, hy1⟩ | ⟨l, q, rfl, hy1, hq⟩
   ·rw [hlt j hj] at hat2
    rcases hH' i x hx1 with hd | ⟨hsx, _⟩
    ·exact hxk hd
    ·rcases hH' j y hy1 with hd | ⟨hsy, _⟩
     ·exact hyk hd
     ·exact h.sep i j x y g hij hsx hsy hox hat hat2
   ·rw [updL_at hq] at hat2
    exact hsep l y q i x g hy1 hq hx1 hxk hat2 (.inl hox) hat
  ·rw [updL_at hp] at hat
   rcases part j y hy with ⟨hj, hy1⟩ | ⟨l, q, rfl, hy1, hq⟩
   ·rw [hlt j hj] at hat2
    exact hsep k x p j y g hx1 hp hy1 hyk hat (.inr hox) hat2
   ·rw [updL_at hq] at hat2
    exact hsep2 k l x y p q g (fun e => hij (by rw [e])) hx1 hy1 hp hq hox hat hat2
 ·rcases part i x hx with ⟨hi, hx1⟩ | ⟨k, p, rfl, hx1, hp⟩
  ·rw [hlt i hi] at hat
   rcases hH' i x hx1 with hd | ⟨hsx, _⟩
   ·unfold Oj.fsh at hox; rw [hd] at hox; cases hox
   ·exact h.own i x g hsx hox hat
  ·rw [updL_at hp] at hat
   exact two3 (hown k x p hx1 hp hox g hat)
def demO : Hp → Hp
 | [] => []
 | o :: l => (match o.kd with | .row => ⟨.ro true, o.e, o.sz, o.n, o.cs⟩ | .blk | .od | .og => ⟨.dead, o.e, o.sz, o.n, o.cs⟩ | _ => o) :: demO l
theorem demO_len : ∀ (H : Hp), (demO H).length = H.length
 | [] => rfl
 | o :: l => by simp [demO, demO_len l]
theorem demO_at : ∀ {H : Hp} {i : Nat} {x : Oj}, (demO H)[i]? = some x → ∃ o, H[i]? = some o ∧ x.own = false ∧ (x = o ∨ (o.kd = .row ∧ x = ⟨.ro true, o.e, o.sz, o.n, o.cs⟩) ∨ x.kd = .dead)
 | [], i, x, h => by simp [demO] at h
 | o :: l, i, x, h => by
  cases i with
  | zero =>
   simp only [demO, List.getElem?_cons_zero, Option.some.injEq] at h
   refine ⟨o, rfl, ?_⟩
   cases hk : o.kd with
   | row => simp only [hk] at h; subst h; exact ⟨rfl, .inr (.inl ⟨rfl, rfl⟩)⟩
   | blk => simp only [hk] at h; subst h; exact ⟨rfl, .inr (.inr rfl)⟩
   | ro b => simp only [hk] at h; subst h; exact ⟨by unfold Oj.own; rw [hk], .inl rfl⟩
   | dead => simp only [hk] at h; subst h; exact ⟨by unfold Oj.own; rw [hk], .inl rfl⟩
   | dp fs => simp only [hk] at h; subst h; exact ⟨by unfold Oj.own; rw [hk], .inl rfl⟩
   | gs fs => simp only [hk] at h; subst h; exact ⟨by unfold Oj.own; rw [hk], .inl rfl⟩
   | od => simp only [hk] at h; subst h; exact ⟨rfl, .inr (.inr rfl)⟩
   | og => simp only [hk] at h; subst h; exact ⟨rfl, .inr (.inr rfl)⟩
  | succ i => simpa [demO] using demO_at (H := l) (i := i) (by simpa [demO] using h)
theorem RelA.dem (h : RelA ρ bs w0 s a w) : RelA ρ bs w0 ⟨s.fr, s.gl, demO s.H⟩ a w := by
 refine ⟨h.fr, h.gl, fun i x hx => ?_, fun i j x y g _ hx _ hox => ?_, fun i x g hx hox hat => ?_, h.kp⟩
 ·obtain ⟨o, ho, _, rfl | ⟨hk, rfl⟩ | hd⟩ := demO_at hx
  ·exact h.hp i x ho
  ·have hr := h.hp i o ho
   have h1 := hr.slc (.inr (.inl hk))
   obtain ⟨h2, h3⟩ := hr.read (by rw [hk]; simp)
   exact ⟨h2, h1, h3⟩
  ·unfold objR; simp only [hd]
 ·obtain ⟨o, ho, hno, _⟩ := demO_at hx
  rw [hno] at hox; cases hox
 ·obtain ⟨o, ho, _, rfl | ⟨hk, rfl⟩ | hd⟩ := demO_at hx
  ·exact h.own i x g ho hox hat
  ·obtain ⟨_, ad, had, hb⟩ := hat
   exact own3 (h.own i o g ho (by unfold Oj.fsh; rw [hk]) (by unfold objAt; simp only [hk]; exact ⟨ad, had, hb⟩)) rfl
  ·unfold Oj.fsh at hox; rw [hd] at hox; cases hox
def hasRo : List Oj → Bool
 | [] => false
 | o :: l => (match o.kd with | .ro false | .dp false => true | _ => false) || hasRo l
theorem hasRo_no : ∀ {l : List Oj}, hasRo l = false → ∀ (k : Nat) (o : Oj), l[k]? = some o → ¬ o.lose
 | [], _, k, o, ho => by simp at ho
 | x :: l, h, k, o, ho => by
  simp only [hasRo, Bool.or_eq_false_iff] at h
  cases k with
  | zero => simp at ho; subst ho; rintro (e | e) <;> rw [e] at h <;> cases h.1
  | succ k => exact hasRo_no h.2 k o (by simpa using ho)
def demI (b : Bool) (H : Hp) : Hp := match b with | true => demO H | false => H
def killO : List Nat → Hp → Hp
 | [], H => H
 | i :: is, H => killO is (match H[i]? with | some o => (match o.own with | true => killH H i | false => H) | none => H)
theorem killO_len : ∀ (is : List Nat) (H : Hp), (killO is H).length = H.length
 | [], _ => rfl
 | i :: is, H => by
  simp only [killO]
  rw [killO_len is]
  split
  ·split
   ·exact killH_len H i
   ·rfl
  ·rfl
theorem killO_at : ∀ {is : List Nat} {H : Hp} {j : Nat} {x : Oj}, (killO is H)[j]? = some x → x.kd = .dead ∨ (H[j]? = some x ∧ (x.own = true → j ∉ is))
 | [], H, j, x, h => .inr ⟨h, fun _ => by simp⟩
 | i :: is, H, j, x, h => by
  simp only [killO] at h
  rcases killO_at h with hd | ⟨h1, h2⟩
  ·exact .inl hd
  ·split at h1
   ·rename_i o ho
    split at h1
    ·rename_i hown
     rcases killH_at h1 with hd | ⟨hj, h3⟩
     ·exact .inl hd
     ·exact .inr ⟨h3, fun hx => by simp only [List.mem_cons, not_or]; exact ⟨hj, h2 hx⟩⟩
    ·rename_i hown
     refine .inr ⟨h1, fun hx => ?_⟩
     simp only [List.mem_cons, not_or]
     refine ⟨fun e => ?_, h2 hx⟩
     subst e; rw [ho] at h1; injection h1 with h1; subst h1
     rw [hx] at hown; cases hown
   ·rename_i ho
    refine .inr ⟨h1, fun hx => ?_⟩
    simp only [List.mem_cons, not_or]
    refine ⟨fun e => ?_, h2 hx⟩
    subst e; rw [ho] at h1; cases h1
def evs (ae : Operand → Option AV) : List Operand → Option (List AV)
 | [] => some []
 | x :: xs => match ae x, evs ae xs with
  | some v, some vs => some (v :: vs)
  | _, _ => none
theorem evs_ok {ae : Operand → Option AV} {ev : Operand → Value} (hae : ∀ x av, ae x = some av → avR ρ av (ev x)) : ∀ {xs : List Operand} {vs : List AV}, evs ae xs = some vs → F2 (avR ρ) vs (xs.map ev)
 | [], vs, h => by injection h with h; subst h; exact F2.nil
 | x :: xs, vs, h => by
  simp only [evs] at h
  split at h
  ·rename_i v vs' h1 h2
   injection h with h; subst h
   exact F2.cons (hae x v h1) (evs_ok hae h2)
  ·cases h
def dOk (N : Nat) (d : Option Nat) : Bool := match d with | some k => decide (k < N) | none => true
theorem dOk_ok {N : Nat} {d : Option Nat} (h : dOk N d = true) (hN : a.tmps.size = N) : ∀ k, d = some k → k < a.tmps.size := by
 intro k hk; subst hk; simp only [dOk, decide_eq_true_eq] at h; omega
def updH (H : Hp) (up : List (Nat × Oj)) : Hp := match up with
 | [] => H
 | (i, o) :: l => (updH H l).set i o
def upOk (H : Hp) : List (Nat × Oj) → Bool
 | [] => true
 | (i, _) :: l => (match H[i]? with | some o => o.own | none => false) && ((l.lookup i).isNone && upOk H l)
def calF (ft : FT) (s : S) (d : Option Nat) (f : FuncId) (vs : List AV) : Option (List Prop × S) := match ft f with
 | some (.p F) => (match F vs s.H with
  | some (g, av, objs) => (match okS ⟨s.fr, s.gl, demI (hasRo objs) s.H⟩ with
   | true => some (g, ⟨putF s.fr d av, s.gl, demI (hasRo objs) s.H ++ objs⟩)
   | false => none)
  | none => none)
 | some (.m F) => (match F vs s.H with
  | some (g, av, up, objs) => (match okS s && upOk s.H up with
   | true => some (g, ⟨putF s.fr d av, s.gl, updH s.H up ++ objs⟩)
   | false => none)
  | none => none)
 | some (.v F) => (match F vs s.H with
  | some (g, av, objs) => (match okS s with
   | true => some (g, ⟨putF s.fr d av, s.gl, s.H ++ objs⟩)
   | false => none)
  | none => none)
 | none => none
def eff (T : Tab) (ft : FT) (s : S) (d : Option Nat) (op : Op) : Option (List Prop × S) := match op with
 | .store t x y => (match d, ev0 s.fr s.gl x, ev0 s.fr s.gl y with
  | none, some vx, some vy => (match stA T s.H t vx vy with
   | some (i, o, cs') => some ([], ⟨s.fr, s.gl, s.H.set i { o with cs := cs' }⟩)
   | none => (match stT T s.H t vx vy with
    | some (g, i, o, cs') => some (g, ⟨s.fr, s.gl, s.H.set i { o with cs := cs' }⟩)
    | none => none))
  | _, _, _ => none)
 | .call c => (match c.callee with
  | .builtin b => (match b, c.args.toList, c.argTypes.toList with
   | .append, [x, y], [t, t'] => (match decide (t = t'), ev0 s.fr s.gl x, ev0 s.fr s.gl y with
    | true, some vx, some vy => (match apA T s.H t vx vy with
     | some (g, io, o') => (match okS s && ltX s.H.length o'.cs with
      | true => some (g, ⟨putF s.fr d (.c (.wh s.H.length)), s.gl, killM io s.H ++ [o']⟩)
      | false => none)
     | none => none)
    | _, _, _ => none)
   | .copy, [x, y], t :: _ => (match ev0 s.fr s.gl x, ev0 s.fr s.gl y with
    | some vx, some vy => (match cpA T s.H t vx vy with
     | some (i, o, cs', k) => some ([], ⟨putF s.fr d (.c (.s (.k .i64 (k : Int)))), s.gl, s.H.set i { o with cs := cs' }⟩)
     | none => none)
    | _, _ => none)
   | _, _, _ => none)
  | .value (.func f) => (match evs (ev0 s.fr s.gl) c.args.toList with
   | some vs => calF ft s d f vs
   | none => none)
  | .value (.tmp t) => (match s.fr.lookup t, evs (ev0 s.fr s.gl) c.args.toList with
   | some (.c (.fp f i off)), some vs => calF ft s d f (vs ++ [.c (.pt i off)])
   | some (.c (.s (.v (.func (.func f) a b)))), some vs => (match a.toList, b.toList with
    | [], [] => calF ft s d f vs
    | _, _ => none)
   | _, _ => none)
  | _ => none)
 | .convert t t' x => (match ev0 s.fr s.gl x with
  | some vx => (match mkA T s.H t t' vx with
   | some (i, o) => some ([], ⟨putF s.fr d vx, s.gl, s.H.set i { o with kd := .ro true }⟩)
   | none => none)
  | none => none)
 | _ => none
def stp (T : Tab) (ft : FT) (N : Nat) (s : S) (o : Oper) : Option (List Prop × S) := match dOk N o.dst with
 | false => none
 | true => match vop T s.H (ev0 s.fr s.gl) o.op with
  | some (g, z) => some (g, ⟨putF s.fr o.dst z, s.gl, s.H⟩)
  | none => match aop T (ev0 s.fr s.gl) o.op o.type with
   | some (g, b, ob) => (match okS s && (ltX s.H.length ob.cs && decide (ob.kd ≠ .dead)) with
    | true => some (g, ⟨putF s.fr o.dst (if b then .c (.pt s.H.length 0) else .c (.wh s.H.length)), s.gl, s.H ++ [ob]⟩)
    | false => none)
   | none => eff T ft s o.dst o.op
theorem updH_len : ∀ (up : List (Nat × Oj)) (H : Hp), (updH H up).length = H.length
 | [], _ => rfl
 | (i, o) :: l, H => by rw [updH, List.length_set, updH_len l H]
theorem updH_at : ∀ {up : List (Nat × Oj)} {H : Hp} {j : Nat} {x : Oj}, (updH H up)[j]? = some x → (up.lookup j = some x ∧ (j, x) ∈ up) ∨ (up.lookup j = none ∧ H[j]? = some x)
 | [], H, j, x, h => .inr ⟨rfl, h⟩
 | (i, o) :: l, H, j, x, h => by
  rw [updH, List.getElem?_set] at h
  rw [List.lookup_cons]
  split at h
  ·rename_i e
   subst e
   split at h
   ·injection h with h; subst h
    rw [beq_self_eq_true]
    exact .inl ⟨rfl, by simp⟩
   ·cases h
  ·rename_i e
   have e' : (j == i) = false := by rw [beq_eq_false_iff_ne]; exact fun h => e h.symm
   rw [e']
   rcases updH_at h with ⟨h1, h2⟩ | h1
   ·exact .inl ⟨h1, List.mem_cons_of_mem _ h2⟩
   ·exact .inr h1
theorem upOk_in : ∀ {up : List (Nat × Oj)} {H : Hp}, upOk H up = true → ∀ i o', (i, o') ∈ up → ∃ o, H[i]? = some o ∧ o.own = true
 | [], _, _, i, o', h => by cases h
 | (j, x) :: l, H, hu, i, o', h => by
  simp only [upOk, Bool.and_eq_true] at hu
  rcases List.mem_cons.1 h with e | h
  ·injection e with e1 e2; subst e1
   have h1 := hu.1
   split at h1
   ·rename_i o ho; exact ⟨o, ho, h1⟩
   ·cases h1
  ·exact upOk_in hu.2.2 i o' h
theorem look_in {up : List (Nat × Oj)} {i : Nat} {o : Oj} (h : up.lookup i = some o) : (i, o) ∈ up := by
 induction up with
 | nil => simp at h
 | cons q l ih =>
  obtain ⟨j, x⟩ := q
  rw [List.lookup_cons] at h
  split at h
  ·rename_i e
   have : i = j := by simpa using e
   subst this; injection h with h; subst h; simp
  ·exact List.mem_cons_of_mem _ (ih h)
theorem mem_look : ∀ {up : List (Nat × Oj)} {i : Nat} {o : Oj}, (i, o) ∈ up → up.lookup i ≠ none
 | [], _, _, h, _ => by cases h
 | (j, x) :: l, i, o, h, hn => by
  rw [List.lookup_cons] at hn
  split at hn
  ·cases hn
  ·rename_i e
   rcases List.mem_cons.1 h with e2 | h
   ·injection e2 with e2 _; subst e2; simp at e
   ·exact mem_look h hn
theorem updP_same {H : Hp} {av : AV} {up : List (Nat × Oj)} {objs : List Oj} {v : Value} {ps : List Pl} {pu : Pls} (hL : LeftM ρ w H av up objs v w' ps pu) (hin : ∀ i o', (i, o') ∈ up → i < H.length) : ∀ i, SamePl (updL ρ H.length ps i) (updP (updL ρ H.length ps) up pu i) := by
 intro i
 unfold updP
 split
 ·rename_i o ho
  have hm := look_in ho
  rw [updL_lt i (hin i o hm)]
  exact hL.same i o hm
 ·exact SamePl.refl _
theorem RelA.newsM (h : RelA ρ bs w0 s a w) (hs : okS s = true) {av : AV} {up : List (Nat × Oj)} (hu : upOk s.H up = true) {objs : List Oj} {v : Value} {ps : List Pl} {pu : Pls} (hL : LeftM ρ w s.H av up objs v w' ps pu) (hk : Kp ⟨consB ρ s.H up, fun _ => undef, fun _ => False⟩ w w')
  (fr : Fr) (a' : Act) (hfr : FrR (updP (updL ρ s.H.length ps) up pu) fr a') : RelA (updP (updL ρ s.H.length ps) up pu) bs w0 ⟨fr, s.gl, updH s.H up ++ objs⟩ a' w' := by
 obtain ⟨h1, h2, h3⟩ := okS_ok hs
 have hin : ∀ i o', (i, o') ∈ up → i < s.H.length := fun i o' hm => by obtain ⟨o, ho, _⟩ := upOk_in hu i o' hm; exact (List.getElem?_eq_some_iff.1 ho).1
 have hsame := updP_same hL hin
 have hlt : ∀ i, i < s.H.length → updL ρ s.H.length ps i = ρ i := updL_lt
 have hlk : ∀ k, up.lookup (s.H.length + k) = none := fun k => by
  cases hl : up.lookup (s.H.length + k) with
  | none => rfl
  | some o => have := hin _ _ (look_in hl); omega
 have hcons : ∀ g, consB ρ s.H up g → g < w.heap.size := fun g ⟨i, o', o, _, ho, _, hat⟩ => objAt_lt (h.hp i o ho) hat
 -- an object that stays: it has no cell in what was handed over
 have apart : ∀ j x g, up.lookup j = none → s.H[j]? = some x → objAt (ρ j) x g → ¬ consB ρ s.H up g := fun j x g hj hx hat ⟨i, o', o, hm, ho, hown, hat2⟩ => by
  have hne : i ≠ j := fun e => by
   subst e
   exact mem_look hm hj
  exact h.sep i j o x g hne ho hx hown hat2 hat
 have keepO : ∀ j x, up.lookup j = none → s.H[j]? = some x → objR ρ w' (ρ j) x := fun j x hj hx => (h.hp j x hx).keep fun g hg hat => hk.block g hg (apart j x g hj hx hat)
 have part : ∀ (i : Nat) (x : Oj), (updH s.H up ++ objs)[i]? = some x → (i < s.H.length ∧ (up.lookup i = some x ∧ (i, x) ∈ up)) ∨ (i < s.H.length ∧ up.lookup i = none ∧ s.H[i]? = some x) ∨ ∃ k p, i = s.H.length + k ∧ objs[k]? = some x ∧ ps[k]? = some p := by
  intro i x hx
  have hl := updH_len up s.H
  by_cases hi : i < s.H.length
  ·rw [List.getElem?_append_left (by omega)] at hx
   rcases updH_at hx with h1 | h1
   ·exact .inl ⟨hi, h1⟩
   ·exact .inr (.inl ⟨hi, h1⟩)
  ·rw [List.getElem?_append_right (by omega)] at hx
   have hk := (List.getElem?_eq_some_iff.1 hx).1
   have := hL.len
   exact .inr (.inr ⟨i - s.H.length, ps[i - s.H.length]'(by omega), by omega, by rw [← hl]; exact hx, List.getElem?_eq_getElem (by omega)⟩)
 have pu_at : ∀ {i x}, up.lookup i = some x → updP (updL ρ s.H.length ps) up pu i = pu i := fun hl => by unfold updP; rw [hl]
 have ol_at : ∀ {i}, i < s.H.length → up.lookup i = none → updP (updL ρ s.H.length ps) up pu i = ρ i := fun hi hl => by unfold updP; rw [hl]; exact hlt _ hi
 have nw_at : ∀ {k p}, ps[k]? = some p → updP (updL ρ s.H.length ps) up pu (s.H.length + k) = p := fun hp => by unfold updP; rw [hlk]; exact updL_at hp
 have ownB : ∀ g, w.heap.size ≤ g ∨ consB ρ s.H up g → w0.heap.size ≤ g ∨ bs g := fun g hg => by
  rcases hg with hg | ⟨i, o', o, _, ho, hown, hat⟩
  ·exact .inl (Nat.le_trans h.kp.size hg)
  ·exact h.own.o ho hown hat
 -- what stays and what came are apart
 have far : ∀ j x g, up.lookup j = none → s.H[j]? = some x → objAt (ρ j) x g → ¬ (w.heap.size ≤ g ∨ consB ρ s.H up g) := fun j x g hj hx hat hg => by
  rcases hg with hg | hg
  ·have := objAt_lt (h.hp j x hx) hat; omega
  ·exact apart j x g hj hx hat hg
 refine ⟨hfr, fun t x hx => avR_same hsame (ltA_ok hlt (ltF_ok h2 t x hx) (h.gl t x hx)), fun i x hx => ?_, fun i j x y g hij hx hy hox hat hat2 => ?_, fun i x g hx hox hat => ?_, ?_⟩
 ·rcases part i x hx with ⟨hi, hl, hm⟩ | ⟨hi, hl, hx1⟩ | ⟨k, p, rfl, hx1, hp⟩
  ·rw [pu_at hl]; exact objR_same hsame (hL.upd i x hm)
  ·rw [ol_at hi hl]
   exact objR_same hsame (objR_lt hlt (fun hkd => ltH_ok h3 i x hx1 hkd) (keepO i x hl hx1))
  ·rw [nw_at hp]; exact objR_same hsame (hL.obj k x p hx1 hp)
 ·rcases part i x hx with ⟨hi, hl, hm⟩ | ⟨hi, hl, hx1⟩ | ⟨k, p, rfl, hx1, hp⟩
  ·rw [pu_at hl] at hat
   rcases part j y hy with ⟨hj, hl2, hm2⟩ | ⟨hj, hl2, hy1⟩ | ⟨l, q, rfl, hy1, hq⟩
   ·rw [pu_at hl2] at hat2; exact hL.sepuu i x j y g hij hm hm2 hox hat hat2
   ·rw [ol_at hj hl2] at hat2; exact far j y g hl2 hy1 hat2 (hL.uplace i x g hm hat)
   ·rw [nw_at hq] at hat2; exact hL.sepu l y q i x g hy1 hq hm (.inr hox) hat2 hat
  ·rw [ol_at hi hl] at hat
   rcases part j y hy with ⟨hj, hl2, hm2⟩ | ⟨hj, hl2, hy1⟩ | ⟨l, q, rfl, hy1, hq⟩
   ·rw [pu_at hl2] at hat2; exact far i x g hl hx1 hat (hL.uplace j y g hm2 hat2)
   ·rw [ol_at hj hl2] at hat2; exact h.sep i j x y g hij hx1 hy1 hox hat hat2
   ·rw [nw_at hq] at hat2; exact far i x g hl hx1 hat (hL.place l y q g hy1 hq hat2)
  ·rw [nw_at hp] at hat
   rcases part j y hy with ⟨hj, hl2, hm2⟩ | ⟨hj, hl2, hy1⟩ | ⟨l, q, rfl, hy1, hq⟩
   ·rw [pu_at hl2] at hat2; exact hL.sepu k x p j y g hx1 hp hm2 (.inl hox) hat hat2
   ·rw [ol_at hj hl2] at hat2; exact far j y g hl2 hy1 hat2 (hL.place k x p g hx1 hp hat)
   ·rw [nw_at hq] at hat2; exact hL.sep k l x y p q g (fun e => hij (by rw [e])) hx1 hy1 hp hq hox hat hat2
 ·rcases part i x hx with ⟨hi, hl, hm⟩ | ⟨hi, hl, hx1⟩ | ⟨k, p, rfl, hx1, hp⟩
  ·rw [pu_at hl] at hat; exact two3 (ownB g (hL.uplace i x g hm hat))
  ·rw [ol_at hi hl] at hat; exact h.own i x g hx1 hox hat
  ·rw [nw_at hp] at hat; exact two3 (ownB g (hL.place k x p g hx1 hp hat))
 ·exact ⟨hk.os.trans h.kp.os, hk.tape.trans h.kp.tape, hk.output.trans h.kp.output, Nat.le_trans h.kp.size hk.size, fun k hlt2 hnb => by
   rw [← h.kp.block k hlt2 hnb]
   exact hk.block k (Nat.lt_of_lt_of_le hlt2 h.kp.size) fun hc => by
    rcases ownB k (.inr hc) with h1 | h1
    ·omega
    ·exact hnb h1⟩
theorem calF_fn {ft : FT} (hF : FtOk P (Kp bs w0) ft) {d : Option Nat} {f : FuncId} {vs : List AV} {g : List Prop} {s' : S} (h : calF ft s d f vs = some (g, s')) : ∃ fn F, ft f = some F ∧ P.funcs[f]? = some fn ∧ (fn.name == "runtime.NumGoroutine") = false ∧ fn.body.isNone = false := by
 unfold calF at h
 split at h
 ·rename_i F hf
  obtain ⟨_, fn, h1⟩ := hF f _ hf
  exact ⟨fn, _, hf, h1⟩
 ·rename_i F hf
  obtain ⟨_, fn, h1⟩ := hF f _ hf
  exact ⟨fn, _, hf, h1⟩
 ·rename_i F hf
  obtain ⟨_, fn, h1⟩ := hF f _ hf
  exact ⟨fn, _, hf, h1⟩
 ·cases h
theorem calF_ok {ft : FT} (hF : FtOk P (Kp bs w0) ft) {d : Option Nat} {f : FuncId} {vs : List AV} {g : List Prop} {s' : S} (h : calF ft s d f vs = some (g, s')) (hg : allP g) (hd0 : a.defers = []) (hN : a.tmps.size = N) (hR : RelA ρ bs w0 s a w)
  (hd : ∀ k, d = some k → k < a.tmps.size) {vals : List Value} (hvals : F2 (avR ρ) vs vals) {op : Op} {ty : TypeId} {pos : String} {aft : Array Edge} {gd : Option (Nat × Bool)}
  (hrun : (execOp a.eval ⟨d, op, ty, pos, aft, gd⟩).run P w = .ok (.enter f vals.toArray) w) :
  (Oper.mk d op ty pos aft gd).wp P a w (fun a' w' => Rel N bs w0 s' a' w') (fun _ _ _ => False) := by
 have back : ∀ {s' : S} {u : Value} {w' : World} {ρ' : Pls}, RelA ρ' bs w0 s' (a.put d u) w' → Rel N bs w0 s' (a.put d u) w' := fun hr => ⟨by rw [put_defers]; exact hd0, by rw [put_size]; exact hN, _, hr⟩
 unfold calF at h
 split at h
 ·rename_i F hf
  split at h
  ·rename_i g' av objs hFr
   split at h
   ·rename_i hs
    injection h with h; simp only [Prod.mk.injEq] at h; obtain ⟨rfl, rfl⟩ := h
    have hct : CtOk P (Kp bs w0) f F := (hF f _ hf).1
    have hc := hct vs s.H _ av objs hFr hg ρ w vals hR.kp hR.hp hvals
    unfold Oper.wp
    rw [hrun]
    refine hc.mono fun e w' ⟨v, he, hx, ps, hL⟩ => ?_
    subst he
    have hlenI : (demI (hasRo objs) s.H).length = s.H.length := by unfold demI; split; exact demO_len _; rfl
    have hRI : RelA ρ bs w0 ⟨s.fr, s.gl, demI (hasRo objs) s.H⟩ a w := by
     unfold demI; split
     ·exact hR.dem
     ·exact hR
    have hobj := hL.obj
    have hval := hL.val
    rw [← hlenI] at hobj hval
    refine back (hRI.news hs hL.len rfl (fun j x hj => .inr ⟨hj, (hRI.hp j x hj).keep fun g hlt _ => hx.block g hlt⟩) (hRI.kp.ext hx) hobj (fun k o p j x g ho hp hj hxk hat hor hat2 => ?_) hL.sep (fun k o p ho hp hfs g hat => ?_) _ _ (putF_ok (fun t x hx => ltA_ok updL_lt (ltF_ok (okS_ok hs).1 t x hx) (hRI.fr t x hx)) hval hd))
    ·rcases hL.place k o p g ho hp hat with hge | hro
     ·have := objAt_lt (hRI.hp j x hj) hat2
      omega
     ·have hyes : hasRo objs = true := by
       cases hb : hasRo objs with
       | true => rfl
       | false => exact absurd hro (hasRo_no hb k o ho)
      have hj2 : (demO s.H)[j]? = some x := by rw [hyes] at hj; exact hj
      obtain ⟨_, _, hno, _⟩ := demO_at hj2
      rcases hor with h1 | h1
      ·rw [hno] at h1; cases h1
      ·unfold Oj.own at h1; rcases hro with hro | hro <;> rw [hro] at h1 <;> cases h1
    ·rcases hL.place k o p g ho hp hat with hge | hro
     ·exact .inl (Nat.le_trans hR.kp.size hge)
     ·unfold Oj.fsh at hfs; rcases hro with hro | hro <;> rw [hro] at hfs <;> cases hfs
   ·cases h
  ·cases h
 ·rename_i F hf
  split at h
  ·rename_i g' av up objs hFr
   split at h
   ·rename_i hck
    simp only [Bool.and_eq_true] at hck
    injection h with h; simp only [Prod.mk.injEq] at h; obtain ⟨rfl, rfl⟩ := h
    have hct : CtMOk P f F := (hF f _ hf).1
    have hc := hct vs s.H _ av up objs hFr hg ρ w vals hR.hp hR.sep hvals
    unfold Oper.wp
    rw [hrun]
    refine hc.mono fun e w' ⟨v, he, hk, ps, pu, hL⟩ => ?_
    subst he
    have hin : ∀ i o', (i, o') ∈ up → i < s.H.length := fun i o' hm => by obtain ⟨o, ho, _⟩ := upOk_in hck.2 i o' hm; exact (List.getElem?_eq_some_iff.1 ho).1
    refine back (hR.newsM hck.1 hck.2 hL hk _ _ (putF_ok (fun t x hx => avR_same (updP_same hL hin) (ltA_ok updL_lt (ltF_ok (okS_ok hck.1).1 t x hx) (hR.fr t x hx))) (avR_same (updP_same hL hin) hL.val) hd))
   ·cases h
  ·cases h
 ·rename_i F hf
  split at h
  ·rename_i g' av objs hFr
   split at h
   ·rename_i hs
    injection h with h; simp only [Prod.mk.injEq] at h; obtain ⟨rfl, rfl⟩ := h
    have hct : CtVOk P (Kp bs w0) f F := (hF f _ hf).1
    have hc := hct vs s.H _ av objs hFr hg ρ w vals hR.kp hR.hp hvals
    unfold Oper.wp
    rw [hrun]
    refine hc.mono fun e w' ⟨v, he, hx, ps, hL, hpl⟩ => ?_
    subst he
    refine back (hR.news hs hL.len rfl (fun j x hj => .inr ⟨hj, (hR.hp j x hj).keep fun g hlt _ => hx.block g hlt⟩) (hR.kp.ext hx) hL.obj (fun k o p j x g ho hp hj hxk hat hor hat2 => ?_) hL.sep (fun k o p ho hp hfs g hat => ?_) _ _ (putF_ok (fun t x hx => ltA_ok updL_lt (ltF_ok (okS_ok hs).1 t x hx) (hR.fr t x hx)) hL.val hd))
    ·rcases hpl k o p g ho hp hat with hge | ⟨i, y, hi, hyo, hat3⟩
     ·have := objAt_lt (hR.hp j x hj) hat2
      omega
     ·rcases hor with h1 | h1
      ·have hne : j ≠ i := fun e => by subst e; rw [hj] at hi; injection hi with hi; subst hi; rw [h1] at hyo; cases hyo
       exact hR.sep j i x y g hne hj hi h1 hat2 hat3
      ·rcases hL.place k o p g ho hp hat with hge | hro
       ·have := objAt_lt (hR.hp j x hj) hat2
        omega
       ·unfold Oj.own at h1; rcases hro with hro | hro <;> rw [hro] at h1 <;> cases h1
    ·rcases hL.place k o p g ho hp hat with hge | hro
     ·exact .inl (Nat.le_trans hR.kp.size hge)
     ·unfold Oj.fsh at hfs; rcases hro with hro | hro <;> rw [hro] at hfs <;> cases hfs
   ·cases h
  ·cases h
 ·cases h
theorem stp_ok (hT : TabOk P T) {ft : FT} (hF : FtOk P (Kp bs w0) ft) {o : Oper} {g : List Prop} {s' : S} (h : stp T ft N s o = some (g, s')) (hg : allP g) (hR : Rel N bs w0 s a w) :
  o.wp P a w (fun a' w' => Rel N bs w0 s' a' w') (fun _ _ _ => False) := by
 obtain ⟨hd0, hN, ρ, hR⟩ := hR
 have hae := fun x av h => ev0_ok (ρ := ρ) (a := a) hR.fr hR.gl x av h
 obtain ⟨dst, op, ty, pos, aft, gd⟩ := o
 unfold stp at h
 split at h
 ·cases h
 ·rename_i hdk
  have hd := dOk_ok hdk hN
  have back : ∀ {s' : S} {u : Value} {w' : World} {ρ' : Pls}, RelA ρ' bs w0 s' (a.put dst u) w' → Rel N bs w0 s' (a.put dst u) w' := fun hr => ⟨by rw [put_defers]; exact hd0, by rw [put_size]; exact hN, _, hr⟩
  split at h
  ·rename_i g' z hv
   injection h with h; simp only [Prod.mk.injEq] at h; obtain ⟨rfl, rfl⟩ := h
   obtain ⟨u, hr, hu⟩ := vop_ok hT hR.hp hae hv hg dst ty pos aft gd
   unfold Oper.wp
   rw [hr]
   exact back (hR.put hu hd)
  ·split at h
   ·rename_i g' b ob ha
    split at h
    ·rename_i hck
     simp only [Bool.and_eq_true, decide_eq_true_eq] at hck
     injection h with h; simp only [Prod.mk.injEq] at h; obtain ⟨rfl, rfl⟩ := h
     obtain ⟨u, w', p, hr, hgr, hn⟩ := aop_ok (w := w) hT hae ha hg dst pos aft gd
     unfold Oper.wp
     rw [hr]
     exact back (hR.alloc hck.1 hck.2.1 hgr hn hck.2.2 hd)
    ·cases h
   ·rename_i hv1 _ hv2
    clear hv1 hv2
    simp only at h
    cases op with
    | store t x y =>
     cases dst with
     | some _ => simp [eff] at h
     | none =>
      simp only [eff] at h
      split at h
      ·rename_i vx vy _ hx hy
       split at h
       ·rename_i i ob cs' hst
        injection h with h; simp only [Prod.mk.injEq] at h; obtain ⟨rfl, rfl⟩ := h
        obtain ⟨w', hr, hR', _⟩ := stA_ok hT hR hst (hae x vx hx) (hae y vy hy)
        unfold Oper.wp
        have : (execOp a.eval ⟨none, .store t x y, ty, pos, aft, gd⟩).run P w = .ok .skip w' := by simp [execOp, hr]
        rw [this]
        exact ⟨hd0, hN, ρ, hR'⟩
       ·split at h
        ·rename_i g' i ob cs' hst
         injection h with h; simp only [Prod.mk.injEq] at h; obtain ⟨rfl, rfl⟩ := h
         obtain ⟨w', hr, hR'⟩ := stT_ok hT hR hst hg (hae x vx hx) (hae y vy hy)
         unfold Oper.wp
         have : (execOp a.eval ⟨none, .store t x y, ty, pos, aft, gd⟩).run P w = .ok .skip w' := by simp [execOp, hr]
         rw [this]
         exact ⟨hd0, hN, ρ, hR'⟩
        ·cases h
      ·cases h
    | convert t t' x =>
     simp only [eff] at h
     split at h
     ·rename_i vx hx
      split at h
      ·rename_i i o hmk
       injection h with h; simp only [Prod.mk.injEq] at h; obtain ⟨rfl, rfl⟩ := h
       obtain ⟨w', hr, hR'⟩ := mkA_ok hT hR hmk (hae x vx hx)
       unfold Oper.wp
       have : (execOp a.eval ⟨dst, .convert t t' x, ty, pos, aft, gd⟩).run P w = .ok (.value (a.eval x)) w' := by simp [execOp, hr]
       rw [this]
       exact back (hR'.put (hae x vx hx) hd)
      ·cases h
     ·cases h
    | call c =>
     obtain ⟨callee, args, argTypes⟩ := c
     cases callee with
     | builtin b =>
      simp only [eff] at h
      split at h
      ·rename_i x y t t' hargs htys
       have ea : args = #[x, y] := by apply Array.ext'; exact hargs
       have et : argTypes = #[t, t'] := by apply Array.ext'; exact htys
       subst ea; subst et
       split at h
       ·rename_i vx vy htt hx hy
        simp only [decide_eq_true_eq] at htt
        subst htt
        split at h
        ·rename_i g' io o' hap
         split at h
         ·rename_i hck
          simp only [Bool.and_eq_true] at hck
          injection h with h; simp only [Prod.mk.injEq] at h; obtain ⟨rfl, rfl⟩ := h
          obtain ⟨u, w', p, hr, hR'⟩ := apA_ok hT hR hck.1 hap hck.2 hg (hae x vx hx) (hae y vy hy) hd (ty := ty)
          unfold Oper.wp
          have : (execOp a.eval ⟨dst, .call { callee := .builtin .append, args := #[x, y], argTypes := #[t, t] }, ty, pos, aft, gd⟩).run P w = .ok (.value u) w' := by
           simp [execOp, resolve, invoke, builtin, hr]
          rw [this]
          exact back hR'
         ·cases h
        ·cases h
       ·cases h
      ·rename_i x y t ts hargs htys
       have ea : args = #[x, y] := by apply Array.ext'; exact hargs
       subst ea
       split at h
       ·rename_i vx vy hx hy
        split at h
        ·rename_i i o cs' k hcp
         injection h with h; simp only [Prod.mk.injEq] at h; obtain ⟨rfl, rfl⟩ := h
         have et0 : argTypes[0]? = some t := by rw [← Array.getElem?_toList, htys]; rfl
         obtain ⟨w', hr, hR'⟩ := cpA_ok (t' := t) (ty := ty) hT hR hcp (hae x vx hx) (hae y vy hy)
         have hr2 : (Builtin.copy_ argTypes ty #[a.eval x, a.eval y]).run P w = .ok (.int .i64 (k : Int)) w' := by
          rw [← hr]; unfold Builtin.copy_; simp only [et0]; rfl
         unfold Oper.wp
         have : (execOp a.eval ⟨dst, .call { callee := .builtin .copy, args := #[x, y], argTypes := argTypes }, ty, pos, aft, gd⟩).run P w = .ok (.value (.int .i64 (k : Int))) w' := by
          simp [execOp, resolve, invoke, builtin, hr2]
         rw [this]
         exact back (hR'.put (show avR _ (.c (.s (.k .i64 (k : Int)))) _ from rfl) hd)
        ·cases h
       ·cases h
      ·cases h
     | value fo =>
      have en : ∀ {f : FuncId} {fn : Func} (vals : Array Value), P.funcs[f]? = some fn → (fn.name == "runtime.NumGoroutine") = false → fn.body.isNone = false → (callFunc f vals).run P w = .ok (.enter f vals) w := by
       intro f fn vals hfn hname hbody
       have hname' : ¬ fn.name = "runtime.NumGoroutine" := by simpa using hname
       have hb' : ¬ fn.body = none := fun h0 => by rw [h0] at hbody; cases hbody
       simp [callFunc, hfn, hname', hb']
      have e : (args.toList.map a.eval).toArray = args.map a.eval := by apply Array.ext'; simp
      cases fo with
      | func f =>
       simp only [eff] at h
       split at h
       ·rename_i vs hvs
        obtain ⟨fn, F, hf, hfn, hname, hbody⟩ := calF_fn hF h
        refine calF_ok hF h hg hd0 hN hR hd (vals := args.toList.map a.eval) (evs_ok hae hvs) ?_
        rw [e]
        have := en (args.map a.eval) hfn hname hbody
        simp [execOp, resolve, invoke, Deferred.ofValue, Act.eval]
        exact this
       ·cases h
      | tmp t =>
       simp only [eff] at h
       split at h
       ·rename_i f i off vs ht hvs
        obtain ⟨fn, F, hf, hfn, hname, hbody⟩ := calF_fn hF h
        obtain ⟨h0, ad, hA, hv⟩ := hR.fr t _ ht
        refine calF_ok hF h hg hd0 hN hR hd (vals := args.toList.map a.eval ++ [.pointer (some (ad.add off))]) (F2.append (evs_ok hae hvs) (F2.cons ⟨h0, ad, hA, rfl⟩ F2.nil)) ?_
        have e2 : (args.toList.map a.eval ++ [Value.pointer (some (ad.add off))]).toArray = args.map a.eval ++ #[Value.pointer (some (ad.add off))] := by apply Array.ext'; simp
        rw [e2]
        have := en (args.map a.eval ++ #[Value.pointer (some (ad.add off))]) hfn hname hbody
        have hv' : a.eval (.tmp t) = Value.func (.func f) #[] #[Value.pointer (some (ad.add off))] := hv
        simp [execOp, resolve, invoke, Deferred.ofValue, hv']
        exact this
       ·rename_i f x y vs ht hvs
        split at h
        ·rename_i hx hy
         have ex : x = #[] := Array.ext' hx
         have ey : y = #[] := Array.ext' hy
         subst ex; subst ey
         obtain ⟨fn, F, hf, hfn, hname, hbody⟩ := calF_fn hF h
         have hv' : a.eval (.tmp t) = Value.func (.func f) #[] #[] := hR.fr t _ ht
         refine calF_ok hF h hg hd0 hN hR hd (vals := args.toList.map a.eval) (evs_ok hae hvs) ?_
         rw [e]
         have := en (args.map a.eval) hfn hname hbody
         simp [execOp, resolve, invoke, Deferred.ofValue, hv']
         exact this
        ·cases h
       ·cases h
      | _ => simp [eff] at h
     | _ => simp [eff] at h
    | _ => simp [eff] at h
end
end Go.Sx
end
section
namespace Go.Sx
open Go.RowKit Go.Ch
section
variable {P : Program} {T : Tab} {ft : Nat → FT} {ρ : Pls} {w w' : World} {bs : Bs} {w0 : World} {s s' : S} {a : Act} {N : Nat}
def stA1 (T : Tab) (ft : Nat → FT) (N : Nat) (asm : List (Nat × Bool)) (i : Nat) (o : Oper) (s : S) : Option (List Prop × S) := match stp T (ft i) N s o with
 | none => none
 | some (g, s1) => match asm.lookup i with
  | none => some (g, s1)
  | some bv => match o.dst with
   | none => none
   | some d => match s1.fr.lookup d with
    | some (.c (.s (.b e))) => some (g ++ [e = bv], ⟨putF s1.fr (some d) (.c (.s (.b bv))), s1.gl, s1.H⟩)
    | _ => none
def skp (N : Nat) (o : Oper) (s : S) : Option (List Prop × S) := match dOk N o.dst with
 | true => some ([], ⟨putF s.fr o.dst (.t []), s.gl, s.H⟩)
 | false => none
def stG (T : Tab) (ft : Nat → FT) (N : Nat) (ops : Array Oper) (asm : List (Nat × Bool)) (i : Nat) (o : Oper) (s : S) : Option (List Prop × S) := match o.guard with
 | none => stA1 T ft N asm i o s
 | some (j, want) => match (ops[j]?).bind (·.dst) with
  | none => none
  | some dj => match s.fr.lookup dj with
   | some (.c (.s (.b b))) => (match decide (dj < N), b, want with
    | true, true, true => stA1 T ft N asm i o s
    | true, false, false => stA1 T ft N asm i o s
    | true, true, false => skp N o s
    | true, false, true => skp N o s
    | _, _, _ => none)
   | some (.t []) => skp N o s
   | _ => none
def exR (T : Tab) (ft : Nat → FT) (N : Nat) (ops : Array Oper) (asm : List (Nat × Bool)) : Nat → List Oper → S → Option (List Prop × S)
 | _, [], s => some ([], s)
 | i, o :: rest, s => match stG T ft N ops asm i o s with
  | none => none
  | some (g, s1) => match exR T ft N ops asm (i + 1) rest s1 with
   | none => none
   | some (g2, s2) => some (g ++ g2, s2)
theorem FrR.same {fr : Fr} {t : Nat} {x : AV} (h : FrR ρ fr a) (hx : avR ρ x (a.tmps.getD t undef)) : FrR ρ (putF fr (some t) x) a := by
 intro k y hy
 simp only [putF, List.lookup_cons] at hy
 split at hy
 ·rename_i he
  have : k = t := by simpa using he
  subst this
  injection hy with hy; subst hy; exact hx
 ·rename_i he
  refine h k y ?_
  clear h hx
  induction fr with
  | nil => simp at hy
  | cons q fr ih =>
   obtain ⟨k', z⟩ := q
   rw [List.filter_cons] at hy
   split at hy
   ·rw [List.lookup_cons] at hy ⊢
    split
    ·rename_i e; rw [e] at hy; exact hy
    ·rename_i e; rw [e] at hy; exact ih hy
   ·rename_i hne
    have : k' = t := by simpa using hne
    subst this
    rw [List.lookup_cons]
    split
    ·rename_i e; rw [e] at he; cases he
    ·exact ih hy
theorem stA1_ok (hT : TabOk P T) (hF : ∀ i, FtOk P (Kp bs w0) (ft i)) {asm : List (Nat × Bool)} {i : Nat} {o : Oper} {g : List Prop} (h : stA1 T ft N asm i o s = some (g, s')) (hg : allP g) (hR : Rel N bs w0 s a w) :
  o.wp P a w (fun a' w' => Rel N bs w0 s' a' w') (fun _ _ _ => False) := by
 unfold stA1 at h
 split at h
 ·cases h
 ·rename_i g1 s1 h1
  split at h
  ·injection h with h; simp only [Prod.mk.injEq] at h; obtain ⟨rfl, rfl⟩ := h
   exact stp_ok hT (hF i) h1 hg hR
  ·rename_i bv _
   split at h
   ·cases h
   ·rename_i d hd
    split at h
    ·rename_i e he
     injection h with h; simp only [Prod.mk.injEq] at h; obtain ⟨rfl, rfl⟩ := h
     obtain ⟨ga, gb⟩ := allP_append.1 hg
     simp only [allP] at gb
     subst gb
     refine Oper.wp_mono (fun a' w' hr => ?_) (stp_ok hT (hF i) h1 ga hR)
     obtain ⟨r1, r2, ρ', r3⟩ := hr
     exact ⟨r1, r2, ρ', r3.fr.same (r3.fr d _ he), r3.gl, r3.hp, r3.sep, r3.own, r3.kp⟩
    ·cases h
theorem Oper.wp_false {o : Oper} {K : Act → World → Prop} {Q : Exit → Act → World → Prop} (h : o.wp P a w K (fun _ _ _ => False)) : o.wp P a w K Q :=
 wp_mono2 (fun _ _ h => h) h
theorem wanted_b {o : Oper} {ops : Array Oper} {j dj : Nat} {want b : Bool} (hg : o.guard = some (j, want)) (hd : (ops[j]?).bind (·.dst) = some dj) (hb : a.tmps.getD dj undef = .bool b) : Region.wanted o (yielded ops a.tmps) = (b == want) := by
 have h2 : a.tmps[dj]? = some (.bool b) := by
  rw [Array.getD_eq_getD_getElem?] at hb
  cases h : a.tmps[dj]? with
  | none => rw [h] at hb; cases hb
  | some u => rw [h] at hb; exact congrArg some hb
 unfold Region.wanted
 rw [hg]
 simp only [yielded, hd, Option.bind_some, h2]
 cases b <;> cases want <;> rfl
theorem undef_of {ρ : Pls} {v : Value} (h : avR ρ (.t []) v) : v = undef := by
 obtain ⟨vs, hc, rfl⟩ := h
 have := hc.1
 simp at this
 rw [List.eq_nil_of_length_eq_zero this.symm]; rfl
theorem wanted_u {o : Oper} {ops : Array Oper} {j dj : Nat} {want : Bool} (hg : o.guard = some (j, want)) (hd : (ops[j]?).bind (·.dst) = some dj) (hb : a.tmps.getD dj undef = undef) : Region.wanted o (yielded ops a.tmps) = false := by
 unfold Region.wanted
 rw [hg]
 rw [Array.getD_eq_getD_getElem?] at hb
 cases h : a.tmps[dj]? with
 | none => simp only [yielded, hd, Option.bind_some, h]; cases want <;> rfl
 | some u =>
  rw [h] at hb
  have hu : u = undef := hb
  subst hu
  simp only [yielded, hd, Option.bind_some, h]; cases want <;> rfl
theorem stG_ok (hT : TabOk P T) (hF : ∀ i, FtOk P (Kp bs w0) (ft i)) {ops : Array Oper} {asm : List (Nat × Bool)} {i : Nat} {o : Oper} {g : List Prop} (h : stG T ft N ops asm i o s = some (g, s')) (hg : allP g) (hR : Rel N bs w0 s a w)
  {Q : Exit → Act → World → Prop} {K : Act → World → Prop} (hK : ∀ a' w', Rel N bs w0 s' a' w' → K a' w') : 
  if Region.wanted o (yielded ops a.tmps) = true then o.wp P a w K Q ∨ (o.asks P a w ∧ LetsOut Q) else K (a.put o.dst undef) w := by
 have go : stA1 T ft N asm i o s = some (g, s') → o.wp P a w K Q := fun h1 => Oper.wp_false (Oper.wp_mono (fun a' w' hr => hK a' w' hr) (stA1_ok hT hF h1 hg hR))
 unfold stG at h
 split at h
 ·rename_i hgd
  have : Region.wanted o (yielded ops a.tmps) = true := by unfold Region.wanted; rw [hgd]
  rw [if_pos this]
  exact .inl (go h)
 ·rename_i j want hgd
  split at h
  ·cases h
  ·rename_i dj hdj
   split at h
   ·rename_i b hb
    obtain ⟨r1, r2, ρ', r3⟩ := hR
    have hv : a.tmps.getD dj undef = .bool b := r3.fr dj _ hb
    have hw := wanted_b hgd hdj hv
    have skip : skp N o s = some (g, s') → K (a.put o.dst undef) w := fun e => by
     unfold skp at e
     split at e
     ·rename_i hdk
      injection e with e; simp only [Prod.mk.injEq] at e; obtain ⟨rfl, rfl⟩ := e
      exact hK _ _ ⟨by rw [put_defers]; exact r1, by rw [put_size]; exact r2, ρ', r3.put ⟨[], F2.nil, rfl⟩ (dOk_ok hdk r2)⟩
     ·cases e
    split at h
    ·rw [hw]; exact .inl (go h)
    ·rw [hw]; exact .inl (go h)
    ·rw [hw]; exact skip h
    ·rw [hw]; exact skip h
    ·cases h
   ·rename_i hb
    obtain ⟨r1, r2, ρ', r3⟩ := hR
    have hv : avR ρ' (.t []) (a.tmps.getD dj undef) := r3.fr dj _ hb
    rw [wanted_u hgd hdj (undef_of hv)]
    unfold skp at h
    split at h
    ·rename_i hdk
     injection h with h; simp only [Prod.mk.injEq] at h; obtain ⟨rfl, rfl⟩ := h
     exact hK _ _ ⟨by rw [put_defers]; exact r1, by rw [put_size]; exact r2, ρ', r3.put ⟨[], F2.nil, rfl⟩ (dOk_ok hdk r2)⟩
    ·cases h
   ·cases h
theorem exR_ok (hT : TabOk P T) (hF : ∀ i, FtOk P (Kp bs w0) (ft i)) {ops : Array Oper} {asm : List (Nat × Bool)} {Q : Exit → Act → World → Prop} (l : List Oper) : ∀ (i : Nat) (g : List Prop) (s : S) (a : Act) (w : World), exR T ft N ops asm i l s = some (g, s') → allP g → Rel N bs w0 s a w →
  (∀ a' w', Rel N bs w0 s' a' w' → Q .normal a' w') → wpList P ops Q l a w := by
 induction l with
 | nil =>
  intro i g s a w h hg hR hQ
  injection h with h; simp only [Prod.mk.injEq] at h; obtain ⟨rfl, rfl⟩ := h
  exact hQ a w hR
 | cons o rest ih =>
  intro i g s a w h hg hR hQ
  simp only [exR] at h
  split at h
  ·cases h
  ·rename_i g1 s1 h1
   split at h
   ·cases h
   ·rename_i g2 s2 h2
    injection h with h; simp only [Prod.mk.injEq] at h; obtain ⟨rfl, rfl⟩ := h
    obtain ⟨ga, gb⟩ := allP_append.1 hg
    exact stG_ok hT hF h1 ga hR (fun a' w' hr => ih (i + 1) g2 s1 a' w' h2 gb hr hQ)
inductive Co where
 | nil (t : Nat) (e : TypeId) (sz : Nat) (cs : Cs)
 | vw (t : Nat) (b : Bool)
 | er (t : Nat) (tid : TypeId) (kd : IntKind)
 | emp (t : Nat) (e : TypeId) (sz : Nat) (cs : Cs) (b : Bool)
 | ty (i : Nat)
 | sb (t : Nat)
 | ns (t i : Nat)
 | nlc (i k : Nat) (e : TypeId) (sz : Nat) (cs : Cs) (b : Option Bool)
 | cut (i k : Nat)
def bL : List Cl → Option (List UInt8)
 | [] => some []
 | .s (.u8 x) :: l => (match bL l with | some r => some (x :: r) | none => none)
 | _ => none
def wL : List Cl → Option (List UInt32)
 | [] => some []
 | .s (.u32 x) :: l => (match wL l with | some r => some (x :: r) | none => none)
 | _ => none
def qL : List Cl → Option (List UInt64)
 | [] => some []
 | .s (.u64 x) :: l => (match qL l with | some r => some (x :: r) | none => none)
 | _ => none
theorem F2.uncons {α β : Type} {R : α → β → Prop} {x : α} {xs : List α} {ys : List β} (h : F2 R (x :: xs) ys) : ∃ y ys', ys = y :: ys' ∧ R x y ∧ F2 R xs ys' := by
 cases ys with
 | nil => exact absurd h.1 (by simp)
 | cons y ys => exact ⟨y, ys, rfl, h.2 0 x y rfl rfl, by have := h.1; simpa using this, fun j a b ha hb => h.2 (j + 1) a b (by simpa using ha) (by simpa using hb)⟩
theorem F2.unnil {α β : Type} {R : α → β → Prop} {ys : List β} (h : F2 R ([] : List α) ys) : ys = [] := by
 have := h.1; simp at this; exact List.eq_nil_of_length_eq_zero this.symm
theorem bL_ok : ∀ {l : List Cl} {l' : List UInt8}, bL l = some l' → ∀ {vs : List Value}, F2 (clR ρ) l vs → vs = l'.map bU
 | [], l', h, vs, hv => by injection h with h; subst h; exact hv.unnil
 | c :: l, l', h, vs, hv => by
  unfold bL at h
  split at h
  ·rename_i e; cases e
  ·rename_i x l2 e
   injection e with e1 e2; subst e1; subst e2
   split at h
   ·rename_i r hr; injection h with h; subst h
    obtain ⟨y, ys, rfl, h1, h2⟩ := hv.uncons
    rw [bL_ok hr h2, show y = bU x from h1]; rfl
   ·cases h
  ·cases h
theorem wL_ok : ∀ {l : List Cl} {l' : List UInt32}, wL l = some l' → ∀ {vs : List Value}, F2 (clR ρ) l vs → vs = l'.map w32
 | [], l', h, vs, hv => by injection h with h; subst h; exact hv.unnil
 | c :: l, l', h, vs, hv => by
  unfold wL at h
  split at h
  ·rename_i e; cases e
  ·rename_i x l2 e
   injection e with e1 e2; subst e1; subst e2
   split at h
   ·rename_i r hr; injection h with h; subst h
    obtain ⟨y, ys, rfl, h1, h2⟩ := hv.uncons
    rw [wL_ok hr h2, show y = w32 x from h1]; rfl
   ·cases h
  ·cases h
theorem qL_ok : ∀ {l : List Cl} {l' : List UInt64}, qL l = some l' → ∀ {vs : List Value}, F2 (clR ρ) l vs → vs = l'.map w64
 | [], l', h, vs, hv => by injection h with h; subst h; exact hv.unnil
 | c :: l, l', h, vs, hv => by
  unfold qL at h
  split at h
  ·rename_i e; cases e
  ·rename_i x l2 e
   injection e with e1 e2; subst e1; subst e2
   split at h
   ·rename_i r hr; injection h with h; subst h
    obtain ⟨y, ys, rfl, h1, h2⟩ := hv.uncons
    rw [qL_ok hr h2, show y = w64 x from h1]; rfl
   ·cases h
  ·cases h
def tyX : Cs → Option Cs
 | .c (.s (.u8 x) :: l) => (match bL (.s (.u8 x) :: l) with | some r => some (.b r) | none => none)
 | .c (.s (.u32 x) :: l) => (match wL (.s (.u32 x) :: l) with | some r => some (.w r) | none => none)
 | .c (.s (.u64 x) :: l) => (match qL (.s (.u64 x) :: l) with | some r => some (.q r) | none => none)
 | _ => none
theorem tyX_ok {cs cs' : Cs} (h : tyX cs = some cs') {vs : List Value} (hv : csR ρ cs vs) : csR ρ cs' vs := by
 unfold tyX at h
 split at h
 ·split at h
  ·rename_i r hr; injection h with h; subst h; exact csR_b.2 (bL_ok hr hv)
  ·cases h
 ·split at h
  ·rename_i r hr; injection h with h; subst h; exact csR_w.2 (wL_ok hr hv)
  ·cases h
 ·split at h
  ·rename_i r hr; injection h with h; subst h; exact csR_q.2 (qL_ok hr hv)
  ·cases h
 ·cases h
theorem objR_ty {p : Pl} {o : Oj} {cs : Cs} (h : tyX o.cs = some cs) (hr : objR ρ w p o) : objR ρ w p { o with cs := cs } := by
 have hl : ∀ vs, csR ρ o.cs vs → cs.cl.length = o.cs.cl.length := fun vs hv => by rw [← (tyX_ok h hv).len, hv.len]
 unfold objR at hr ⊢
 cases hk : o.kd with
 | dead => exact True.intro
 | ro fs => simp only [hk] at hr ⊢; obtain ⟨⟨e1, e2, e3⟩, g1, vs, hc, hA⟩ := hr; exact ⟨⟨e1, e2, by rw [hl vs hc]; exact e3⟩, g1, vs, tyX_ok h hc, hA⟩
 | row => simp only [hk] at hr ⊢; obtain ⟨⟨e1, e2, e3⟩, vs, hc, hA⟩ := hr; exact ⟨⟨e1, e2, by rw [hl vs hc]; exact e3⟩, vs, tyX_ok h hc, hA⟩
 | blk => simp only [hk] at hr ⊢; obtain ⟨⟨e1, e2, e3⟩, b, vs, hA, hc, hB⟩ := hr; exact ⟨⟨e1, e2, by rw [hl vs hc]; exact e3⟩, b, vs, hA, tyX_ok h hc, hB⟩
 | dp fs =>
  simp only [hk] at hr
  unfold DpR at hr
  split at hr
  ·rename_i hc; rw [hc] at h; cases h
  ·exact hr.elim
 | gs fs =>
  simp only [hk] at hr
  unfold GsR at hr
  have hr := hr.2
  split at hr
  ·rename_i hc; rw [hc] at h; cases h
  ·exact hr.elim
 | og =>
  simp only [hk] at hr
  unfold OgR at hr
  have hr := hr.2
  split at hr
  ·rename_i hc; rw [hc] at h; cases h
  ·exact hr.elim
 | od =>
  simp only [hk] at hr
  unfold OdR at hr
  split at hr
  ·rename_i hc; rw [hc] at h; cases h
  ·exact hr.elim
def emptyX : Cs → Bool
 | .b l => l.isEmpty
 | .w l => l.isEmpty
 | .q l => l.isEmpty
 | .z l => l.isEmpty
 | .c l => l.isEmpty
 | _ => false
theorem emptyX_ok {cs : Cs} (h : emptyX cs = true) : cs.cl = [] := by
 cases cs <;> simp only [emptyX, List.isEmpty_iff, Bool.false_eq_true] at h <;> subst h <;> rfl
theorem fsh_ro (b : Bool) (e : TypeId) (sz n : Nat) (cs : Cs) : (Oj.mk (.ro b) e sz n cs).fsh = b := by cases b <;> rfl
def nlO (b : Option Bool) (e : TypeId) (sz : Nat) (cs : Cs) : Oj := match b with
 | none => ⟨.row, e, sz, 0, cs⟩
 | some b => ⟨.ro b, e, sz, 0, cs⟩
def cutO (o : Oj) (n : Nat) : Option Oj := match o.cs with
 | .z l => (match o.sz with | 1 => some ⟨.row, o.e, 1, (l.take n).length, .z (l.take n)⟩ | _ => none)
 | .b l => (match o.sz with | 1 => some ⟨.row, o.e, 1, (l.take n).length, .b (l.take n)⟩ | _ => none)
 | .c l => some ⟨.row, o.e, o.sz, n, .c (l.take (n * o.sz))⟩
 | _ => none
def co1 (c : Co) (s : S) : Option S := match c with
 | .nlc i k e sz cs b => (match s.H[i]?, okS s, emptyX cs with
  | some o, true, true => (match o.cs with
   | .c l => (match l[k]? with
    | some .nils => some ⟨s.fr, s.gl, (s.H ++ [nlO b e sz cs]).set i { o with cs := .c (l.set k (.wh s.H.length)) }⟩
    | _ => none)
   | _ => none)
  | _, _, _ => none)
 | .cut i k => (match live s.H i, okS s with
  | some o, true => (match o.cs with
   | .c l => (match l[k]? with
    | some (.pre j n) => (match s.H[j]? with
     | some oj => (match oj.kd, cutO oj n, decide (i ≠ j) with
      | .row, some oc, true => some ⟨s.fr, s.gl, (killH s.H j ++ [oc]).set i { o with cs := .c (l.set k (.wh s.H.length)) }⟩
      | _, _, _ => none)
     | none => none)
    | _ => none)
   | _ => none)
  | _, _ => none)
 | .nil t e sz cs => (match s.fr.lookup t, okS s, emptyX cs with
  | some (.c .nils), true, true => some ⟨putF s.fr (some t) (.c (.wh s.H.length)), s.gl, s.H ++ [⟨.row, e, sz, 0, cs⟩]⟩
  | _, _, _ => none)
 | .sb t => (match s.fr.lookup t with
  | some (.c (.wh i)) => (match liveS s.H i with | some o => some ⟨putF s.fr (some t) (.c (.sl i 0 o.n)), s.gl, s.H⟩ | none => none)
  | _ => none)
 | .ns t i => (match s.fr.lookup t with
  | some (.c .nils) => some ⟨putF s.fr (some t) (.c (.sl i 0 0)), s.gl, s.H⟩
  | _ => none)
 | .ty i => (match s.H[i]? with
  | some o => (match tyX o.cs with | some cs => some ⟨s.fr, s.gl, s.H.set i { o with cs := cs }⟩ | none => none)
  | none => none)
 | .er t tid kd => (match s.fr.lookup t with
  | some (.c (.s (.v v))) => (match v with | .nilIface => some ⟨putF s.fr (some t) (.c (.s (.er tid kd none))), s.gl, s.H⟩ | _ => none)
  | _ => none)
 | .emp t e sz cs b => (match s.fr.lookup t, okS s, emptyX cs with
  | some (.c .nils), true, true => some ⟨putF s.fr (some t) (.c (.wh s.H.length)), s.gl, s.H ++ [⟨.ro b, e, sz, 0, cs⟩]⟩
  | _, _, _ => none)
 | .vw t b => (match s.fr.lookup t, okS s with
  | some (.c (.wh i)), true => (match liveR s.H i with
   | some o => (match ltX s.H.length o.cs with
    | true => some ⟨putF s.fr (some t) (.c (.wh s.H.length)), s.gl, killO [i] s.H ++ [⟨.ro (b && o.fsh), o.e, o.sz, o.n, o.cs⟩]⟩
    | false => none)
   | none => none)
  | some (.c (.sl i lo n)), true => (match liveR s.H i with
   | some o => (match ltX s.H.length (o.cs.part (mulS lo o.sz) (mulS n o.sz)) with
    | true => some ⟨putF s.fr (some t) (.c (.wh s.H.length)), s.gl, killO [i] s.H ++ [⟨.ro (b && o.fsh), o.e, o.sz, n, o.cs.part (mulS lo o.sz) (mulS n o.sz)⟩]⟩
    | false => none)
   | none => none)
  | _, _ => none)
def coS : List Co → S → Option S
 | [], s => some s
 | c :: cs, s => match co1 c s with | some s' => coS cs s' | none => none
theorem co_view (hs : okS s = true) (r3 : RelA ρ bs w0 s a w) {t i lo n sz : Nat} {e : TypeId} {cs : Cs} {b : Bool} {o : Oj} (h1 : s.H[i]? = some o) (h2 : (∃ b, o.kd = .ro b) ∨ o.kd = .row) (hlt : ltX s.H.length cs = true) (hsz : sz = o.sz)
  {A : Option Addr} {c : Nat} (hvA : a.tmps.getD t undef = .slice A n c) (k1 : n ≤ c) (k2 : c ≤ maxLen) (k3 : A = none → c = 0) {vs : List Value} (hcs : csR ρ cs vs) (hvl : vs.length = n * sz) (k4 : At w A vs) (hle : lo + n ≤ o.n)
  (e1 : (ρ i).sz = o.sz) (e2 : (ρ i).n = o.n) (hA : 0 < n → A = (ρ i).A.map (·.add (lo * o.sz))) :
  ∃ ρ', RelA ρ' bs w0 ⟨putF s.fr (some t) (.c (.wh s.H.length)), s.gl, killO [i] s.H ++ [⟨.ro (b && o.fsh), e, sz, n, cs⟩]⟩ a w := by
 subst hsz
 have hat0 : ∀ (x : Oj) (g : Nat) (b : Bool), x.kd = .ro b → objAt (pl4 A n c o.sz) x g → objAt (ρ i) o g := by
  intro x g b hxk hat
  unfold objAt at hat
  simp only [hxk] at hat
  obtain ⟨hne, ad, had, rfl⟩ := hat
  have hn0 : 0 < n := by
   rcases Nat.eq_zero_or_pos n with h0 | h0
   ·rw [h0] at hne; simp at hne
   ·exact h0
  have hsz0 : o.sz ≠ 0 := by intro e; rw [e] at hne; simp at hne
  have hA' := hA hn0
  rw [hA'] at had
  cases hp : (ρ i).A with
  | none => rw [hp] at had; cases had
  | some a0 =>
   rw [hp] at had; injection had with had; subst had
   rw [block_add]
   rcases h2 with ⟨b, hk⟩ | hk
   ·unfold objAt; simp only [hk]
    refine ⟨?_, a0, hp, rfl⟩
    rw [e1, e2]
    have : 0 < o.n := by omega
    exact Nat.ne_of_gt (Nat.mul_pos this (by omega))
   ·unfold objAt; simp only [hk]; exact ⟨a0, hp, rfl⟩
 refine ⟨upd ρ s.H.length (pl4 A n c o.sz), r3.new hs hlt (killO_len [i] s.H) (fun j x hx => ?_) r3.kp (show objR ρ w (pl4 A n c o.sz) ⟨.ro (b && o.fsh), e, o.sz, n, cs⟩ from ⟨⟨rfl, rfl, by rw [← hcs.len]; exact hvl⟩, ⟨k1, k2, k3⟩, _, hcs, k4⟩) (fun _ j x g hx hxk hat hor hat2 => ?_) (fun hfs g hat => ?_) _ _ ?_⟩
 ·rcases killO_at hx with hd | ⟨hx1, _⟩
  ·exact .inl hd
  ·exact .inr ⟨hx1, r3.hp j x hx1⟩
 ·rcases killO_at hx with hd | ⟨hx1, hx2⟩
  ·exact hxk hd
  ·have hxo : x.own = true := by
    rcases hor with h3 | h3
    ·exact h3
    ·unfold Oj.own at h3; cases h3
   have hji : j ≠ i := fun e => hx2 hxo (by simp [e])
   exact r3.sep j i x o g hji hx1 h1 hxo hat2 (hat0 _ g _ rfl hat)
 ·have hof : o.fsh = true := by rw [fsh_ro] at hfs; simp only [Bool.and_eq_true] at hfs; exact hfs.2
  exact own3 (r3.own i o g h1 hof (hat0 _ g _ rfl hat)) rfl
 ·refine FrR.same (fun t x hx => ltA_ok upd_lt (ltF_ok (okS_ok hs).1 t x hx) (r3.fr t x hx)) ?_
  show clR _ (.wh _) _
  simp only [clR, upd_at]
  exact hvA
theorem objR_cl {p : Pl} {o : Oj} {cs : Cs} (hc : ∀ vs, csR ρ o.cs vs → csR ρ cs vs) (hl : cs.cl.length = o.cs.cl.length) (hkd : o.deep = false) (hr : objR ρ w p o) : objR ρ w p { o with cs := cs } := by
 unfold objR at hr ⊢
 cases hk : o.kd with
 | dead => exact True.intro
 | ro fs => simp only [hk] at hr ⊢; obtain ⟨⟨e1, e2, e3⟩, g1, vs, h, hA⟩ := hr; exact ⟨⟨e1, e2, by rw [hl]; exact e3⟩, g1, vs, hc vs h, hA⟩
 | row => simp only [hk] at hr ⊢; obtain ⟨⟨e1, e2, e3⟩, vs, h, hA⟩ := hr; exact ⟨⟨e1, e2, by rw [hl]; exact e3⟩, vs, hc vs h, hA⟩
 | blk => simp only [hk] at hr ⊢; obtain ⟨⟨e1, e2, e3⟩, b, vs, hA, h, hB⟩ := hr; exact ⟨⟨e1, e2, by rw [hl]; exact e3⟩, b, vs, hA, hc vs h, hB⟩
 | dp fs => unfold Oj.deep at hkd; rw [hk] at hkd; cases hkd
 | gs fs => unfold Oj.deep at hkd; rw [hk] at hkd; cases hkd
 | od => unfold Oj.deep at hkd; rw [hk] at hkd; cases hkd
 | og => unfold Oj.deep at hkd; rw [hk] at hkd; cases hkd
theorem RelA.recs (r3 : RelA ρ bs w0 s a w) {i : Nat} {o : Oj} {cs : Cs} (ho : s.H[i]? = some o) (hc : ∀ vs, csR ρ o.cs vs → csR ρ cs vs) (hl : cs.cl.length = o.cs.cl.length) (hkd : o.deep = false) : RelA ρ bs w0 ⟨s.fr, s.gl, s.H.set i { o with cs := cs }⟩ a w := by
 have at_ : ∀ (j : Nat) (x : Oj), (s.H.set i { o with cs := cs })[j]? = some x → ∃ y, s.H[j]? = some y ∧ (x = y ∨ (j = i ∧ y = o ∧ x = { o with cs := cs })) := by
  intro j x hx
  rw [List.getElem?_set] at hx
  split at hx
  ·rename_i e
   subst e
   split at hx
   ·injection hx with hx; exact ⟨o, ho, .inr ⟨rfl, rfl, hx.symm⟩⟩
   ·cases hx
  ·exact ⟨x, hx, .inl rfl⟩
 refine ⟨r3.fr, r3.gl, fun j x hx => ?_, fun j k x y g hjk hx hy hox hat hat2 => ?_, fun j x g hx hox hat => ?_, r3.kp⟩
 ·obtain ⟨y, hy, rfl | ⟨rfl, rfl, rfl⟩⟩ := at_ j x hx
  ·exact r3.hp j x hy
  ·exact objR_cl hc hl hkd (r3.hp j y hy)
 ·obtain ⟨x', hx', ex⟩ := at_ j x hx
  obtain ⟨y', hy', ey⟩ := at_ k y hy
  refine r3.sep j k x' y' g hjk hx' hy' ?_ ?_ ?_
  ·rcases ex with rfl | ⟨_, rfl, rfl⟩ <;> exact hox
  ·rcases ex with rfl | ⟨_, rfl, rfl⟩ <;> exact hat
  ·rcases ey with rfl | ⟨_, rfl, rfl⟩ <;> exact hat2
 ·obtain ⟨x', hx', ex⟩ := at_ j x hx
  rcases ex with rfl | ⟨_, rfl, rfl⟩
  ·exact r3.own j _ g hx' hox hat
  ·exact r3.own j x' g hx' hox hat
theorem RelA.empty (r3 : RelA ρ bs w0 s a w) (hs : okS s = true) {b : Option Bool} {e : TypeId} {sz : Nat} {cs : Cs} (hc : emptyX cs = true) :
  RelA (upd ρ s.H.length (pl4 none 0 0 sz)) bs w0 ⟨s.fr, s.gl, s.H ++ [nlO b e sz cs]⟩ a w := by
 have hemp := emptyX_ok hc
 have hlt : ltX s.H.length (nlO b e sz cs).cs = true := by
  have e1 : (nlO b e sz cs).cs = cs := by cases b <;> rfl
  rw [e1]; cases cs <;> simp [emptyX] at hc <;> subst hc <;> rfl
 refine r3.new hs hlt rfl (fun j x hx => .inr ⟨hx, r3.hp j x hx⟩) r3.kp ?_ (fun _ j x g _ _ hat _ => ?_) (fun _ g hat => ?_) _ _ (fun t x hx => ltA_ok upd_lt (ltF_ok (okS_ok hs).1 t x hx) (r3.fr t x hx))
 ·cases b with
  | none => exact ⟨⟨rfl, rfl, by show cs.cl.length = 0 * sz; rw [hemp]; simp⟩, [], by unfold csR; show F2 _ cs.cl _; rw [hemp]; exact F2.nil, World.ownsRow_nil w 0 e sz⟩
  | some b => exact ⟨⟨rfl, rfl, by show cs.cl.length = 0 * sz; rw [hemp]; simp⟩, ⟨Nat.le_refl _, by simp [maxLen], fun _ => rfl⟩, [], by unfold csR; show F2 _ cs.cl _; rw [hemp]; exact F2.nil, fun ad had => by cases had⟩
 ·cases b with
  | none => obtain ⟨ad, had, _⟩ := hat; cases had
  | some b => obtain ⟨_, ad, had, _⟩ := hat; cases had
 ·cases b with
  | none => obtain ⟨ad, had, _⟩ := hat; cases had
  | some b => obtain ⟨_, ad, had, _⟩ := hat; cases had
abbrev plN (p : Pl) (n : Nat) : Pl := ⟨p.A, n, p.cap, p.sz, p.foot, p.gv⟩
theorem cutO_ok {o oc : Oj} {n : Nat} (h : cutO o n = some oc) (hn : n ≤ o.n) (hl : o.cs.cl.length = o.n * o.sz) : oc.kd = .row ∧ oc.e = o.e ∧ oc.sz = o.sz ∧ oc.n = n ∧ oc.cs.cl.length = n * o.sz ∧ (∀ m, ltX m o.cs = true → ltX m oc.cs = true) ∧ ∀ (ρ : Pls) (vs : List Value), csR ρ o.cs vs → csR ρ oc.cs (vs.take (n * o.sz)) := by
 have hle : n * o.sz ≤ o.n * o.sz := Nat.mul_le_mul_right _ hn
 unfold cutO at h
 split at h
 ·rename_i l hz
  split at h
  ·rename_i h1
   injection h with h; subst h
   rw [hz, h1] at hl
   have hll : l.length = o.n := by simpa [Cs.cl] using hl
   have hlt : (l.take n).length = n := by rw [List.length_take]; omega
   refine ⟨rfl, rfl, h1.symm, hlt, by rw [h1]; show ((l.take n).map _).length = n * 1; rw [List.length_map, hlt, Nat.mul_one], fun _ _ => rfl, fun ρ vs hv => ?_⟩
   rw [hz] at hv
   obtain rfl := csR_z.1 hv
   refine csR_z.2 ?_
   rw [h1, Nat.mul_one, List.map_take]
  ·cases h
 ·rename_i l hz
  split at h
  ·rename_i h1
   injection h with h; subst h
   rw [hz, h1] at hl
   have hll : l.length = o.n := by simpa [Cs.cl] using hl
   have hlt : (l.take n).length = n := by rw [List.length_take]; omega
   refine ⟨rfl, rfl, h1.symm, hlt, by rw [h1]; show ((l.take n).map _).length = n * 1; rw [List.length_map, hlt, Nat.mul_one], fun _ _ => rfl, fun ρ vs hv => ?_⟩
   rw [hz] at hv
   obtain rfl := csR_b.1 hv
   refine csR_b.2 ?_
   rw [h1, Nat.mul_one, List.map_take]
  ·cases h
 ·rename_i l hc
  injection h with h; subst h
  rw [hc] at hl
  have hll : l.length = o.n * o.sz := hl
  refine ⟨rfl, rfl, rfl, rfl, by show (l.take (n * o.sz)).length = _; rw [List.length_take]; omega, fun m hm => ?_, fun ρ vs hv => ?_⟩
  ·rw [hc] at hm
   have hm' : ltL m l = true := hm
   show ltL m (l.take (n * o.sz)) = true
   have key : ∀ (l : List Cl), (∀ c ∈ l, ltC m c = true) → ltL m l = true := fun l => by
    induction l with
    | nil => intro _; rfl
    | cons c l ih => intro hc; simp only [ltL, Bool.and_eq_true]; exact ⟨hc c (by simp), ih fun c h => hc c (by simp [h])⟩
   exact key _ fun c hc => ltL_ok (ρ := fun _ => pl4 none 0 0 0) (ρ' := fun _ => pl4 none 0 0 0) (fun _ _ => rfl) hm' c (List.mem_of_mem_take hc)
  ·rw [hc] at hv
   exact F2.take hv _
 ·cases h
theorem RelA.cutRow (r3 : RelA ρ bs w0 s a w) (hs : okS s = true) {j n : Nat} {o oc : Oj} (ho : s.H[j]? = some o) (hk : o.kd = .row) (hz : cutO o n = some oc) (hn : n ≤ o.n) :
  RelA (upd ρ s.H.length (plN (ρ j) n)) bs w0 ⟨s.fr, s.gl, killH s.H j ++ [oc]⟩ a w := by
 have hr := r3.hp j o ho
 have hlx := ltH_ok (okS_ok hs).2.2 j o ho (by rw [hk]; simp)
 obtain ⟨c1, c2, c3, c4, c5, c6, c7⟩ := cutO_ok hz hn (hr.read (by rw [hk]; simp)).1.2.2
 have hat : ∀ g, objAt (plN (ρ j) n) oc g → objAt (ρ j) o g := fun g h => by
  unfold objAt at h ⊢
  simp only [c1] at h
  simp only [hk]
  exact h
 have hown : o.own = true := by unfold Oj.own; rw [hk]
 refine r3.new hs (c6 _ hlx) (killH_len s.H j) (fun i x hx => ?_) r3.kp ?_ (fun _ i x g hx hxk hg _ hg2 => ?_) (fun _ g hg => two3 (r3.own.o ho hown (hat g hg))) _ _ (fun t x hx => ltA_ok upd_lt (ltF_ok (okS_ok hs).1 t x hx) (r3.fr t x hx))
 ·rcases killH_at hx with hd | ⟨_, h1⟩
  ·exact .inl hd
  ·exact .inr ⟨h1, r3.hp i x h1⟩
 ·unfold objR at hr ⊢
  simp only [hk] at hr
  simp only [c1]
  obtain ⟨⟨e1, e2, e3⟩, vs, hc, hrow⟩ := hr
  have hle : n * o.sz ≤ o.n * o.sz := Nat.mul_le_mul_right _ hn
  have hvl : vs.length = o.n * o.sz := by rw [hc.len, e3]
  refine ⟨⟨e1.trans c3.symm, c4.symm, by rw [c5, c4, c3]⟩, vs.take (n * o.sz), c7 ρ vs hc, ?_, ?_⟩
  ·show (vs.take (n * o.sz)).length = n * oc.sz
   rw [List.length_take, c3]; omega
  ·show ((Value.slice (ρ j).A n (ρ j).cap = .slice none 0 0 ∧ n = 0) ∨ _)
   rcases hrow.2 with ⟨hv, h0⟩ | ⟨g, cap, cur, hv, hb, hg, hnc, hcm, hsz, htk⟩
   ·injection hv with a1 a2 a3
    have : n = 0 := by omega
    subst this
    exact .inl ⟨by rw [a1, a3], rfl⟩
   ·injection hv with a1 a2 a3
    refine .inr ⟨g, cap, cur, by rw [a1, a3], hb, by rw [c2]; exact hg, ?_, hcm, by rw [c3]; exact hsz, ?_⟩
    ·show n ≤ cap; omega
    ·show cur.toList.take (n * oc.sz) = _
     rw [← htk, List.take_take, e2, c3, Nat.min_eq_left hle]
 ·rcases killH_at hx with hd | ⟨hij, h1⟩
  ·exact hxk hd
  ·exact r3.sep j i o x g (fun e => hij e.symm) ho h1 hown (hat g hg) hg2
theorem co1_ok {c : Co} (h : co1 c s = some s') (hR : Rel N bs w0 s a w) : Rel N bs w0 s' a w := by
 obtain ⟨r1, r2, ρ, r3⟩ := hR
 refine ⟨r1, r2, ?_⟩
 cases c with
 | nlc i k e sz cs b =>
  simp only [co1] at h
  split at h
  ·rename_i o ho hs hc
   split at h
   ·rename_i l hl
    split at h
    ·rename_i hk
     injection h with h; subst h
     have hlt : i < s.H.length := (List.getElem?_eq_some_iff.1 ho).1
     refine ⟨_, (r3.empty hs (b := b) (e := e) (sz := sz) hc).recs (by show (s.H ++ [nlO b e sz cs])[i]? = some o; rw [List.getElem?_append_left hlt]; exact ho) (fun vs hvs => ?_) ?_ (not_dp (r3.hp i o ho) hl)⟩
     ·rw [hl] at hvs
      have hvs' : F2 (clR (upd ρ s.H.length (pl4 none 0 0 sz))) l vs := hvs
      show F2 (clR (upd ρ s.H.length (pl4 none 0 0 sz))) (l.set k (.wh s.H.length)) vs
      refine ⟨by rw [List.length_set]; exact hvs'.1, fun j x y hx hy => ?_⟩
      rw [List.getElem?_set] at hx
      split at hx
      ·rename_i e2
       subst e2
       split at hx
       ·injection hx with hx; subst hx
        have := hvs'.2 k _ y hk hy
        show y = _
        rw [upd_at]; exact this
       ·cases hx
      ·exact hvs'.2 j x y hx hy
     ·rw [hl]; show (l.set k _).length = l.length; rw [List.length_set]
    ·cases h
   ·cases h
  ·cases h
 | cut i k =>
  simp only [co1] at h
  split at h
  ·rename_i o ho0 hs
   obtain ⟨ho, hok⟩ := live_ok ho0
   split at h
   ·rename_i l hl
    split at h
    ·rename_i j n hk
     split at h
     ·rename_i oj hoj
      split at h
      ·rename_i oc hkd hlz hd
       simp only [decide_eq_true_eq] at hd
       injection h with h; subst h
       have hlt : i < s.H.length := (List.getElem?_eq_some_iff.1 ho).1
       have hn : n ≤ oj.n := by
        obtain ⟨_, vs, hc, _⟩ := (r3.hp i o ho).read hok
        rw [hl] at hc
        obtain ⟨v, _, hv⟩ := F2.at (show F2 (clR ρ) l vs from hc) hk
        have e2 := ((r3.hp j oj hoj).read (by rw [hkd]; simp)).1.2.1
        have := hv.1
        omega
       have hki : (killH s.H j)[i]? = some o := by
        unfold killH
        rw [hoj]
        show (s.H.set j _)[i]? = _
        rw [List.getElem?_set_ne (fun e => hd e.symm)]; exact ho
       refine ⟨_, (r3.cutRow hs hoj hkd hlz hn).recs (by show (killH s.H j ++ [oc])[i]? = some o; rw [List.getElem?_append_left (by rw [killH_len]; exact hlt)]; exact hki) (fun vs hvs => ?_) ?_ (not_dp (r3.hp i o ho) hl)⟩
       ·rw [hl] at hvs
        have hvs' : F2 (clR (upd ρ s.H.length (plN (ρ j) n))) l vs := hvs
        show F2 (clR (upd ρ s.H.length (plN (ρ j) n))) (l.set k (.wh s.H.length)) vs
        refine ⟨by rw [List.length_set]; exact hvs'.1, fun q x y hx hy => ?_⟩
        rw [List.getElem?_set] at hx
        split at hx
        ·rename_i e2
         subst e2
         split at hx
         ·injection hx with hx; subst hx
          obtain ⟨_, h2⟩ := hvs'.2 k _ y hk hy
          show y = _
          rw [upd_at]
          rw [upd_lt j (List.getElem?_eq_some_iff.1 hoj).1] at h2
          exact h2
         ·cases hx
        ·exact hvs'.2 q x y hx hy
       ·rw [hl]; show (l.set k _).length = l.length; rw [List.length_set]
      ·cases h
     ·cases h
    ·cases h
   ·cases h
  ·cases h
 | sb t =>
  simp only [co1] at h
  split at h
  ·rename_i i ht
   split at h
   ·rename_i o hl
    injection h with h; subst h
    have hv : a.tmps.getD t undef = .slice (ρ i).A (ρ i).n (ρ i).cap := r3.fr t _ ht
    obtain ⟨h1, h2⟩ := liveS_ok hl
    obtain ⟨⟨e1, e2, e3⟩, _⟩ := (r3.hp i o h1).read (nd h2)
    obtain ⟨g1, g2, g3⟩ := (r3.hp i o h1).slc h2
    refine ⟨ρ, r3.fr.same ?_, r3.gl, r3.hp, r3.sep, r3.own, r3.kp⟩
    show clR ρ (.sl i 0 o.n) _
    refine ⟨by omega, (ρ i).A, (ρ i).cap, by rw [← e2]; exact hv, by omega, g2, g3, fun _ => ?_⟩
    rw [Nat.zero_mul]
    cases (ρ i).A with
    | none => rfl
    | some ad => simp [Addr.add]
   ·cases h
  ·cases h
 | ns t i =>
  simp only [co1] at h
  split at h
  ·rename_i ht
   injection h with h; subst h
   have hv : a.tmps.getD t undef = .slice none 0 0 := r3.fr t _ ht
   refine ⟨ρ, r3.fr.same ?_, r3.gl, r3.hp, r3.sep, r3.own, r3.kp⟩
   show clR ρ (.sl i 0 0) _
   exact ⟨by omega, none, 0, hv, Nat.le_refl _, by simp [maxLen], fun _ => rfl, fun h => absurd h (by omega)⟩
  ·cases h
 | ty i =>
  simp only [co1] at h
  split at h
  ·rename_i o ho
   split at h
   ·rename_i cs hcs
    injection h with h; subst h
    have at_ : ∀ (j : Nat) (x : Oj), (s.H.set i { o with cs := cs })[j]? = some x → ∃ y, s.H[j]? = some y ∧ (x = y ∨ (j = i ∧ y = o ∧ x = { o with cs := cs })) := by
     intro j x hx
     rw [List.getElem?_set] at hx
     split at hx
     ·rename_i e
      subst e
      split at hx
      ·injection hx with hx; exact ⟨o, ho, .inr ⟨rfl, rfl, hx.symm⟩⟩
      ·cases hx
     ·exact ⟨x, hx, .inl rfl⟩
    refine ⟨ρ, r3.fr, r3.gl, fun j x hx => ?_, fun j k x y g hjk hx hy hox hat hat2 => ?_, fun j x g hx hox hat => ?_, r3.kp⟩
    ·obtain ⟨y, hy, rfl | ⟨rfl, rfl, rfl⟩⟩ := at_ j x hx
     ·exact r3.hp j x hy
     ·exact objR_ty hcs (r3.hp j y hy)
    ·obtain ⟨x', hx', ex⟩ := at_ j x hx
     obtain ⟨y', hy', ey⟩ := at_ k y hy
     refine r3.sep j k x' y' g hjk hx' hy' ?_ ?_ ?_
     ·rcases ex with rfl | ⟨_, rfl, rfl⟩ <;> exact hox
     ·rcases ex with rfl | ⟨_, rfl, rfl⟩ <;> exact hat
     ·rcases ey with rfl | ⟨_, rfl, rfl⟩ <;> exact hat2
    ·obtain ⟨x', hx', ex⟩ := at_ j x hx
     rcases ex with rfl | ⟨_, rfl, rfl⟩
     ·exact r3.own j _ g hx' hox hat
     ·exact r3.own j x' g hx' hox hat
   ·cases h
  ·cases h
 | er t tid kd =>
  simp only [co1] at h
  split at h
  ·rename_i v ht
   split at h
   ·injection h with h; subst h
    have hv : a.tmps.getD t undef = .nilIface := r3.fr t _ ht
    exact ⟨ρ, r3.fr.same (show _ = _ from hv), r3.gl, r3.hp, r3.sep, r3.own, r3.kp⟩
   ·cases h
  ·cases h
 | nil t e sz cs =>
  simp only [co1] at h
  split at h
  ·rename_i ht hs hc
   injection h with h; subst h
   have hnil : a.tmps.getD t undef = .slice none 0 0 := r3.fr t _ ht
   have hemp := emptyX_ok hc
   refine ⟨upd ρ s.H.length (pl4 none 0 0 sz), r3.new hs (by cases cs <;> simp [emptyX] at hc <;> subst hc <;> rfl) rfl (fun j x hx => .inr ⟨hx, r3.hp j x hx⟩) r3.kp (show objR ρ w (pl4 none 0 0 sz) ⟨.row, e, sz, 0, cs⟩ from ⟨⟨rfl, rfl, by rw [hemp]; simp⟩, [], by unfold csR; rw [hemp]; exact F2.nil, World.ownsRow_nil w 0 e sz⟩)
    (fun _ j x g _ _ hat _ => by obtain ⟨ad, had, _⟩ := hat; cases had) (fun _ g hat => by obtain ⟨ad, had, _⟩ := hat; cases had) _ _ ?_⟩
   refine FrR.same (fun t x hx => ltA_ok upd_lt (ltF_ok (okS_ok hs).1 t x hx) (r3.fr t x hx)) ?_
   show clR _ (.wh _) _
   simp only [clR, upd_at]
   exact hnil
  ·cases h
 | emp t e sz cs b =>
  simp only [co1] at h
  split at h
  ·rename_i ht hs hc
   injection h with h; subst h
   have hnil : a.tmps.getD t undef = .slice none 0 0 := r3.fr t _ ht
   have hemp := emptyX_ok hc
   refine ⟨upd ρ s.H.length (pl4 none 0 0 sz), r3.new hs (by cases cs <;> simp [emptyX] at hc <;> subst hc <;> rfl) rfl (fun j x hx => .inr ⟨hx, r3.hp j x hx⟩) r3.kp (show objR ρ w (pl4 none 0 0 sz) ⟨.ro b, e, sz, 0, cs⟩ from ⟨⟨rfl, rfl, by rw [hemp]; simp⟩, ⟨Nat.le_refl _, by simp [maxLen], fun _ => rfl⟩, [], by unfold csR; rw [hemp]; exact F2.nil, fun ad had => by cases had⟩)
    (fun _ j x g _ _ hat _ => by obtain ⟨_, ad, had, _⟩ := hat; cases had) (fun _ g hat => by obtain ⟨_, ad, had, _⟩ := hat; cases had) _ _ ?_⟩
   refine FrR.same (fun t x hx => ltA_ok upd_lt (ltF_ok (okS_ok hs).1 t x hx) (r3.fr t x hx)) ?_
   show clR _ (.wh _) _
   simp only [clR, upd_at]
   exact hnil
  ·cases h
 | vw t b =>
  simp only [co1] at h
  split at h
  ·rename_i i ht hs
   split at h
   ·rename_i o hl
    split at h
    ·rename_i hlt
     injection h with h; subst h
     have hv := r3.fr t _ ht
     obtain ⟨hl', h1, h2⟩ := liveR_ok hl
     have h2' : (∃ b, o.kd = .ro b) ∨ o.kd = .row ∨ ∃ b, o.kd = .dp b := h2.elim .inl fun h => .inr (.inl h)
     obtain ⟨⟨e1, e2, e3⟩, vs, hc, hA⟩ := (r3.hp i o h1).read (nd h2')
     obtain ⟨g1, g2, g3⟩ := (r3.hp i o h1).slc h2'
     have hv' : a.tmps.getD t undef = .slice (ρ i).A o.n (ρ i).cap := by rw [← e2]; exact hv
     exact co_view hs r3 (lo := 0) h1 h2 hlt rfl hv' (by omega) g2 g3 hc (by rw [hc.len, e3]) hA (by omega) e1 e2 (fun _ => by
      rw [Nat.zero_mul]
      cases (ρ i).A with
      | none => rfl
      | some ad => simp [Addr.add])
    ·cases h
   ·cases h
  ·rename_i i lo n ht hs
   split at h
   ·rename_i o hl
    split at h
    ·rename_i hlt
     injection h with h; subst h
     have hv := r3.fr t _ ht
     obtain ⟨hl, h1, h2⟩ := liveR_ok hl
     obtain ⟨g1, g2, vs, hc, hS⟩ := slc_ok r3.hp (x := .sl i lo n) (o := o) (lo := lo) (n := n) (by simp [slc, hl]) hv
     obtain ⟨e1, e2, hA⟩ := slc_pl r3.hp (y := .sl i lo n) (o := o) (lo := lo) (n := n) (i := i) (by simp [slc, hl]) rfl hv
     obtain ⟨hlen, A, c, hvA, k1, k2, k3, k4⟩ := hS
     exact co_view hs r3 (lo := lo) h1 h2 hlt rfl hvA k1 k2 k3 (by unfold csR; rw [Cs.part_cl, mulS_eq, mulS_eq]; exact (F2.drop hc _).take _) hlen k4 g1 e1 e2 (hA A c hvA)
    ·cases h
   ·cases h
  ·cases h
theorem coS_ok : ∀ {cs : List Co} {s s' : S}, coS cs s = some s' → Rel N bs w0 s a w → Rel N bs w0 s' a w
 | [], s, s', h, hR => by injection h with h; subst h; exact hR
 | c :: cs, s, s', h, hR => by
  simp only [coS] at h
  split at h
  ·rename_i s1 h1; exact coS_ok h (co1_ok h1 hR)
  ·cases h
end
end Go.Sx
end
