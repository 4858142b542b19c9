import Derived.Test.YtpinmaodpfoinaaSxF
set_option linter.unusedVariables false
set_option linter.unusedSimpArgs false
namespace Go.Sx
open Go.RowKit Go.Ch
section
variable {P : Program} {T : Tab} {ρ : Pls} {w : World} {H : Hp}

/-- a value that fills one cell -/
def okC : Cl → Bool
  | .s x => (match x with | .v v => (match v with | .nilIface | .pointer _ | .func _ _ _ | .nilFunc => true | _ => false) | _ => true)
  | .junk => false
  | _ => true
theorem okC_ok {c : Cl} (h : okC c = true) {v : Value} (hv : clR ρ c v) : v.cells = #[v] ∧ v.oneCell' = true := by
  cases c with
  | s x =>
    rw [show v = x.val from hv]
    cases x with
    | v v => cases v <;> simp [okC] at h <;> exact ⟨rfl, rfl⟩
    | er t k o => cases o <;> exact ⟨rfl, rfl⟩
    | _ => exact ⟨rfl, rfl⟩
  | nils => rw [show v = _ from hv]; exact ⟨rfl, rfl⟩
  | wh i => rw [show v = _ from hv]; exact ⟨rfl, rfl⟩
  | sl i lo n => obtain ⟨_, A, c, rfl, _⟩ := hv; exact ⟨rfl, rfl⟩
  | pt i off => obtain ⟨_, ad, _, rfl⟩ := hv; exact ⟨rfl, rfl⟩
  | junk => cases h
def okCs : List Cl → Bool
  | [] => true
  | c :: cs => okC c && okCs cs
theorem okCs_ok : ∀ {cs : List Cl}, okCs cs = true → ∀ {vs : List Value}, F2 (clR ρ) cs vs → ∀ u ∈ vs, u.cells = #[u] ∧ u.oneCell' = true
  | [], _, vs, hc => by have := hc.1; simp at this; intro u hu; rw [List.eq_nil_of_length_eq_zero this.symm] at hu; cases hu
  | c :: cs, h, vs, hc => by
    simp only [okCs, Bool.and_eq_true] at h
    cases vs with
    | nil => exact absurd hc.1 (by simp)
    | cons v vs =>
      have h1 := hc.2 0 c v rfl rfl
      have h2 : F2 (clR ρ) cs vs := ⟨by have := hc.1; simpa using this, fun j a b ha hb => hc.2 (j + 1) a b (by simpa using ha) (by simpa using hb)⟩
      intro u hu
      rcases List.mem_cons.1 hu with rfl | hu
      · exact okC_ok h.1 h1
      · exact okCs_ok h.2 h2 u hu
def okX : Cs → Bool
  | .c l => okCs l
  | _ => true
theorem okX_ok {cs : Cs} (h : okX cs = true) {vs : List Value} (hc : csR ρ cs vs) : ∀ u ∈ vs, u.cells = #[u] ∧ u.oneCell' = true := by
  cases cs with
  | c l => exact okCs_ok h hc
  | b l => rw [csR_b.1 hc]; intro u hu; obtain ⟨x, _, rfl⟩ := List.mem_map.1 hu; exact ⟨rfl, rfl⟩
  | w l => rw [csR_w.1 hc]; intro u hu; obtain ⟨x, _, rfl⟩ := List.mem_map.1 hu; exact ⟨rfl, rfl⟩
  | q l => rw [csR_q.1 hc]; intro u hu; obtain ⟨x, _, rfl⟩ := List.mem_map.1 hu; exact ⟨rfl, rfl⟩
  | z l => rw [csR_z.1 hc]; intro u hu; obtain ⟨x, _, rfl⟩ := List.mem_map.1 hu; exact ⟨rfl, rfl⟩

/-- n cells, one by one -/
def exC (n : Nat) : Cs → List Cl
  | .b l => (List.range n).map fun i => .s (.u8 (l.getD i 0))
  | .w l => (List.range n).map fun i => .s (.u32 (l.getD i 0))
  | .q l => (List.range n).map fun i => .s (.u64 (l.getD i 0))
  | .z l => (List.range n).map fun i => .s (.k .i64 (l.getD i 0))
  | .c l => l
theorem ex_eq {α β : Type} (f : α → β) (d : α) (l : List α) : (List.range l.length).map (fun i => f (l.getD i d)) = l.map f := by
  apply List.ext_getElem?
  intro i
  by_cases hi : i < l.length
  · simp [hi]
  · simp [hi]
theorem exC_ok {n : Nat} {cs : Cs} {vs : List Value} (h : csR ρ cs vs) (hn : vs.length = n) : F2 (clR ρ) (exC n cs) vs := by
  have hl : cs.cl.length = n := by rw [← hn]; exact h.1
  have e : exC n cs = cs.cl := by
    cases cs with
    | c l => rfl
    | b l => subst hl; simp only [exC, Cs.cl, List.length_map]; exact ex_eq (fun x => Cl.s (.u8 x)) 0 l
    | w l => subst hl; simp only [exC, Cs.cl, List.length_map]; exact ex_eq (fun x => Cl.s (.u32 x)) 0 l
    | q l => subst hl; simp only [exC, Cs.cl, List.length_map]; exact ex_eq (fun x => Cl.s (.u64 x)) 0 l
    | z l => subst hl; simp only [exC, Cs.cl, List.length_map]; exact ex_eq (fun x => Cl.s (.k .i64 x)) 0 l
  rw [e]; exact h
/-- cells with a part laid in -/
def putC (l : List Cl) (off size : Nat) (x : AV) : Option (List Cl) := match x with
  | .c c => (match okC c, decide (size = 1 ∧ off < l.length) with | true, true => some (l.set off c) | _, _ => none)
  | .g n cs => (match decide (n = size ∧ off + n ≤ l.length) with | true => some (l.take off ++ exC n cs ++ l.drop (off + n)) | false => none)
  | _ => none
theorem fold_set (vs : List Value) (off : Nat) : ∀ (k : Nat) (cells : Array Value), off + k + vs.length ≤ cells.size →
    (((vs.zipIdx k).foldl (fun (cs : Array Value) (p : Value × Nat) => cs.setIfInBounds (off + p.2) p.1) cells).toList = cells.toList.take (off + k) ++ vs ++ cells.toList.drop (off + k + vs.length)) := by
  induction vs with
  | nil => intro k cells _; simp
  | cons v vs ih =>
    intro k cells h
    simp only [List.length_cons] at h
    simp only [List.zipIdx_cons, List.foldl_cons]
    rw [ih (k + 1) _ (by simp; omega)]
    have hk : off + k < cells.toList.length := by simp; omega
    rw [Array.toList_setIfInBounds]
    have e2 : (cells.toList.set (off + k) v).take (off + (k + 1)) = cells.toList.take (off + k) ++ [v] := by
      rw [← Nat.add_assoc, List.take_set, List.take_succ_eq_append_getElem hk, List.set_append_right _ _ (by simp; omega)]
      simp only [List.length_take, Nat.min_eq_left (Nat.le_of_lt hk), Nat.sub_self, List.set_cons_zero]
    rw [e2, List.drop_set_of_lt (by omega)]
    simp [Nat.add_assoc, Nat.add_comm 1]
theorem putC_ok {l l' : List Cl} {off size : Nat} {x : AV} (h : putC l off size x = some l') {v : Value} (hv : avR ρ x v) {cells : Array Value} (hc : F2 (clR ρ) l cells.toList) :
    v.cells.size = size ∧ off + v.cells.size ≤ cells.size ∧ F2 (clR ρ) l' (v.cells.zipIdx.foldl (fun (cs : Array Value) (p : Value × Nat) => cs.setIfInBounds (off + p.2) p.1) cells).toList := by
  have hl : l.length = cells.size := by have := hc.1; simpa using this
  cases x with
  | c c =>
    simp only [putC] at h
    split at h
    · rename_i h1 h2
      simp only [decide_eq_true_eq] at h2
      injection h with h; subst h
      obtain ⟨hcell, _⟩ := okC_ok h1 hv
      rw [hcell]
      refine ⟨by simp [h2.1], by simp; omega, ?_⟩
      have e : (#[v].zipIdx.foldl (fun (cs : Array Value) (p : Value × Nat) => cs.setIfInBounds (off + p.2) p.1) cells) = cells.setIfInBounds off v := by
        simp [Array.zipIdx]
      rw [e, Array.toList_setIfInBounds]
      exact F2.set hc off hv
    · cases h
  | g n cs =>
    simp only [putC] at h
    split at h
    · rename_i h2
      simp only [decide_eq_true_eq] at h2
      injection h with h; subst h
      obtain ⟨vs, hcs, hn, rfl⟩ := hv
      refine ⟨by simp [Value.cells, hn, h2.1], by simp [Value.cells]; omega, ?_⟩
      have e := fold_set vs off 0 cells (by omega)
      have e2 : ((Value.agg vs.toArray).cells.zipIdx.foldl (fun (cs : Array Value) (p : Value × Nat) => cs.setIfInBounds (off + p.2) p.1) cells).toList = cells.toList.take off ++ vs ++ cells.toList.drop (off + vs.length) := by
        rw [← Array.foldl_toList]
        simpa [Value.cells] using e
      rw [e2, hn]
      exact F2.append (F2.append (F2.take hc off) (exC_ok hcs hn)) (F2.drop hc _)
    · cases h
  | t xs => cases h
def putAll (place : Nat → Option (Nat × Nat)) : List Cl → List (Nat × AV) → Option (List Cl)
  | l, [] => some l
  | l, (i, x) :: rest => match place i with
    | some (off, size) => (match putC l off size x with | some l' => putAll place l' rest | none => none)
    | none => none
theorem putAll_ok {place : Nat → Option (Nat × Nat)} : ∀ {ps : List (Nat × AV)} {qs : List (Nat × Value)} {l l' : List Cl} {cells : Array Value}, putAll place l ps = some l' → F2 (clR ρ) l cells.toList →
    F2 (fun (p : Nat × AV) (q : Nat × Value) => p.1 = q.1 ∧ avR ρ p.2 q.2) ps qs → ∃ cells', Instr.fill place cells qs = some cells' ∧ F2 (clR ρ) l' cells'.toList
  | [], qs, l, l', cells, h, hc, hq => by
    have h1 := hq.1
    simp at h1
    rw [List.eq_nil_of_length_eq_zero h1.symm]
    injection h with h; subst h
    exact ⟨cells, rfl, hc⟩
  | (i, x) :: ps, qs, l, l', cells, h, hc, hq => by
    cases qs with
    | nil => exact absurd hq.1 (by simp)
    | cons q qs =>
      obtain ⟨j, v⟩ := q
      have h0 := hq.2 0 (i, x) (j, v) rfl rfl
      obtain ⟨rfl, hv⟩ := h0
      have hq' : F2 (fun (p : Nat × AV) (q : Nat × Value) => p.1 = q.1 ∧ avR ρ p.2 q.2) ps qs := ⟨by have := hq.1; simpa using this, fun k a b ha hb => hq.2 (k + 1) a b (by simpa using ha) (by simpa using hb)⟩
      simp only [putAll] at h
      split at h
      · rename_i off size hp
        split at h
        · rename_i l1 hl1
          obtain ⟨e1, e2, e3⟩ := putC_ok hl1 hv hc
          obtain ⟨cells', hf, hr⟩ := putAll_ok h e3 hq'
          refine ⟨cells', ?_, hr⟩
          simp only [Instr.fill, hp]
          rw [if_neg (by simp [e1]; omega)]
          exact hf
        · cases h
      · cases h

/-- the operands of a literal's parts -/
def evParts (ae : Operand → Option AV) : List (Nat × Operand) → Option (List (Nat × AV))
  | [] => some []
  | (i, x) :: rest => match ae x, evParts ae rest with
    | some v, some vs => some ((i, v) :: vs)
    | _, _ => none
theorem evParts_ok {ae : Operand → Option AV} {ev : Operand → Value} (hae : ∀ x av, ae x = some av → avR ρ av (ev x)) : ∀ {ps : List (Nat × Operand)} {qs : List (Nat × AV)}, evParts ae ps = some qs →
    F2 (fun (p : Nat × AV) (q : Nat × Value) => p.1 = q.1 ∧ avR ρ p.2 q.2) qs (ps.map fun p => (p.1, ev p.2))
  | [], qs, h => by injection h with h; subst h; exact F2.nil
  | (i, x) :: rest, qs, h => by
    simp only [evParts] at h
    split at h
    · rename_i v vs h1 h2
      injection h with h; subst h
      exact F2.cons ⟨rfl, hae x v h1⟩ (evParts_ok hae h2)
    · cases h

/-- cells of one kind -/
def asB : List Cl → Option (List UInt8)
  | [] => some []
  | .s (.u8 x) :: l => (match asB l with | some r => some (x :: r) | none => none)
  | _ => none
def asW : List Cl → Option (List UInt32)
  | [] => some []
  | .s (.u32 x) :: l => (match asW l with | some r => some (x :: r) | none => none)
  | _ => none
def asQ : List Cl → Option (List UInt64)
  | [] => some []
  | .s (.u64 x) :: l => (match asQ l with | some r => some (x :: r) | none => none)
  | _ => none
def asZ : List Cl → Option (List Int)
  | [] => some []
  | .s (.k .i64 x) :: l => (match asZ l with | some r => some (x :: r) | none => none)
  | _ => none
theorem asB_ok : ∀ {l : List Cl} {r : List UInt8}, asB l = some r → r.map (fun x => Cl.s (.u8 x)) = l
  | [], r, h => by injection h with h; subst h; rfl
  | .s (.u8 x) :: l, r, h => by
    simp only [asB] at h
    split at h
    · rename_i r' hr; injection h with h; subst h; simp [asB_ok hr]
    · cases h
theorem asW_ok : ∀ {l : List Cl} {r : List UInt32}, asW l = some r → r.map (fun x => Cl.s (.u32 x)) = l
  | [], r, h => by injection h with h; subst h; rfl
  | .s (.u32 x) :: l, r, h => by
    simp only [asW] at h
    split at h
    · rename_i r' hr; injection h with h; subst h; simp [asW_ok hr]
    · cases h
theorem asQ_ok : ∀ {l : List Cl} {r : List UInt64}, asQ l = some r → r.map (fun x => Cl.s (.u64 x)) = l
  | [], r, h => by injection h with h; subst h; rfl
  | .s (.u64 x) :: l, r, h => by
    simp only [asQ] at h
    split at h
    · rename_i r' hr; injection h with h; subst h; simp [asQ_ok hr]
    · cases h
theorem asZ_ok : ∀ {l : List Cl} {r : List Int}, asZ l = some r → r.map (fun x => Cl.s (.k .i64 x)) = l
  | [], r, h => by injection h with h; subst h; rfl
  | .s (.k .i64 x) :: l, r, h => by
    simp only [asZ] at h
    split at h
    · rename_i r' hr; injection h with h; subst h; simp [asZ_ok hr]
    · cases h
/-- a list of cells, by its elements' kind -/
def asCs (d : Td) (l : List Cl) : Cs := match d with
  | .int .u8 => (match asB l with | some r => .b r | none => .c l)
  | .int .u32 => (match asW l with | some r => .w r | none => .c l)
  | .int .u64 => (match asQ l with | some r => .q r | none => .c l)
  | .int .i64 => (match asZ l with | some r => .z r | none => .c l)
  | _ => .c l
theorem asCs_cl (d : Td) (l : List Cl) : (asCs d l).cl = l := by
  unfold asCs
  split
  · split
    · rename_i r h; exact asB_ok h
    · rfl
  · split
    · rename_i r h; exact asW_ok h
    · rfl
  · split
    · rename_i r h; exact asQ_ok h
    · rfl
  · split
    · rename_i r h; exact asZ_ok h
    · rfl
  · rfl

def fldP (T : Tab) (fs : List (TypeId × Nat)) (i : Nat) : Option (Nat × Nat) := match fs[i]? with
  | some (ft, fo) => (match T ft with | some tf => some (fo, tf.size) | none => none)
  | none => none
/-- a literal of a struct or an array -/
def bdA (T : Tab) (t : TypeId) (ps : List (Nat × AV)) : Option (List Prop × AV) := match T t with
  | some ti => (match ti.z with
    | some zs => (match ti.d with
      | .st fs => (match decide (∀ p ∈ fs, (T p.1).isSome), putAll (fldP T fs) (zs.map Z.cl) ps with | true, some l => some ([], .g zs.length (.c l)) | _, _ => none)
      | .arr _ e => (match T e with
        | some te => (match putAll (fun i => some (i * te.size, te.size)) (zs.map Z.cl) ps with | some l => some ([], .g zs.length (asCs te.d l)) | none => none)
        | none => none)
      | _ => none)
    | none => none)
  | none => none
theorem putC_len {l l' : List Cl} {off size : Nat} {x : AV} {v : Value} (hv : avR ρ x v) (h : putC l off size x = some l') : l'.length = l.length := by
  cases x with
  | c c =>
    simp only [putC] at h
    split at h
    · injection h with h; subst h; simp
    · cases h
  | g n cs =>
    simp only [putC] at h
    split at h
    · rename_i h2
      simp only [decide_eq_true_eq] at h2
      injection h with h; subst h
      obtain ⟨vs, hcs, hn, rfl⟩ := hv
      have := (exC_ok hcs hn).1
      simp; omega
    · cases h
  | t xs => cases h
theorem putAll_len {place : Nat → Option (Nat × Nat)} : ∀ {ps : List (Nat × AV)} {qs : List (Nat × Value)} {l l' : List Cl}, putAll place l ps = some l' → F2 (fun (p : Nat × AV) (q : Nat × Value) => p.1 = q.1 ∧ avR ρ p.2 q.2) ps qs → l'.length = l.length
  | [], qs, l, l', h, hq => by injection h with h; subst h; rfl
  | (i, x) :: ps, qs, l, l', h, hq => by
    cases qs with
    | nil => exact absurd hq.1 (by simp)
    | cons q qs =>
      have h0 := hq.2 0 (i, x) q rfl rfl
      have hq' : F2 (fun (p : Nat × AV) (q : Nat × Value) => p.1 = q.1 ∧ avR ρ p.2 q.2) ps qs := ⟨by have := hq.1; simpa using this, fun k a b ha hb => hq.2 (k + 1) a b (by simpa using ha) (by simpa using hb)⟩
      simp only [putAll] at h
      split at h
      · split at h
        · rename_i l1 hl1
          rw [putAll_len h hq', putC_len h0.2 hl1]
        · cases h
      · cases h
theorem zs_R (zs : List Z) : F2 (clR ρ) (zs.map Z.cl) (zs.map Z.val) := by
  induction zs with
  | nil => exact F2.nil
  | cons z zs ih => exact F2.cons (Z.cl_ok ρ z) ih
theorem mapM_places {fs : List Field} {P : Program} {w : World} {T : Tab} (hT : TabOk P T) : (∀ f ∈ fs, (T f.type).isSome = true) →
    ∃ ps : List (Nat × Nat), ((fs.mapM fun (f : Field) => (do pure (f.offset, ← sizeOf f.type) : Sem (Nat × Nat))).run P w = .ok ps w) ∧ ∀ i : Nat, ps[i]? = (match (fs.map fun f => (f.type, f.offset))[i]? with | some (ft, fo) => (match T ft with | some tf => some (fo, tf.size) | none => none) | none => none) := by
  induction fs with
  | nil => intro _; exact ⟨[], by simp, fun i => by simp⟩
  | cons f fs ih =>
    intro h
    obtain ⟨ps, hr, hp⟩ := ih (fun g hg => h g (by simp [hg]))
    have hf := h f (by simp)
    cases ht : T f.type with
    | none => rw [ht] at hf; cases hf
    | some tf =>
      obtain ⟨ie, hie, hs1, _⟩ := (hT.at ht).i
      refine ⟨(f.offset, tf.size) :: ps, ?_, fun i => ?_⟩
      · have h1 : ((do pure (f.offset, ← sizeOf f.type) : Sem (Nat × Nat))).run P w = .ok (f.offset, tf.size) w := by simp [sizeOf, typeInfo, hie, hs1]
        rw [List.mapM_cons, Sem.run_bind, h1, Result.andThen_ok, Sem.run_bind, hr]
        simp
      · cases i with
        | zero => simp [ht]
        | succ i => simpa using hp i
theorem bdA_ok (hT : TabOk P T) {t : TypeId} {ps : List (Nat × AV)} {qs : Array (Nat × Value)} (hq : F2 (fun (p : Nat × AV) (q : Nat × Value) => p.1 = q.1 ∧ avR ρ p.2 q.2) ps qs.toList) {g : List Prop} {z : AV} (h : bdA T t ps = some (g, z)) :
    ∃ u, (Instr.build t qs).run P w = .ok u w ∧ avR ρ z u := by
  unfold bdA at h
  cases ht : T t with
  | none => simp [ht] at h
  | some ti =>
    simp only [ht] at h
    cases hz : ti.z with
    | none => simp [hz] at h
    | some zs =>
      simp only [hz] at h
      obtain ⟨ie, hie, hs1, _, _, hzz⟩ := (hT.at ht).i
      obtain ⟨zv, hzv, hzc⟩ := hzz zs hz
      have hzr : (zeroValue t).run P w = .ok zv w := by simp [zeroValue, typeInfo, hie, hzv]
      have hcl : zv.cells.toList = zs.map Z.val := by rw [hzc]
      have hF : F2 (clR ρ) (zs.map Z.cl) zv.cells.toList := by rw [hcl]; exact zs_R zs
      cases hd : ti.d <;> simp only [hd, reduceCtorEq] at h
      case st fs =>
        split at h
        · rename_i l hdec hl
          simp only [decide_eq_true_eq] at hdec
          injection h with h; simp only [Prod.mk.injEq] at h; obtain ⟨rfl, rfl⟩ := h
          obtain ⟨f, ut, hfs⟩ := (hT.at ht).st hd
          obtain ⟨pl, hpr, hpp⟩ := mapM_places (P := P) (w := w) (fs := f.toList) hT (fun g hg => by
            have := hdec (g.type, g.offset) (by rw [← hfs]; exact List.mem_map.2 ⟨g, hg, rfl⟩)
            exact this)
          rw [hfs] at hpp
          have hplace : (fun i => pl.toArray[i]?) = fldP T fs := by
            funext i
            have := hpp i
            simpa [fldP] using this
          obtain ⟨cells', hfill, hr⟩ := putAll_ok hl hF hq
          refine ⟨.agg cells', ?_, cells'.toList, hr, ?_, by simp⟩
          · have hpr2 : ((f.mapM fun (f : Field) => (do pure (f.offset, ← sizeOf f.type) : Sem (Nat × Nat)))).run P w = .ok pl.toArray w := by
              rw [Array.mapM_eq_mapM_toList, Sem.run_map, hpr]
              rfl
            rw [← hplace] at hfill
            simp only [Instr.build, Sem.run_bind, hzr, Result.andThen_ok, run_underlying ut]
            rw [hpr2, Result.andThen_ok, hfill]
            simp only [Sem.run_pure]
          · have := hr.1; have h2 := putAll_len hl hq
            rw [← this, h2]; simp
        · cases h
      case arr n e =>
        split at h
        · rename_i te hte
          split at h
          · rename_i l hl
            injection h with h; simp only [Prod.mk.injEq] at h; obtain ⟨rfl, rfl⟩ := h
            have ut := (hT.at ht).arr hd
            obtain ⟨ie2, hie2, hs2, _⟩ := (hT.at hte).i
            obtain ⟨cells', hfill, hr⟩ := putAll_ok hl hF hq
            refine ⟨.agg cells', ?_, cells'.toList, ?_, ?_, by simp⟩
            · simp [Instr.build, hzr, run_underlying ut, sizeOf, typeInfo, hie2, hs2, hfill]
            · unfold csR; rw [asCs_cl]; exact hr
            · have := hr.1; have h2 := putAll_len hl hq
              rw [← this, h2]; simp
          · cases h
        · cases h

/-! ### all of them -/
def ofLen (x : AV) (H : Hp) : Option (List Prop × AV) := match x with
  | .c (.s (.str l)) => some ([], .c (.s (.k .i64 (l.length : Int))))
  | .c y => (match lenC H y with | some n => some ([], .c (.s (.k .i64 (n : Int)))) | none => none)
  | _ => none
def slT (T : Tab) (t : TypeId) : Option TypeId := match T t with | some ti => (match ti.d with | .sl e => some e | _ => none) | none => none
def strT (T : Tab) (t : TypeId) : Bool := match T t with | some ti => (match ti.d with | .str => true | _ => false) | none => false
def u8T (T : Tab) (t : TypeId) : Bool := match T t with | some ti => (match ti.d with | .int .u8 => true | _ => false) | none => false
theorem slT_ok (hT : TabOk P T) {t e : TypeId} (h : slT T t = some e) : P.underlying t = some (.slice e) := by
  unfold slT at h
  cases ht : T t with
  | none => simp [ht] at h
  | some ti =>
    simp only [ht] at h
    cases hd : ti.d <;> simp only [hd, reduceCtorEq] at h
    injection h with h; subst h
    exact (hT.at ht).sl hd
theorem strT_ok (hT : TabOk P T) {t : TypeId} (h : strT T t = true) : P.underlying t = some .string := by
  unfold strT at h
  cases ht : T t with
  | none => simp [ht] at h
  | some ti =>
    simp only [ht] at h
    cases hd : ti.d <;> simp only [hd, reduceCtorEq] at h
    exact (hT.at ht).str hd
theorem u8T_ok (hT : TabOk P T) {t : TypeId} (h : u8T T t = true) : P.underlying t = some (.int .u8) := by
  unfold u8T at h
  cases ht : T t with
  | none => simp [ht] at h
  | some ti =>
    simp only [ht] at h
    cases hd : ti.d with
    | int k => cases k <;> simp [hd] at h; exact (hT.at ht).int hd
    | _ => simp [hd] at h
def opt (ae : Operand → Option AV) : Option Operand → Option (Option Int)
  | none => some none
  | some x => match ae x with | some v => (match intA v with | some n => some (some n) | none => none) | none => none
def unx (op : UnOp) (x : Sc) : Option (List Prop × Sc) := match op, x with
  | .not, .b b => some ([], .b (!b))
  | .neg, .k kd n => some ([okI kd (-n)], .k kd (-n))
  | .xor, .u32 x => some ([], .u32 (~~~x))
  | .xor, .u64 x => some ([], .u64 (~~~x))
  | .xor, .u8 x => some ([], .u8 (~~~x))
  | _, _ => none
theorem unx_ok {op : UnOp} {x z : Sc} {g : List Prop} (h : unx op x = some (g, z)) (hg : allP g) (w : World) : (Op.unary op x.val).run P w = .ok z.val w := by
  unfold unx at h
  split at h
  · injection h with h; simp only [Prod.mk.injEq] at h; obtain ⟨rfl, rfl⟩ := h; rfl
  · injection h with h; simp only [Prod.mk.injEq] at h; obtain ⟨rfl, rfl⟩ := h
    simp only [allP, okI] at hg
    simp [Op.unary, Op.intArith, Sc.val, hg]
  · injection h with h; simp only [Prod.mk.injEq] at h; obtain ⟨rfl, rfl⟩ := h; exact run_not32 _ w
  · injection h with h; simp only [Prod.mk.injEq] at h; obtain ⟨rfl, rfl⟩ := h; exact Go.Ch.run_not64 _ w
  · injection h with h; simp only [Prod.mk.injEq] at h; obtain ⟨rfl, rfl⟩ := h; exact run_not8 _ w
  · cases h

/-- a value operation: what has to hold, and its value -/
def vop (T : Tab) (H : Hp) (ae : Operand → Option AV) (op : Op) : Option (List Prop × AV) := match op with
  | .move x => (match ae x with | some v => some ([], v) | none => none)
  | .assign x => (match ae x with | some v => some ([], v) | none => none)
  | .pick c a b => (match ae c with
    | some (.c (.s (.b true))) => (match ae a with | some v => some ([], v) | none => none)
    | some (.c (.s (.b false))) => (match ae b with | some v => some ([], v) | none => none)
    | _ => none)
  | .nilCheck x => (match ae x with | some (.c (.pt i off)) => some ([], .c (.pt i off)) | _ => none)
  | .extract x k => (match ae x with | some (.t xs) => (match xs[k]? with | some a => some ([], a.av) | none => none) | _ => none)
  | .binOp op t x y _ => (match ae x, ae y with
    | some (.c (.s a)), some (.c (.s b)) => (match binx T op t (isConst x || isConst y) a b with | some (g, z) => some (g, .c (.s z)) | none => none)
    | _, _ => none)
  | .unOp op _ x => (match ae x with | some (.c (.s a)) => (match unx op a with | some (g, z) => some (g, .c (.s z)) | none => none) | _ => none)
  | .convert s t x => (match ae x with
    | some (.c (.s a)) => (match convx T s t a with | some (g, z) => some (g, .c (.s z)) | none => none)
    | some (.c y) => (match slT T s with
      | some e => (match u8T T e, strT T t, viewB H y with | true, true, some l => some ([], .c (.s (.str l))) | _, _, _ => none)
      | none => none)
    | _ => none)
  | .indexAddr t x i => (match ae x, ae i with | some a, some b => (match intA b with | some n => ixA T H t a n | none => none) | _, _ => none)
  | .index t x i => (match ae x, ae i with | some a, some b => (match intA b with | some n => ixV T t a n | none => none) | _, _ => none)
  | .load t x => (match ae x with | some a => ldA T H t a | none => none)
  | .slice t x lo hi mx => (match ae x, opt ae lo, opt ae hi, opt ae mx with | some a, some l, some h, some m => slA T H t a l h m | _, _, _, _ => none)
  | .fieldAddr t x f => (match ae x with | some a => faA T H t a f | none => none)
  | .field t x f => (match ae x with | some a => fdA T t a f | none => none)
  | .sliceToArrayPointer t x => (match ae x with | some a => saA T H t a | none => none)
  | .makeInterface t x => (match ae x with | some (.c (.s (.k kd n))) => (match cmpT T t kd with | true => some ([], .c (.s (.er t kd (some n)))) | false => none) | _ => none)
  | .build t ps => (match evParts ae ps.toList with | some qs => bdA T t qs | none => none)
  | .call c => (match c.callee with
    | .builtin b => (match b, c.args.toList, c.argTypes.toList with
      | .len, [x], [t] => (match ae x with
        | some (.c y) => (match strT T t, slT T t with
          | true, _ => (match y with | .s (.str l) => some ([], .c (.s (.k .i64 (l.length : Int)))) | _ => none)
          | false, some _ => (match lenC H y with | some n => some ([], .c (.s (.k .i64 (n : Int)))) | none => none)
          | _, _ => none)
        | _ => none)
      | .max, [x, y], _ => (match ae x, ae y with
        | some (.c (.s (.k .i64 n))), some (.c (.s (.k .i64 m))) => some ([], .c (.s (.k .i64 (if m > n then m else n))))
        | _, _ => none)
      | .min, [x, y], _ => (match ae x, ae y with
        | some (.c (.s (.k .i64 n))), some (.c (.s (.k .i64 m))) => some ([], .c (.s (.k .i64 (if m < n then m else n))))
        | _, _ => none)
      | _, _, _ => none)
    | _ => none)
  | _ => none

theorem opt_ok {ae : Operand → Option AV} {ev : Operand → Value} (hae : ∀ x av, ae x = some av → avR ρ av (ev x)) {x : Option Operand} {r : Option Int} (h : opt ae x = some r) : okV r (x.map ev) := by
  cases x with
  | none => injection h with h; subst h; exact True.intro
  | some x =>
    simp only [opt] at h
    cases hx : ae x with
    | none => simp [hx] at h
    | some v =>
      simp only [hx] at h
      cases hn : intA v with
      | none => simp [hn] at h
      | some n =>
        simp only [hn] at h
        injection h with h; subst h
        obtain ⟨kd, hk⟩ := intA_ok hn (hae x v hx)
        exact ⟨kd, hk⟩
theorem vop_ok (hT : TabOk P T) (hp : HpR ρ w H) {ae : Operand → Option AV} {ev : Operand → Value} (hae : ∀ x av, ae x = some av → avR ρ av (ev x)) {op : Op} {g : List Prop} {z : AV} (h : vop T H ae op = some (g, z)) (hg : allP g)
    (d : Option Tmp) (ty : TypeId) (pos : String) (aft : Array Edge) (gd : Option (Nat × Bool)) :
    ∃ u, (execOp ev ⟨d, op, ty, pos, aft, gd⟩).run P w = .ok (.value u) w ∧ avR ρ z u := by
  have one : ∀ {x : Operand} {v : AV}, ae x = some v → avR ρ v (ev x) := fun h => hae _ _ h
  cases op with
  | move x =>
    simp only [vop] at h
    split at h
    · rename_i v hv; injection h with h; simp only [Prod.mk.injEq] at h; obtain ⟨rfl, rfl⟩ := h
      exact ⟨ev x, by simp [execOp], one hv⟩
    · cases h
  | assign x =>
    simp only [vop] at h
    split at h
    · rename_i v hv; injection h with h; simp only [Prod.mk.injEq] at h; obtain ⟨rfl, rfl⟩ := h
      exact ⟨ev x, by simp [execOp], one hv⟩
    · cases h
  | pick c a b =>
    simp only [vop] at h
    split at h
    · rename_i hc
      split at h
      · rename_i v hv; injection h with h; simp only [Prod.mk.injEq] at h; obtain ⟨rfl, rfl⟩ := h
        have h1 : ev c = .bool true := one hc
        exact ⟨ev a, by simp [execOp, h1, asBool], one hv⟩
      · cases h
    · rename_i hc
      split at h
      · rename_i v hv; injection h with h; simp only [Prod.mk.injEq] at h; obtain ⟨rfl, rfl⟩ := h
        have h1 : ev c = .bool false := one hc
        exact ⟨ev b, by simp [execOp, h1, asBool], one hv⟩
      · cases h
    · cases h
  | nilCheck x =>
    simp only [vop] at h
    split at h
    · rename_i i off hx; injection h with h; simp only [Prod.mk.injEq] at h; obtain ⟨rfl, rfl⟩ := h
      have h1 := one hx
      obtain ⟨h0, ad, hA, hv⟩ := h1
      exact ⟨_, by simp only [execOp, hv]; rfl, h0, ad, hA, rfl⟩
    · cases h
  | extract x k =>
    simp only [vop] at h
    split at h
    · rename_i xs hx
      split at h
      · rename_i a ha; injection h with h; simp only [Prod.mk.injEq] at h; obtain ⟨rfl, rfl⟩ := h
        obtain ⟨vs, hvs, hv⟩ := one hx
        obtain ⟨u, hu, hr⟩ := hvs.at ha
        exact ⟨u, by simp [execOp, hv, Instr.extract, hu], a1R_av hr⟩
      · cases h
    · cases h
  | binOp op t x y ty2 =>
    simp only [vop] at h
    split at h
    · rename_i a b ha hb
      split at h
      · rename_i g' z' hz; injection h with h; simp only [Prod.mk.injEq] at h; obtain ⟨rfl, rfl⟩ := h
        have h1 : ev x = a.val := one ha
        have h2 : ev y = b.val := one hb
        have := binx_ok hT hz hg w
        refine ⟨z'.val, ?_, rfl⟩
        unfold binRun at this
        simp only [execOp, h1, h2, Sem.run_bind] at this ⊢
        rw [this]; rfl
      · cases h
    · cases h
  | unOp op t x =>
    simp only [vop] at h
    split at h
    · rename_i a ha
      split at h
      · rename_i g' z' hz; injection h with h; simp only [Prod.mk.injEq] at h; obtain ⟨rfl, rfl⟩ := h
        have h1 : ev x = a.val := one ha
        exact ⟨z'.val, by simp [execOp, h1, unx_ok hz hg w], rfl⟩
      · cases h
    · cases h
  | convert s t x =>
    simp only [vop] at h
    split at h
    · rename_i a ha
      split at h
      · rename_i g' z' hz; injection h with h; simp only [Prod.mk.injEq] at h; obtain ⟨rfl, rfl⟩ := h
        have h1 : ev x = a.val := one ha
        exact ⟨z'.val, by simp [execOp, h1, convx_ok hT hz hg w], rfl⟩
      · cases h
    · rename_i y _ hy
      split at h
      · rename_i e hs
        split at h
        · rename_i l he ht hl
          injection h with h; simp only [Prod.mk.injEq] at h; obtain ⟨rfl, rfl⟩ := h
          have h1 := viewB_ok hp hl (one hy)
          have h2 := run_bytes_string (P := P) (w := w) (slT_ok hT hs) (u8T_ok hT he) (strT_ok hT ht) h1
          exact ⟨.string ⟨l.toArray⟩, by simp [execOp, h2], rfl⟩
        · cases h
      · cases h
    · cases h
  | indexAddr t x i =>
    simp only [vop] at h
    split at h
    · rename_i a b ha hb
      split at h
      · rename_i n hn
        obtain ⟨kd, hk⟩ := intA_ok hn (one hb)
        obtain ⟨u, hu, hr⟩ := ixA_ok hT hp h hg (one ha) kd
        exact ⟨u, by simp [execOp, hk, hu], hr⟩
      · cases h
    · cases h
  | index t x i =>
    simp only [vop] at h
    split at h
    · rename_i a b ha hb
      split at h
      · rename_i n hn
        obtain ⟨kd, hk⟩ := intA_ok hn (one hb)
        obtain ⟨u, hu, hr⟩ := ixV_ok hT h hg (one ha) kd (w := w)
        exact ⟨u, by simp [execOp, hk, hu], hr⟩
      · cases h
    · cases h
  | load t x =>
    simp only [vop] at h
    split at h
    · rename_i a ha
      obtain ⟨u, hu, hr⟩ := ldA_ok hT hp h hg (one ha)
      exact ⟨u, by simp [execOp, hu], hr⟩
    · cases h
  | slice t x lo hi mx =>
    simp only [vop] at h
    split at h
    · rename_i a l1 h1 m1 ha hl hh hm
      obtain ⟨u, hu, hr⟩ := slA_ok hT hp (opt_ok hae hl) (opt_ok hae hh) (opt_ok hae hm) h hg (one ha)
      exact ⟨u, by simp [execOp, hu], hr⟩
    · cases h
  | fieldAddr t x f =>
    simp only [vop] at h
    split at h
    · rename_i a ha
      obtain ⟨u, hu, hr⟩ := faA_ok hT hp h hg (one ha)
      exact ⟨u, by simp [execOp, hu], hr⟩
    · cases h
  | field t x f =>
    simp only [vop] at h
    split at h
    · rename_i a ha
      obtain ⟨u, hu, hr⟩ := fdA_ok hT h hg (one ha) (w := w)
      exact ⟨u, by simp [execOp, hu], hr⟩
    · cases h
  | sliceToArrayPointer t x =>
    simp only [vop] at h
    split at h
    · rename_i a ha
      obtain ⟨u, hu, hr⟩ := saA_ok hT hp h hg (one ha)
      exact ⟨u, by simp [execOp, hu], hr⟩
    · cases h
  | makeInterface t x =>
    simp only [vop] at h
    split at h
    · rename_i kd n hx
      split at h
      · rename_i hc
        injection h with h; simp only [Prod.mk.injEq] at h; obtain ⟨rfl, rfl⟩ := h
        have h1 : ev x = .int kd n := one hx
        obtain ⟨h2, _⟩ := cmpT_ok hT hc
        exact ⟨.iface t (.int kd n), by simp [execOp, h1, Instr.makeInterface, run_underlying h2], rfl⟩
      · cases h
    · cases h
  | build t ps =>
    simp only [vop] at h
    split at h
    · rename_i qs hqs
      have h1 := evParts_ok (ρ := ρ) hae hqs
      obtain ⟨u, hu, hr⟩ := bdA_ok hT (qs := ps.map fun p => (p.1, ev p.2)) (by simpa using h1) h (w := w)
      exact ⟨u, by simp [execOp, hu], hr⟩
    · cases h
  | call c =>
    obtain ⟨callee, args, argTypes⟩ := c
    simp only [vop] at h
    split at h
    · rename_i b
      split at h
      · rename_i x t ha ht
        have ea : args = #[x] := by apply Array.ext'; exact ha
        have et : argTypes = #[t] := by apply Array.ext'; exact ht
        subst ea; subst et
        split at h
        · rename_i y hy
          split at h
          · rename_i hs
            split at h
            · rename_i l
              injection h with h; simp only [Prod.mk.injEq] at h; obtain ⟨rfl, rfl⟩ := h
              have h1 : ev x = .string ⟨l.toArray⟩ := one hy
              refine ⟨.int .i64 (l.length : Int), ?_, rfl⟩
              have hsz : (ByteArray.mk l.toArray).size = l.length := by simp [ByteArray.size]
              simp [execOp, resolve, invoke, builtin, h1, Builtin.len_, run_underlying (strT_ok hT hs), goInt, hsz]
            · cases h
          · rename_i e hs hsl
            split at h
            · rename_i n hn
              injection h with h; simp only [Prod.mk.injEq] at h; obtain ⟨rfl, rfl⟩ := h
              obtain ⟨A, cc, hA⟩ := lenC_ok hp hn (one hy)
              refine ⟨.int .i64 (n : Int), ?_, rfl⟩
              simp [execOp, resolve, invoke, builtin, hA, Builtin.len_, run_underlying (slT_ok hT hsl), goInt]
            · cases h
          · cases h
        · cases h
      · rename_i ts x y ha
        have ea : args = #[x, y] := by apply Array.ext'; exact ha
        subst ea
        split at h
        · rename_i n m hx hy
          injection h with h; simp only [Prod.mk.injEq] at h; obtain ⟨rfl, rfl⟩ := h
          have h1 : ev x = .int .i64 n := one hx
          have h2 : ev y = .int .i64 m := one hy
          exact ⟨.int .i64 (if m > n then m else n), by simp [execOp, resolve, invoke, builtin, h1, h2, Builtin.max_, Builtin.max2], rfl⟩
        · cases h
      · rename_i ts x y ha
        have ea : args = #[x, y] := by apply Array.ext'; exact ha
        subst ea
        split at h
        · rename_i n m hx hy
          injection h with h; simp only [Prod.mk.injEq] at h; obtain ⟨rfl, rfl⟩ := h
          have h1 : ev x = .int .i64 n := one hx
          have h2 : ev y = .int .i64 m := one hy
          exact ⟨.int .i64 (if m < n then m else n), by simp [execOp, resolve, invoke, builtin, h1, h2, Builtin.min_, Builtin.min2], rfl⟩
        · cases h
      · cases h
    · cases h
  | _ => simp [vop] at h
end
end Go.Sx
