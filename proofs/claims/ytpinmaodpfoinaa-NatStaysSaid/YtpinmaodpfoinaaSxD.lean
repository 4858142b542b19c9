import Derived.Test.YtpinmaodpfoinaaSxC
set_option linter.unusedVariables false
set_option linter.unusedSimpArgs false
namespace Go.Sx
open Go.RowKit Go.Ch

/-! ### operations that leave memory as it is -/
def isAggT : Td → Bool | .st _ | .arr _ _ => true | _ => false
def isConst : Operand → Bool | .const _ => true | _ => false

/-- an error compared with nil or another one -/
def opB (op : BinOp) (g : List Prop) (b : Bool) : Option (List Prop × Sc) := match op with
  | .eql => some (g, .b b)
  | .neq => some (g, .b (!b))
  | _ => none
def cmpT (T : Tab) (t : TypeId) (k : IntKind) : Bool := match T t with
  | some ti => (match ti.d with | .int k' => decide (k = k') && ti.cmp | _ => false)
  | none => false
def ifcT (T : Tab) (t : TypeId) : Bool := match T t with
  | some ti => (match ti.d with | .ifc => true | _ => false)
  | none => false
def boolT (T : Tab) (t : TypeId) : Bool := match T t with
  | some ti => (match ti.d with | .bool => true | _ => false)
  | none => false
def binEr (T : Tab) (op : BinOp) (t : TypeId) (cst : Bool) (t1 : TypeId) (k1 : IntKind) (o : Option Int) (y : Sc) : Option (List Prop × Sc) :=
  match ifcT T t with
  | false => none
  | true => match y with
    | .v v => (match v with | .nilIface => (match cst with | true => opB op [] o.isNone | false => none) | _ => none)
    | .er t2 k2 o2 => (match decide (t1 = t2) && (decide (k1 = k2) && cmpT T t1 k1) with | true => opB op [¬ (o = none ∧ o2 = none)] (o == o2) | false => none)
    | _ => none
def binx (T : Tab) (op : BinOp) (t : TypeId) (cst : Bool) (x y : Sc) : Option (List Prop × Sc) :=
  match op with
  | .shl => (match y.int? with | some n => shx .shl x n | none => none)
  | .shr => (match y.int? with | some n => shx .shr x n | none => none)
  | _ => match x with
    | .k kd a => (match y with | .k kd' c => (match decide (kd = kd') with | true => binK op kd a c | false => none) | _ => none)
    | .u8 a => (match y with | .u8 c => bin8 op a c | _ => none)
    | .u32 a => (match y with | .u32 c => bin32 op a c | _ => none)
    | .u64 a => (match y with | .u64 c => bin64 op a c | _ => none)
    | .str a => (match y with | .str c => binS op a c | _ => none)
    | .b a => (match y with | .b c => (match boolT T t with | true => opB op [] (a == c) | false => none) | _ => none)
    | .er t1 k1 o => binEr T op t cst t1 k1 o y
    | .v _ => none

section
variable {P : Program} {T : Tab}
theorem eq_er_nil (t t1 : TypeId) (ms) (k : IntKind) (ht : P.underlying t = some (.interface ms)) (o : Option Int) (w : World) :
    (Op.equal t (Sc.er t1 k o).val .nilIface).run P w = .ok o.isNone w := by
  cases o with
  | none =>
    unfold Op.equal Op.maxDepth Op.equalIn
    rw [Sem.run_bind, run_underlying ht w]
    simp [Sc.val]
  | some n =>
    unfold Op.equal Op.maxDepth Op.equalIn
    rw [Sem.run_bind, run_underlying ht w]
    simp [Sc.val]
theorem eq_er_er (t t1 : TypeId) (ms) (k : IntKind) (ht : P.underlying t = some (.interface ms)) (h1 : P.underlying t1 = some (.int k)) {i : TypeInfo} (hi : P.info? t1 = some i) (hc : i.comparable = true) (o o' : Option Int) (w : World) :
    (Op.equal t (Sc.er t1 k o).val (Sc.er t1 k o').val).run P w = .ok (o == o') w := by
  cases o with
  | none =>
    cases o' with
    | none =>
      unfold Op.equal Op.maxDepth Op.equalIn
      rw [Sem.run_bind, run_underlying ht w]
      simp [Sc.val]
    | some m =>
      unfold Op.equal Op.maxDepth Op.equalIn
      rw [Sem.run_bind, run_underlying ht w]
      simp [Sc.val]
  | some n =>
    cases o' with
    | none =>
      unfold Op.equal Op.maxDepth Op.equalIn
      rw [Sem.run_bind, run_underlying ht w]
      simp [Sc.val]
    | some m =>
      unfold Op.equal Op.maxDepth
      simp only [Sc.val]
      rw [run_equalIn_iface_int 9998 n m ht h1 hi hc]
      simp
theorem cmpT_ok (hT : TabOk P T) {t : TypeId} {k : IntKind} (h : cmpT T t k = true) : P.underlying t = some (.int k) ∧ ∃ i, P.info? t = some i ∧ i.comparable = true := by
  unfold cmpT at h
  cases hti : T t with
  | none => simp [hti] at h
  | some ti =>
    rw [hti] at h
    cases hd : ti.d <;> simp [hd] at h
    obtain ⟨rfl, hc⟩ := h
    obtain ⟨i, hi, _, _, h3, _⟩ := (hT.at hti).i
    exact ⟨(hT.at hti).int hd, i, hi, by rw [h3, hc]⟩
theorem ifcT_ok (hT : TabOk P T) {t : TypeId} (h : ifcT T t = true) : ∃ ms, P.underlying t = some (.interface ms) := by
  unfold ifcT at h
  cases hti : T t with
  | none => simp [hti] at h
  | some ti =>
    rw [hti] at h
    cases hd : ti.d <;> simp [hd] at h
    exact (hT.at hti).ifc hd
theorem boolT_ok (hT : TabOk P T) {t : TypeId} (h : boolT T t = true) : P.underlying t = some .bool := by
  unfold boolT at h
  cases hti : T t with
  | none => simp [hti] at h
  | some ti =>
    rw [hti] at h
    cases hd : ti.d <;> simp [hd] at h
    exact (hT.at hti).bool hd
theorem opB_ok {op : BinOp} {g g' : List Prop} {b : Bool} {z : Sc} (h : opB op g b = some (g', z)) : g = g' ∧ ((op = .eql ∧ z = .b b) ∨ (op = .neq ∧ z = .b (!b))) := by
  cases op <;> simp [opB] at h
  · exact ⟨h.1, .inl ⟨rfl, h.2.symm⟩⟩
  · exact ⟨h.1, .inr ⟨rfl, h.2.symm⟩⟩
def nInt : Value → Bool | .int _ _ | .string _ | .float _ _ | .complex _ _ _ | .pointer _ => false | _ => true
theorem run_eqOp {op : BinOp} {t : TypeId} {ex ey : Operand} {x y : Value} {b : Bool} {z : Sc} {w : World} (hx : nInt x = true) (hg : ∀ op, (eqGuard op t ex ey x y).run P w = .ok () w)
    (he : (Op.equal t x y).run P w = .ok b w) (h : (op = .eql ∧ z = .b b) ∨ (op = .neq ∧ z = .b (!b))) : binRun P op t ex ey x y w = .ok z.val w := by
  rcases h with ⟨rfl, rfl⟩ | ⟨rfl, rfl⟩ <;> simp only [binRun, Sem.run_bind, hg, Result.andThen_ok] <;> cases x <;> simp [nInt] at hx <;> simp [binOp, he, Sc.val]
theorem nInt_er (t1 : TypeId) (k : IntKind) (o : Option Int) : nInt (Sc.er t1 k o).val = true := by cases o <;> rfl
theorem binEr_ok (hT : TabOk P T) {op : BinOp} {t t1 : TypeId} {k1 : IntKind} {o : Option Int} {ex ey : Operand} {y : Sc} {g : List Prop} {z : Sc} (h : binEr T op t (isConst ex || isConst ey) t1 k1 o y = some (g, z)) (hg : allP g) (w : World) :
    binRun P op t ex ey (Sc.er t1 k1 o).val y.val w = .ok z.val w := by
  have hsome : ∀ (op : BinOp) (t1 : TypeId) (v v' : Value), (eqGuard op t ex ey (.iface t1 v) v').run P w = .ok () w := by
    intro op t1 v v'
    cases op <;> simp [eqGuard]
  have hsome' : ∀ (op : BinOp) (t1 : TypeId) (v : Value), (eqGuard op t ex ey .nilIface (.iface t1 v)).run P w = .ok () w := by
    intro op t1 v
    cases op <;> simp [eqGuard]
  unfold binEr at h
  cases hi : ifcT T t with
  | false => simp [hi] at h
  | true =>
    obtain ⟨ms, hms⟩ := ifcT_ok hT hi
    simp only [hi] at h
    cases y with
    | v v =>
      cases v <;> simp only [reduceCtorEq] at h
      cases hc : (isConst ex || isConst ey) with
      | false => simp [hc] at h
      | true =>
        simp only [hc] at h
        obtain ⟨rfl, h2⟩ := opB_ok h
        refine run_eqOp (nInt_er _ _ _) (fun op => ?_) (eq_er_nil t t1 ms k1 hms o w) h2
        cases o with
        | none => cases op <;> simp [eqGuard, Sc.val] <;> (cases ex <;> cases ey <;> simp_all [isConst])
        | some n => exact hsome _ _ _ _
    | er t2 k2 o2 =>
      simp only at h
      cases hc : (decide (t1 = t2) && (decide (k1 = k2) && cmpT T t1 k1)) with
      | false => simp [hc] at h
      | true =>
        simp only [hc] at h
        simp only [Bool.and_eq_true, decide_eq_true_eq] at hc
        obtain ⟨rfl, rfl, hc⟩ := hc
        obtain ⟨rfl, h2⟩ := opB_ok h
        obtain ⟨h3, i, h4, h5⟩ := cmpT_ok hT hc
        refine run_eqOp (nInt_er _ _ _) (fun op => ?_) (eq_er_er t t1 ms k1 hms h3 h4 h5 o o2 w) h2
        simp only [allP] at hg
        cases o with
        | none => cases o2 with
          | none => simp at hg
          | some m => exact hsome' _ _ _
        | some n => exact hsome _ _ _ _
    | _ => simp at h
theorem binx_ok (hT : TabOk P T) {op : BinOp} {t : TypeId} {ex ey : Operand} {x y : Sc} {g : List Prop} {z : Sc} (h : binx T op t (isConst ex || isConst ey) x y = some (g, z)) (hg : allP g) (w : World) :
    binRun P op t ex ey x.val y.val w = .ok z.val w := by
  have hsh : ∀ (op' : BinOp), (match y.int? with | some n => shx op' x n | none => none) = some (g, z) → binRun P op' t ex ey x.val y.val w = .ok z.val w := by
    intro op' h
    cases hy : y.int? with
    | none => rw [hy] at h; cases h
    | some n =>
      rw [hy] at h
      obtain ⟨kd, _, hv⟩ := Sc.int_val hy
      rw [hv]
      exact shx_ok h hg t ex ey w
  unfold binx at h
  split at h
  · exact hsh _ h
  · exact hsh _ h
  · cases x with
    | k kd a =>
      cases y <;> simp only [reduceCtorEq] at h
      rename_i kd' c
      by_cases hk : kd = kd'
      · subst hk
        simp only [decide_true] at h
        exact binK_ok h hg t ex ey w
      · simp [hk] at h
    | u8 a => cases y <;> simp only [reduceCtorEq] at h; exact bin8_ok h hg t ex ey w
    | u32 a => cases y <;> simp only [reduceCtorEq] at h; exact bin32_ok h hg t ex ey w
    | u64 a => cases y <;> simp only [reduceCtorEq] at h; exact bin64_ok h hg t ex ey w
    | str a => cases y <;> simp only [reduceCtorEq] at h; exact binS_ok h t ex ey w
    | b a =>
      cases y <;> simp only [reduceCtorEq] at h
      rename_i c
      cases hb : boolT T t with
      | false => simp [hb] at h
      | true =>
        simp only [hb] at h
        obtain ⟨rfl, h2⟩ := opB_ok h
        have h3 := boolT_ok hT hb
        refine run_eqOp rfl (fun op => by cases op <;> simp [eqGuard, Sc.val]) ?_ h2
        unfold Op.equal Op.maxDepth Op.equalIn
        rw [Sem.run_bind, run_underlying h3 w]
        simp [Sc.val]
    | er t1 k1 o => exact binEr_ok hT h hg w
    | v v => simp at h
end
end Go.Sx
