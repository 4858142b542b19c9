import Derived.Test.YtamddohbpdbdmaaDoorZ3
import Derived.Test.YtamddohbpdbdmaaDoorProg
import Derived.Shelf.RegionOpenPlain
import Derived.WalkKit
import Derived.Lib.Walk
import Derived.Lib.SliceRun
import Derived.Lib.AppendZerosOnto
section
set_option linter.unusedVariables false
set_option linter.unusedSimpArgs false
namespace Go.Sx
open Go.RowKit Go.Ch
section
variable {P : Program} {T : Tab} {ft : Nat → FT} {ρ : Pls} {w w' : World} {bs : Bs} {w0 : World} {s s' : S} {a a' : Act} {N : Nat} {ops : Array Oper} {asm : List (Nat × Bool)}

/-! ### a region that draws its order: operations that leave the world alone come up at any time -/
def vA (asm : List (Nat × Bool)) (i : Nat) (r : List Prop × AV) : Option (List Prop × AV) := match asm.lookup i with
  | none => some r
  | some bv => match r with
    | (g, .c (.s (.b e))) => some (g ++ [e = bv], .c (.s (.b bv)))
    | _ => none
def puV (T : Tab) (asm : List (Nat × Bool)) (i : Nat) (o : Oper) (s : S) : Option (List Prop × AV) := match vop T s.H (ev0 s.fr s.gl) o.op with
  | some r => vA asm i r
  | none => none
def puG (T : Tab) (ops : Array Oper) (asm : List (Nat × Bool)) (i : Nat) (o : Oper) (s : S) : Option (List Prop × AV) := match o.guard with
  | none => puV T asm i o s
  | some (j, want) => match (ops[j]?).bind (·.dst) with
    | none => none
    | some dj => match s.fr.lookup dj with
      | some (.c (.s (.b b))) => (match b, want with
        | true, true => puV T asm i o s
        | false, false => puV T asm i o s
        | true, false => some ([], .t [])
        | false, true => some ([], .t []))
      | some (.t []) => some ([], .t [])
      | _ => none
theorem get_look {x y : Array Value} (hs : x.size = y.size) {t : Nat} (h : x.getD t undef = y.getD t undef) : x[t]? = y[t]? := by
  by_cases ht : t < x.size
  · have hy : t < y.size := by omega
    simp only [Array.getD_eq_getD_getElem?, Array.getElem?_eq_getElem ht, Array.getElem?_eq_getElem hy, Option.getD_some] at h
    rw [Array.getElem?_eq_getElem ht, Array.getElem?_eq_getElem hy, h]
  · rw [Array.getElem?_eq_none (by omega), Array.getElem?_eq_none (by omega)]
theorem exec_look {o : Oper} (hs : ∀ cs b, o.op ≠ .select cs b) (hl : ∀ t ∈ o.looksAt ops, a.tmps.getD t undef = a'.tmps.getD t undef) : execOp a.eval o = execOp a'.eval o :=
  execOp_congr o hs fun x hx => by
    cases x with
    | tmp t => exact hl t (List.mem_append_left _ (List.mem_filterMap.2 ⟨.tmp t, by simpa using hx, rfl⟩))
    | _ => rfl
theorem wanted_look {o : Oper} (hs : a.tmps.size = a'.tmps.size) (hl : ∀ t ∈ o.looksAt ops, a.tmps.getD t undef = a'.tmps.getD t undef) : Region.wanted o (yielded ops a.tmps) = Region.wanted o (yielded ops a'.tmps) := by
  unfold Region.wanted
  cases hg : o.guard with
  | none => rfl
  | some gw =>
    obtain ⟨g, want⟩ := gw
    have hy : yielded ops a.tmps g = yielded ops a'.tmps g := by
      unfold yielded
      cases ht : (ops[g]?).bind (·.dst) with
      | none => rfl
      | some t =>
        have := get_look hs (hl t (by unfold Oper.looksAt; rw [hg]; simp [ht]))
        simp only [Option.bind_some, this]
    simp only [hy]
theorem wp_shift {o : Oper} {K : Act → World → Prop} {Q : Exit → Act → World → Prop} (he : execOp a.eval o = execOp a'.eval o) (hK : ∀ a w, K a w → a.defers = []) (h : o.wp P a' w K (fun _ _ _ => False)) :
    o.wp P a w (fun a1 w1 => ∃ v, a1 = a.put o.dst v ∧ K (a'.put o.dst v) w1) Q := by
  unfold Oper.wp at *
  rw [he]
  generalize (execOp a'.eval o).run P w = r at *
  cases r with
  | ok n w' =>
    cases n <;> simp only [Oper.upon] at h ⊢ <;>
    first
    | exact ⟨_, rfl, h⟩
    | exact Calls.mono h (fun e w'' he => by
        cases e with
        | returned v => exact ⟨v, rfl, he⟩
        | panicked c => exact he.elim
        | outgrown => obtain ⟨_, _, hf⟩ := he; exact hf.elim)
    | exact Rows.mono h (fun _ _ he => ⟨_, rfl, he⟩)
    | (have := hK _ _ h; rw [put_defers] at this; cases this)
  | halt x w' => cases x <;> simp only [Oper.upon] at h ⊢
theorem puV_ok (hT : TabOk P T) {i : Nat} {o : Oper} {g : List Prop} {z : AV} (h : puV T asm i o s = some (g, z)) (hg : allP g) (hR : RelA ρ bs w0 s a' w) :
    ∃ v, avR ρ z v ∧ (execOp a'.eval o).run P w = .ok (.value v) w := by
  obtain ⟨dst, op, ty, pos, aft, gd⟩ := o
  have hae := fun x av h => ev0_ok (ρ := ρ) (a := a') hR.fr hR.gl x av h
  unfold puV at h
  split at h
  · rename_i r hv
    obtain ⟨g1, z1⟩ := r
    unfold vA at h
    split at h
    · injection h with h; simp only [Prod.mk.injEq] at h; obtain ⟨rfl, rfl⟩ := h
      obtain ⟨u, hr, hu⟩ := vop_ok hT hR.hp hae hv hg dst ty pos aft gd
      exact ⟨u, hu, hr⟩
    · split at h
      · rename_i bv _ g2 e hge
        simp only [Prod.mk.injEq] at hge; obtain ⟨rfl, rfl⟩ := hge
        injection h with h; simp only [Prod.mk.injEq] at h; obtain ⟨rfl, rfl⟩ := h
        obtain ⟨ga, gb⟩ := allP_append.1 hg
        simp only [allP] at gb
        subst gb
        obtain ⟨u, hr, hu⟩ := vop_ok hT hR.hp hae hv ga dst ty pos aft gd
        exact ⟨u, hu, hr⟩
      · cases h
  · cases h
/-- such an operation, in a frame that agrees where it looks -/
theorem puG_ok (hT : TabOk P T) {i : Nat} {o : Oper} (hs : ∀ cs b, o.op ≠ .select cs b) {g : List Prop} {z : AV} (h : puG T ops asm i o s = some (g, z)) (hg : allP g) (hR : RelA ρ bs w0 s a' w) :
    ∃ v, avR ρ z v ∧ ∀ (a : Act), a.tmps.size = a'.tmps.size → (∀ t ∈ o.looksAt ops, a.tmps.getD t undef = a'.tmps.getD t undef) → ∀ (K : Act → World → Prop) (Q : Exit → Act → World → Prop), K (a.put o.dst v) w →
      if Region.wanted o (yielded ops a.tmps) = true then o.wp P a w K Q ∨ (o.asks P a w ∧ LetsOut Q) else K (a.put o.dst undef) w := by
  have go : puV T asm i o s = some (g, z) → Region.wanted o (yielded ops a'.tmps) = true → ∃ v, avR ρ z v ∧ ∀ (a : Act), a.tmps.size = a'.tmps.size → (∀ t ∈ o.looksAt ops, a.tmps.getD t undef = a'.tmps.getD t undef) → ∀ (K : Act → World → Prop) (Q : Exit → Act → World → Prop), K (a.put o.dst v) w →
      if Region.wanted o (yielded ops a.tmps) = true then o.wp P a w K Q ∨ (o.asks P a w ∧ LetsOut Q) else K (a.put o.dst undef) w := fun h1 hw => by
    obtain ⟨v, hv, hr⟩ := puV_ok hT h1 hg hR
    refine ⟨v, hv, fun a hsz hl K Q hK => ?_⟩
    rw [wanted_look hsz hl, if_pos hw]
    refine .inl ?_
    unfold Oper.wp
    rw [exec_look hs hl, hr]
    exact hK
  have skip : (some (([] : List Prop), AV.t []) : Option (List Prop × AV)) = some (g, z) → Region.wanted o (yielded ops a'.tmps) = false → ∃ v, avR ρ z v ∧ ∀ (a : Act), a.tmps.size = a'.tmps.size → (∀ t ∈ o.looksAt ops, a.tmps.getD t undef = a'.tmps.getD t undef) → ∀ (K : Act → World → Prop) (Q : Exit → Act → World → Prop), K (a.put o.dst v) w →
      if Region.wanted o (yielded ops a.tmps) = true then o.wp P a w K Q ∨ (o.asks P a w ∧ LetsOut Q) else K (a.put o.dst undef) w := fun h1 hw => by
    injection h1 with h1; simp only [Prod.mk.injEq] at h1; obtain ⟨rfl, rfl⟩ := h1
    refine ⟨undef, ⟨[], F2.nil, rfl⟩, fun a hsz hl K Q hK => ?_⟩
    rw [wanted_look hsz hl, hw]
    exact hK
  unfold puG at h
  split at h
  · rename_i hgd
    exact go h (by unfold Region.wanted; rw [hgd])
  · rename_i j want hgd
    split at h
    · cases h
    · rename_i dj hdj
      split at h
      · rename_i b hb
        have hv : a'.tmps.getD dj undef = .bool b := hR.fr dj _ hb
        have hw := wanted_b hgd hdj hv
        split at h
        · exact go h hw
        · exact go h hw
        · exact skip h hw
        · exact skip h hw
      · rename_i hb
        have hv : avR ρ (.t []) (a'.tmps.getD dj undef) := hR.fr dj _ hb
        exact skip h (wanted_u hgd hdj (undef_of hv))
      · cases h
def runP (T : Tab) (N : Nat) (ops : Array Oper) (asm : List (Nat × Bool)) : List Nat → S → Option (List Prop × S)
  | [], s => some ([], s)
  | i :: is, s => match ops[i]? with
    | none => none
    | some o => match dOk N o.dst, puG T ops asm i o s with
      | true, some (g, z) => (match runP T N ops asm is ⟨putF s.fr o.dst z, s.gl, s.H⟩ with
        | some (g2, s2) => some (g ++ g2, s2)
        | none => none)
      | _, _ => none
theorem runP_ok (hT : TabOk P T) (hs : ∀ (i : Nat) (o : Oper), ops[i]? = some o → ∀ cs b, o.op ≠ .select cs b) (is : List Nat) : ∀ (g : List Prop) (s : S) (a : Act), runP T N ops asm is s = some (g, s') → allP g → Rel N bs w0 s a w →
    ∃ a', Rel N bs w0 s' a' w ∧ ∀ t, (∀ i ∈ is, ∀ o, ops[i]? = some o → o.dst ≠ some t) → a'.tmps.getD t undef = a.tmps.getD t undef := by
  induction is with
  | nil =>
    intro g s a h hg hR
    injection h with h; simp only [Prod.mk.injEq] at h; obtain ⟨rfl, rfl⟩ := h
    exact ⟨a, hR, fun _ _ => rfl⟩
  | cons i is ih =>
    intro g s a h hg hR
    simp only [runP] at h
    split at h
    · cases h
    · rename_i o ho
      split at h
      · rename_i g1 z hdk hp
        split at h
        · rename_i g2 s2 h2
          injection h with h; simp only [Prod.mk.injEq] at h; obtain ⟨rfl, rfl⟩ := h
          obtain ⟨ga, gb⟩ := allP_append.1 hg
          obtain ⟨r1, r2, ρ, r3⟩ := hR
          obtain ⟨v, hv, _⟩ := puG_ok hT (hs i o ho) hp ga r3
          obtain ⟨a2, hR2, hl⟩ := ih g2 _ (a.put o.dst v) h2 gb ⟨by rw [put_defers]; exact r1, by rw [put_size]; exact r2, ρ, r3.put hv (dOk_ok hdk r2)⟩
          refine ⟨a2, hR2, fun t ht => ?_⟩
          rw [hl t (fun j hj => ht j (List.mem_cons_of_mem _ hj)), getD_put_other _ _ _ _ (ht i List.mem_cons_self o ho)]
        · cases h
      · cases h

/-- one way on: from node n the operation m leads to node t, then the operations ps; the same in other words -/
structure Ed where
  n : Nat
  m : Nat
  t : Nat
  ps : List Nat
  cs : List Co
  live : List Nat
  objs : List Nat
def stE (T : Tab) (ft : Nat → FT) (N : Nat) (ops : Array Oper) (asm : List (Nat × Bool)) (e : Ed) (s : S) : Option (List Prop × S) := match ops[e.m]? with
  | none => none
  | some o => match stG T ft N ops asm e.m o s with
    | none => none
    | some (g1, s1) => match runP T N ops asm e.ps s1 with
      | none => none
      | some (g2, s2) => match after e.cs e.live e.objs s2 with
        | none => none
        | some s3 => some (g1 ++ g2, s3)
def st0 (T : Tab) (N : Nat) (ops : Array Oper) (asm : List (Nat × Bool)) (ps : List Nat) (cs : List Co) (live objs : List Nat) (s : S) : Option (List Prop × S) := match runP T N ops asm ps s with
  | none => none
  | some (g, s1) => match after cs live objs s1 with
    | none => none
    | some s2 => some (g, s2)
def rdL (T : Tab) (ops : Array Oper) (asm : List (Nat × Bool)) (p : Nat) (s : S) : Option (Option (List Prop × AV)) := match ops[p]? with
  | some o => some (puG T ops asm p o s)
  | none => none
def rdR (ops : Array Oper) (g : List Prop) (p : Nat) (s : S) : Option (Option (List Prop × AV)) := match (ops[p]?).bind (·.dst) with
  | some d => (match s.fr.lookup d with | some z => some (some (g, z)) | none => none)
  | none => none
inductive AllE (T : Tab) (ft : Nat → FT) (N : Nat) (ops : Array Oper) (asm : List (Nat × Bool)) (sts : List S) (s : S) : List Ed → Prop
  | nil : AllE T ft N ops asm sts s []
  | cons {e : Ed} {l : List Ed} : (∃ g, stE T ft N ops asm e (sts.getD e.n s) = some (g, sts.getD e.t s) ∧ allP g) → AllE T ft N ops asm sts s l → AllE T ft N ops asm sts s (e :: l)
inductive AllR (T : Tab) (ops : Array Oper) (asm : List (Nat × Bool)) (sts : List S) (s : S) : List (Nat × Nat) → Prop
  | nil : AllR T ops asm sts s []
  | cons {k p : Nat} {l : List (Nat × Nat)} : (∃ g, rdL T ops asm p (sts.getD k s) = rdR ops g p (sts.getD k s) ∧ allP g) → AllR T ops asm sts s l → AllR T ops asm sts s ((k, p) :: l)
theorem AllE.mem {sts : List S} {l : List Ed} (h : AllE T ft N ops asm sts s l) : ∀ e ∈ l, ∃ g, stE T ft N ops asm e (sts.getD e.n s) = some (g, sts.getD e.t s) ∧ allP g := by
  induction h with
  | nil => intro e he; cases he
  | cons h1 _ ih =>
    intro e he
    rcases List.mem_cons.1 he with rfl | he
    · exact h1
    · exact ih e he
theorem AllR.mem {sts : List S} {l : List (Nat × Nat)} (h : AllR T ops asm sts s l) : ∀ e ∈ l, ∃ g, rdL T ops asm e.2 (sts.getD e.1 s) = rdR ops g e.2 (sts.getD e.1 s) ∧ allP g := by
  induction h with
  | nil => intro e he; cases he
  | cons h1 _ ih =>
    intro e he
    rcases List.mem_cons.1 he with rfl | he
    · exact h1
    · exact ih e he

def okOps (ops : Array Oper) (N : Nat) (pu : List Nat) : Bool :=
  (List.range ops.size).all fun i => match ops[i]? with
    | none => false
    | some o => okEdges o (fun j => decide (j < i)) && ((match o.op with | .select _ _ => false | _ => true) &&
        (((o.looksAt ops).all fun t => pu.all fun p => match ops[p]? with | some q => q.dst != some t || inC ops i ops.size p | none => true) &&
        (!pu.contains i || (match o.dst with | some d => decide (d < N) | none => false))))
def okNode (ops : Array Oper) (pu : List Nat) (es : List Ed) (rd : List (Nat × Nat)) (k : Nat) (dn : List Nat) : Bool :=
  (List.range ops.size).all fun i => match dn.contains i with
    | true => !pu.contains i || (rd.contains (k, i) || dn.any fun m => !pu.contains m && (decide (m < ops.size) && inC ops m ops.size i))
    | false => (!pu.contains i && es.any fun e => Nat.beq e.n k && Nat.beq e.m i) || (List.range ops.size).any fun j => hasE ops i j && !dn.contains j
def okEdge (pu : List Nat) (nodes : List (List Nat)) (e : Ed) : Bool := match nodes[e.n]?, nodes[e.t]? with
  | some dn, some dt => !pu.contains e.m && (!dn.contains e.m && (e.ps.all (fun p => pu.contains p && !dn.contains p) && (dt.all (fun i => Nat.beq i e.m || (e.ps.contains i || dn.contains i)) && (dn.all (fun i => dt.contains i) && dt.contains e.m))))
  | _, _ => false
def okPlan (ops : Array Oper) (N : Nat) (pu : List Nat) (nodes : List (List Nat)) (ps0 : List Nat) (es : List Ed) (rd : List (Nat × Nat)) (fin : Nat) : Bool :=
  okOps ops N pu && (((List.range nodes.length).all fun k => okNode ops pu es rd k (nodes.getD k [])) && (es.all (okEdge pu nodes) &&
    ((ps0.all fun p => pu.contains p) && (((nodes.getD 0 []).all fun p => pu.contains p) && (decide (0 < nodes.length) &&
      ((List.range nodes.length).all fun k => Nat.beq k fin || (List.range ops.size).any fun i => !(nodes.getD k []).contains i))))))
structure Pln (ops : Array Oper) (N : Nat) (pu : List Nat) (nodes : List (List Nat)) (ps0 : List Nat) (es : List Ed) (rd : List (Nat × Nat)) (fin : Nat) : Prop where
  edges : ∀ (i : Nat) (o : Oper), ops[i]? = some o → okEdges o (fun j => decide (j < i)) = true
  nosel : ∀ (i : Nat) (o : Oper), ops[i]? = some o → ∀ cs b, o.op ≠ .select cs b
  look : ∀ (i : Nat) (o : Oper), ops[i]? = some o → ∀ t ∈ o.looksAt ops, ∀ p, p ∈ pu → ∀ (q : Oper), ops[p]? = some q → q.dst = some t → inC ops i ops.size p = true
  pdst : ∀ (p : Nat) (o : Oper), p ∈ pu → ops[p]? = some o → ∃ d, o.dst = some d ∧ d < N
  nin : ∀ k dn, nodes[k]? = some dn → ∀ i, i < ops.size → i ∈ dn → i ∈ pu → (k, i) ∈ rd ∨ ∃ m ∈ dn, m ∉ pu ∧ m < ops.size ∧ inC ops m ops.size i = true
  nout : ∀ k dn, nodes[k]? = some dn → ∀ i, i < ops.size → i ∉ dn → (i ∉ pu ∧ ∃ e ∈ es, e.n = k ∧ e.m = i) ∨ ∃ j, hasE ops i j = true ∧ j ∉ dn
  edge : ∀ e ∈ es, ∃ dn dt, nodes[e.n]? = some dn ∧ nodes[e.t]? = some dt ∧ e.m ∉ pu ∧ e.m ∉ dn ∧ (∀ p ∈ e.ps, p ∈ pu ∧ p ∉ dn) ∧ (∀ i ∈ dt, i = e.m ∨ i ∈ e.ps ∨ i ∈ dn) ∧ (∀ i ∈ dn, i ∈ dt) ∧ e.m ∈ dt
  start : ∀ p ∈ ps0, p ∈ pu
  zero : ∃ dn, nodes[0]? = some dn ∧ ∀ p ∈ dn, p ∈ pu
  last : ∀ k dn, nodes[k]? = some dn → (∀ i, i < ops.size → i ∈ dn) → k = fin
theorem Pln.of {pu : List Nat} {nodes : List (List Nat)} {ps0 : List Nat} {es : List Ed} {rd : List (Nat × Nat)} {fin : Nat} (h : okPlan ops N pu nodes ps0 es rd fin = true) : Pln ops N pu nodes ps0 es rd fin := by
  unfold okPlan at h
  simp only [Bool.and_eq_true] at h
  obtain ⟨h1, h2, h3, h4, h5, h6, h7⟩ := h
  have H : ∀ (i : Nat) (o : Oper), ops[i]? = some o → _ := fun i o ho => by
    have hi := (Array.getElem?_eq_some_iff.1 ho).1
    have := List.all_eq_true.1 h1 i (List.mem_range.2 hi)
    rw [ho] at this
    simp only [Bool.and_eq_true] at this
    exact this
  have nd : ∀ k dn, nodes[k]? = some dn → k < nodes.length ∧ nodes.getD k [] = dn := fun k dn hk => ⟨(List.getElem?_eq_some_iff.1 hk).1, by rw [List.getD_eq_getElem?_getD, hk]; rfl⟩
  refine ⟨fun i o ho => (H i o ho).1, fun i o ho cs b e => ?_, fun i o ho t ht p hp q hq hd => ?_, fun p o hp ho => ?_, fun k dn hk i hi hin hpu => ?_, fun k dn hk i hi hin => ?_, fun e he => ?_, fun p hp => ?_, ⟨nodes.getD 0 [], ?_, fun p hp => ?_⟩, fun k dn hk hall => ?_⟩
  · have := (H i o ho).2.1
    rw [e] at this; cases this
  · have := List.all_eq_true.1 (List.all_eq_true.1 (H i o ho).2.2.1 t ht) p hp
    rw [hq] at this
    simp only [hd, Bool.or_eq_true, bne_self_eq_false, Bool.false_eq_true, false_or] at this
    exact this
  · have := (H p o ho).2.2.2
    rw [show pu.contains p = true by simpa using hp] at this
    simp only [Bool.not_true, Bool.false_or] at this
    cases hd : o.dst with
    | none => rw [hd] at this; cases this
    | some d => rw [hd] at this; exact ⟨d, rfl, by simpa using this⟩
  · obtain ⟨hk1, hk2⟩ := nd k dn hk
    have := List.all_eq_true.1 (List.all_eq_true.1 h2 k (List.mem_range.2 hk1)) i (List.mem_range.2 hi)
    rw [hk2, show dn.contains i = true by simpa using hin, show pu.contains i = true by simpa using hpu] at this
    simp only [Bool.not_true, Bool.false_or, Bool.or_eq_true, List.any_eq_true, Bool.and_eq_true, decide_eq_true_eq, Bool.not_eq_true'] at this
    rcases this with h | ⟨m, hm, h1, h2, h3⟩
    · exact .inl (by simpa using h)
    · exact .inr ⟨m, hm, by simpa using h1, h2, h3⟩
  · obtain ⟨hk1, hk2⟩ := nd k dn hk
    have := List.all_eq_true.1 (List.all_eq_true.1 h2 k (List.mem_range.2 hk1)) i (List.mem_range.2 hi)
    rw [hk2, show dn.contains i = false by simpa using hin] at this
    simp only [Bool.or_eq_true, List.any_eq_true, Bool.and_eq_true, Bool.not_eq_true'] at this
    rcases this with ⟨h, e, he, h1, h2⟩ | ⟨j, _, h1, h2⟩
    · exact .inl ⟨by simpa using h, e, he, Nat.eq_of_beq_eq_true h1, Nat.eq_of_beq_eq_true h2⟩
    · exact .inr ⟨j, h1, by simpa using h2⟩
  · have := List.all_eq_true.1 h3 e he
    unfold okEdge at this
    split at this
    · rename_i dn dt hn ht
      simp only [Bool.and_eq_true, List.all_eq_true, Bool.not_eq_true', Bool.or_eq_true] at this
      obtain ⟨g1, g2, g3, g4, g5, g6⟩ := this
      refine ⟨dn, dt, hn, ht, by simpa using g1, by simpa using g2, fun p hp => ?_, fun i hi => ?_, fun i hi => ?_, by simpa using g6⟩
      · have := g3 p hp; exact ⟨by simpa using this.1, by simpa using this.2⟩
      · rcases g4 i hi with h | h | h
        · exact .inl (Nat.eq_of_beq_eq_true h)
        · exact .inr (.inl (by simpa using h))
        · exact .inr (.inr (by simpa using h))
      · simpa using g5 i hi
    · cases this
  · simpa using List.all_eq_true.1 h4 p hp
  · have h6' : 0 < nodes.length := by simpa using h6
    rw [List.getD_eq_getElem?_getD, List.getElem?_eq_getElem h6']; rfl
  · simpa using List.all_eq_true.1 h5 p hp
  · obtain ⟨hk1, hk2⟩ := nd k dn hk
    have := List.all_eq_true.1 h7 k (List.mem_range.2 hk1)
    simp only [Bool.or_eq_true, List.any_eq_true, List.mem_range, Bool.not_eq_true'] at this
    rcases this with h | ⟨i, hi, h⟩
    · exact Nat.eq_of_beq_eq_true h
    · rw [hk2] at h
      have := hall i hi
      simp only [List.contains_eq_mem, decide_eq_false_iff_not] at h
      exact absurd this h

theorem okEdges_has {o : Oper} {g : Nat → Bool} {j : Nat} (hg : okEdges o g = true) (he : hasEdge o j = true) : g j = true := by
  unfold okEdges at hg
  unfold hasEdge at he
  obtain ⟨x, hx, hb⟩ := Array.any_eq_true'.1 he
  have := Array.all_eq_true'.1 hg x hx
  simp only [Bool.and_eq_true, beq_iff_eq] at hb
  rw [hb.1, hb.2] at this
  simpa using this
theorem okEdges_mono {o : Oper} {f g : Nat → Bool} (hf : okEdges o f = true) (hfg : ∀ j, f j = true → g j = true) : okEdges o g = true := by
  unfold okEdges at *
  rw [Array.all_eq_true'] at *
  intro x hx
  have := hf x hx
  simp only [Bool.or_eq_true, Bool.not_eq_true'] at this ⊢
  exact this.imp id (hfg _)
theorem getD_any {l : Array Bool} {i : Nat} (h : i < l.size) {d d' : Bool} : l.getD i d = l.getD i d' := by
  simp only [Array.getD_eq_getD_getElem?, Array.getElem?_eq_getElem h, Option.getD_some]
theorem Act.same {a a' : Act} (h : a.tmps.size = a'.tmps.size) (hd : a.defers = a'.defers) (ht : ∀ t, a.tmps.getD t undef = a'.tmps.getD t undef) : a = a' := by
  obtain ⟨x, d⟩ := a; obtain ⟨y, d'⟩ := a'
  simp only at h hd ht
  subst hd
  have : x = y := by
    apply Array.ext h
    intro i h1 h2
    have := ht i
    simpa only [Array.getD_eq_getD_getElem?, Array.getElem?_eq_getElem h1, Array.getElem?_eq_getElem h2, Option.getD_some] using this
  rw [this]

set_option maxHeartbeats 1000000 in
theorem any_G (hT : TabOk P T) (hF : ∀ i, FtOk P (Kp bs w0) (ft i)) {pu : List Nat} {nodes : List (List Nat)} {ps0 : List Nat} {es : List Ed} {rd : List (Nat × Nat)} {fin : Nat} (hp : Pln ops N pu nodes ps0 es rd fin) {sts : List S}
    (hE : AllE T ft N ops asm sts s es) (hD : AllR T ops asm sts s rd) {Q : Exit → Act → World → Prop} (hQ : ∀ a w, Rel N bs w0 (sts.getD fin s) a w → Q .normal a w) :
    ∀ (f k : Nat) (dn : List Nat) (listed : Array Bool) (a a' : Act) (w : World), listed.size = ops.size → (∀ j o, ops[j]? = some o → listed.getD j true = true → okEdges o (fun e => listed.getD e false) = true) →
      nodes[k]? = some dn → (∀ i, listed.getD i false = true → i ∈ dn) → (∀ i ∈ dn, i < ops.size → i ∉ pu → listed.getD i false = true) → cnt (fun j => listed.getD j true) ops.size ≤ f →
      Rel N bs w0 (sts.getD k s) a' w → a.tmps.size = N → a.defers = [] → (∀ t, (∀ p o, p ∈ pu → ops[p]? = some o → o.dst = some t → listed.getD p false = true) → a.tmps.getD t undef = a'.tmps.getD t undef) →
      wpAny P .any ops Q f listed a w := by
  intro f
  have fini : ∀ (k : Nat) (dn : List Nat) (listed : Array Bool) (a a' : Act) (w : World), listed.size = ops.size → nodes[k]? = some dn → (∀ i, listed.getD i false = true → i ∈ dn) → cnt (fun j => listed.getD j true) ops.size = 0 →
      Rel N bs w0 (sts.getD k s) a' w → a.tmps.size = N → a.defers = [] → (∀ t, (∀ p o, p ∈ pu → ops[p]? = some o → o.dst = some t → listed.getD p false = true) → a.tmps.getD t undef = a'.tmps.getD t undef) → Q .normal a w := by
    intro k dn listed a a' w hs hk hsub hc hR hn hd hl
    have hall := cnt_zero _ _ hc
    have hall' : ∀ i, i < ops.size → listed.getD i false = true := fun i hi => by rw [getD_any (d' := true) (by omega)]; exact hall i hi
    have := hp.last k dn hk (fun i hi => hsub i (hall' i hi))
    subst this
    have e : a = a' := Act.same (by rw [hn, hR.size]) (by rw [hd, hR.dfr]) (fun t => hl t (fun p o _ ho _ => hall' p (Array.getElem?_eq_some_iff.1 ho).1))
    rw [e]; exact hQ a' w hR
  induction f with
  | zero =>
    intro k dn listed a a' w hs hcl hk hsub hmn hc hR hn hd hl
    have hc0 : cnt (fun j => listed.getD j true) ops.size = 0 := by omega
    have hall := cnt_zero _ _ hc0
    refine ⟨List.eq_nil_iff_forall_not_mem.2 fun i hi => ?_, fini k dn listed a a' w hs hk hsub hc0 hR hn hd hl⟩
    obtain ⟨o, ho, h1, _⟩ := Go.Ch.mem_ready.1 hi
    have := hall i (Array.getElem?_eq_some_iff.1 ho).1
    rw [this] at h1; cases h1
  | succ f ih =>
    intro k dn listed a a' w hs hcl hk hsub hmn hc hR hn hd hl
    refine ⟨fun h0 => ?_, fun i hi => ?_⟩
    · refine fini k dn listed a a' w hs hk hsub ?_ hR hn hd hl
      -- all have come up, else the least that has not is ready
      have key : ∀ m, m ≤ ops.size → ∀ j < m, listed.getD j true = true := by
        intro m
        induction m with
        | zero => intro _ j hj; omega
        | succ m ihm =>
          intro hm j hj
          have hlt := ihm (by omega)
          by_cases e : j = m
          · subst e
            cases hj' : listed.getD j true
            · have hjs : j < ops.size := by omega
              have : j ∈ Region.ready .any ops listed := Go.Ch.mem_ready.2 ⟨_, Array.getElem?_eq_getElem hjs, hj', okEdges_mono (hp.edges j _ (Array.getElem?_eq_getElem hjs)) (fun q hq => by
                have hq' : q < j := by simpa using hq
                rw [getD_any (d' := true) (by omega)]; exact hlt q hq')⟩
              rw [h0] at this; cases this
            · rfl
          · exact hlt j (by omega)
      rw [cnt_congr ops.size (l' := fun _ => true) (fun j hj => key ops.size (Nat.le_refl _) j hj)]
      exact cnt_true _
    · obtain ⟨o, ho, h1, h2⟩ := Go.Ch.mem_ready.1 hi
      have hin := (Array.getElem?_eq_some_iff.1 ho).1
      have hgs : ∀ j d, (listed.setIfInBounds i true).getD j d = if j = i then true else listed.getD j d := fun j d => getD_set listed i d j (by omega)
      have hcl' : ∀ j oj, ops[j]? = some oj → (listed.setIfInBounds i true).getD j true = true → okEdges oj (fun e => (listed.setIfInBounds i true).getD e false) = true := fun j oj hoj hlj => by
        by_cases e : j = i
        · subst e
          rw [ho] at hoj; injection hoj with hoj; subst hoj
          exact okEdges_mono h2 (fun x hx => by rw [hgs]; split <;> simp_all)
        · rw [hgs, if_neg e] at hlj
          exact okEdges_mono (hcl j oj hoj hlj) (fun x hx => by rw [hgs]; split <;> simp_all)
      have hcnt' : cnt (fun j => (listed.setIfInBounds i true).getD j true) ops.size ≤ f := by
        have := cnt_set (fun j => listed.getD j true) i ops.size hin h1
        rw [cnt_congr ops.size (l' := fun j => if j = i then true else listed.getD j true) (fun j _ => hgs j true)]
        omega
      have hlk : ∀ t ∈ o.looksAt ops, a.tmps.getD t undef = a'.tmps.getD t undef := fun t ht => hl t (fun p q hpp hq hdq => inC_ok hcl hs ho h2 _ _ (hp.look i o ho t ht p hpp q hq hdq))
      have hsz : a.tmps.size = a'.tmps.size := by rw [hn, hR.size]
      have hnot : listed.getD i false = false := by rw [getD_any (d' := true) (by omega)]; exact h1
      unfold wpOp
      rw [ho]
      show if Region.wanted o (yielded ops a.tmps) = true then _ else _
      by_cases hpu : i ∈ pu
      · -- it leaves the world alone
        have hidn : i ∈ dn := by
          by_cases hdn : i ∈ dn
          · exact hdn
          · exfalso
            rcases hp.nout k dn hk i hin hdn with ⟨h, _⟩ | ⟨j, hj, hjn⟩
            · exact h hpu
            · unfold hasE at hj; rw [ho] at hj
              exact hjn (hsub j (okEdges_has h2 hj))
        have hrd : (k, i) ∈ rd := by
          rcases hp.nin k dn hk i hin hidn hpu with h | ⟨m, hm, hmp, hms, hmi⟩
          · exact h
          · exfalso
            have hml := hmn m hm hms hmp
            have hom : ops[m]? = some ops[m] := Array.getElem?_eq_getElem hms
            have := inC_ok hcl hs hom (hcl m _ hom (by rw [getD_any (d' := false) (by omega)]; exact hml)) _ _ hmi
            rw [this] at hnot; cases hnot
        obtain ⟨d, hdd, hdN⟩ := hp.pdst i o hpu ho
        obtain ⟨g, hg1, hg2⟩ := hD.mem _ hrd
        simp only [rdL, rdR, ho, Option.bind_some, hdd] at hg1
        split at hg1
        · rename_i z hz
          injection hg1 with hg1
          obtain ⟨r1, r2, ρ, r3⟩ := hR
          obtain ⟨v, hv, hrun⟩ := puG_ok hT (hp.nosel i o ho) hg1 hg2 r3
          refine hrun a hsz hlk _ _ (ih k dn _ _ (a'.put o.dst v) w (by simpa using hs) hcl' hk (fun j hj => ?_) (fun j hj hjs hjp => ?_) hcnt' ⟨by rw [put_defers]; exact r1, by rw [put_size]; exact r2, ρ, ?_, r3.gl, r3.hp, r3.sep, r3.own, r3.kp⟩ (by rw [put_size]; exact hn) (by rw [put_defers]; exact hd) (fun t ht => ?_))
          · rw [hgs] at hj
            split at hj
            · rename_i e; rw [e]; exact hidn
            · exact hsub j hj
          · rw [hgs]; split
            · rfl
            · exact hmn j hj hjs hjp
          · intro t x hx
            rw [hdd]
            by_cases e : d = t
            · subst e
              rw [hz] at hx; injection hx with hx; subst hx
              rw [getD_put_same _ _ _ (by rw [r2]; exact hdN)]; exact hv
            · rw [getD_put_other _ _ _ _ (by simpa using e)]; exact r3.fr t x hx
          · rw [hdd]
            by_cases e : d = t
            · subst e
              rw [getD_put_same _ _ _ (by rw [hn]; exact hdN), getD_put_same _ _ _ (by rw [r2]; exact hdN)]
            · rw [getD_put_other _ _ _ _ (by simpa using e), getD_put_other _ _ _ _ (by simpa using e)]
              refine hl t (fun p q hpp hq hdq => ?_)
              have := ht p q hpp hq hdq
              rw [hgs] at this
              split at this
              · rename_i e2; subst e2
                rw [ho] at hq; injection hq with hq; subst hq
                rw [hdd] at hdq; injection hdq with hdq; exact absurd hdq e
              · exact this
        · cases hg1
      · -- it may change the world
        have hidn : i ∉ dn := fun h => by have := hmn i h hin hpu; rw [this] at hnot; cases hnot
        obtain ⟨e, he, rfl, rfl⟩ : ∃ e ∈ es, e.n = k ∧ e.m = i := by
          rcases hp.nout k dn hk i hin hidn with ⟨_, h⟩ | ⟨j, hj, hjn⟩
          · exact h
          · exfalso
            unfold hasE at hj; rw [ho] at hj
            exact hjn (hsub j (okEdges_has h2 hj))
        obtain ⟨dn', dt, hn1, ht1, _, _, hps, hdt, hsb, hmd⟩ := hp.edge e he
        rw [hk] at hn1; injection hn1 with hn1; subst hn1
        obtain ⟨g, hg1, hg2⟩ := hE.mem e he
        unfold stE at hg1
        rw [ho] at hg1
        simp only at hg1
        split at hg1
        · cases hg1
        · rename_i g1 s1 hst
          split at hg1
          · cases hg1
          · rename_i g2 s2 hrp
            split at hg1
            · cases hg1
            · rename_i s3 haf
              injection hg1 with hg1; simp only [Prod.mk.injEq] at hg1; obtain ⟨rfl, rfl⟩ := hg1
              obtain ⟨ga, gb⟩ := allP_append.1 hg2
              have next : ∀ v w1, Rel N bs w0 s1 (a'.put o.dst v) w1 → wpAny P .any ops Q f (listed.setIfInBounds e.m true) (a.put o.dst v) w1 := fun v w1 hR1 => by
                obtain ⟨a2, hR2, hl2⟩ := runP_ok hT hp.nosel e.ps g2 s1 _ hrp gb hR1
                refine ih e.t dt _ _ a2 w1 (by simpa using hs) hcl' ht1 (fun j hj => ?_) (fun j hj hjs hjp => ?_) hcnt' (after_ok haf hR2) (by rw [put_size]; exact hn) (by rw [put_defers]; exact hd) (fun t ht => ?_)
                · rw [hgs] at hj
                  split at hj
                  · rename_i e2; rw [e2]; exact hmd
                  · exact hsb j (hsub j hj)
                · rw [hgs]; split
                  · rfl
                  · rename_i hne
                    rcases hdt j hj with h | h | h
                    · exact absurd h hne
                    · exact absurd (hps j h).1 hjp
                    · exact hmn j h hjs hjp
                · have hold : ∀ p q, p ∈ pu → ops[p]? = some q → q.dst = some t → listed.getD p false = true := fun p q hpp hq hdq => by
                    have := ht p q hpp hq hdq
                    rw [hgs] at this
                    split at this
                    · rename_i e2; subst e2; exact absurd hpp hpu
                    · exact this
                  rw [hl2 t (fun p hpp q hq hdq => by
                    have h3 := hps p hpp
                    exact h3.2 (hsub p (hold p q h3.1 hq hdq)))]
                  by_cases e2 : o.dst = some t
                  · rw [e2]
                    by_cases hlt : t < N
                    · rw [getD_put_same _ _ _ (by rw [hn]; exact hlt), getD_put_same _ _ _ (by rw [hR.size]; exact hlt)]
                    · have e3 : ∀ (x : Act), x.tmps.size = N → x.tmps.getD t undef = undef := fun x hx => by
                        rw [Array.getD_eq_getD_getElem?, Array.getElem?_eq_none (by rw [hx]; exact Nat.le_of_not_lt hlt)]; rfl
                      rw [e3 _ (by rw [put_size]; exact hn), e3 _ (by rw [put_size]; exact hR.size)]
                  · rw [getD_put_other _ _ _ _ e2, getD_put_other _ _ _ _ e2]
                    exact hl t hold
              have hgo := stG_ok hT hF hst ga hR (Q := fun _ _ _ => False) (K := fun a1 w1 => Rel N bs w0 s1 a1 w1) (fun _ _ h => h)
              rw [wanted_look hsz hlk]
              split at hgo
              · rename_i hw
                rw [if_pos hw]
                rcases hgo with hgo | ⟨_, _, _, hf⟩
                · exact .inl (Oper.wp_mono (fun a1 w1 ⟨v, hv, hR1⟩ => by rw [hv]; exact next v w1 hR1) (wp_shift (exec_look (hp.nosel e.m o ho) hlk) (fun _ _ h => h.dfr) hgo))
                · exact hf.elim
              · rename_i hw
                rw [if_neg hw]
                exact next undef w hgo

/-- A REGION THAT DRAWS ITS ORDER, any: the ways that it may take are walked one by one, from what has been done to what has been done; operations that leave the world alone are carried out as soon as they may be -/
theorem W_regG (hT : TabOk P T) (hF : ∀ i, FtOk P (Kp bs w0) (ft i)) (hm : P.follows .mixedOrders = true) {id : Nat} {l : List Oper} (asm : List (Nat × Bool)) (pu : List Nat) (nodes : List (List Nat)) (sts : List S) (ps0 : List Nat) (es : List Ed) (rd : List (Nat × Nat)) (fin : Nat) (live0 objs0 : List Nat) (cs : List Co) (live objs : List Nat) {s' : S}
    (hr : okPlan l.toArray N pu nodes ps0 es rd fin = true)
    (h0 : ∃ g, st0 T N l.toArray asm ps0 [] live0 objs0 s = some (g, sts.getD 0 s) ∧ allP g)
    (hE : AllE T ft N l.toArray asm sts s es) (hD : AllR T l.toArray asm sts s rd)
    (hf : after cs live objs (sts.getD fin s) = some s')
    {Q : Exit → S → Prop} (hQ : Q .normal s') : W P N bs w0 (.region id l.toArray true) s Q := by
  intro a w hR
  have hp := Pln.of hr
  obtain ⟨g, hg1, hg2⟩ := h0
  have hR' : Rel N bs w0 s a w.drew := by
    obtain ⟨r1, r2, ρ, r3⟩ := hR
    exact ⟨r1, r2, ρ, r3.fr, r3.gl, fun i o ho => (r3.hp i o ho).keep fun _ _ _ => rfl, r3.sep, r3.own, r3.kp.drew⟩
  unfold st0 at hg1
  split at hg1
  · cases hg1
  rename_i g0 s1 hrun
  split at hg1
  · cases hg1
  rename_i s2 haf
  injection hg1 with hg1; simp only [Prod.mk.injEq] at hg1; obtain ⟨rfl, rfl⟩ := hg1
  obtain ⟨a', hR1, hl⟩ := runP_ok hT hp.nosel ps0 g0 s a hrun hg2 hR'
  have hR2 := after_ok haf hR1
  obtain ⟨dn, hdn, hdp⟩ := hp.zero
  have none' : ∀ i d, (Array.replicate l.toArray.size false).getD i d = true → d = true := fun i d h => by
    simp only [Array.getD_eq_getD_getElem?, Array.getElem?_replicate] at h
    split at h
    · cases h
    · exact h
  refine wp_region_any hm (any_G hT hF hp hE hD (Q := fun ex a' w' => ∃ s', Q ex s' ∧ Rel N bs w0 s' a' w') (fun a w h => ⟨s', hQ, after_ok hf h⟩) _ 0 dn _ a a' w.drew (by simp) (fun j o ho hlj => ?_) hdn (fun i hi => ?_) (fun i hi _ hn => absurd (hdp i hi) hn) ?_ hR2 hR.size hR.dfr (fun t ht => ?_))
  · have := (Array.getElem?_eq_some_iff.1 ho).1
    simp only [Array.getD_eq_getD_getElem?, Array.getElem?_replicate, if_pos this, Option.getD_some] at hlj
    cases hlj
  · have := none' i false hi; cases this
  · have : ∀ m, m ≤ l.toArray.size → cnt (fun j => (Array.replicate l.toArray.size false).getD j true) m ≤ m := by
      intro m
      induction m with
      | zero => intro _; exact Nat.le_refl _
      | succ m ih => intro hm; simp only [cnt]; have := ih (by omega); split <;> omega
    exact this _ (Nat.le_refl _)
  · refine (hl t (fun i hi o ho hd => ?_)).symm
    have := none' i false (ht i o (hp.start i hi) ho hd); cases this
end
end Go.Sx
end
section
set_option linter.unusedVariables false
set_option linter.unusedSimpArgs false
namespace Go.Proofs.YtamddohbpdbdmaaDoor
open Go.RowKit Go.Ch Go.Sx Go.Lib Go.Shelf Go.Proofs

theorem cat_u8 : (Tryd.prog.info? 5).map (fun i => (i.zero, i.size, i.bytes)) = some (some (.int .u8 0), 1, 1) := by kernel_rfl
set_option maxHeartbeats 2000000 in
set_option maxRecDepth 100000 in
theorem grow_0 (w : World) : Calls Tryd.prog 30 #[.slice none 0 0, .int .i64 0] w (Ret fun v w' => Ext w w' ∧ Own w' w.heap.size 5 v []) := by
  go_enter Tryd.func30, Tryd.ntmps30
  go_wp2
  go_ret
  exact ⟨_, rfl, Below.refl _ _, World.ownsRow_nil _ _ _ _⟩
set_option maxHeartbeats 4000000 in
set_option maxRecDepth 100000 in
theorem grow_1 (w : World) (n : Nat) (h0 : 0 < n) (hn : n ≤ 1000000000000) : Calls Tryd.prog 30 #[.slice none 0 0, .int .i64 n] w (Ret fun v w' => Ext w w' ∧ Own w' w.heap.size 5 v []) := by
  obtain ⟨i0, hi0, hz0, hs0, hb0⟩ := info_parts cat_u8
  have t22 : Tryd.prog.underlying 22 = some (.slice 5) := Tryd.underlying22
  have t3 : Tryd.prog.underlying 3 = some (.int .i64) := Tryd.underlying3
  have u22 := run_underlying t22
  have u3 := run_underlying t3
  have h1 : ¬ ((n : Int) < 0) := by omega
  have h3 : wrap64 ((n : Int) - 0) = (n : Int) := by unfold wrap64; omega
  have h4 : (n : Int) > 0 := by omega
  have hold : (Builtin.firstCells i0.size 0 (.slice none 0 0)).run Tryd.prog w.drew = .ok (#[] : Array Value) w.drew := run_firstCells_none w.drew i0.size 0 0 0
  have hrz : ∀ ty, (Builtin.append_ #[22, 3] ty #[.slice none 0 0, .int .i64 (n : Int)]).run Tryd.prog w =
      .ok (.slice (some ⟨w.heap.size, 0, none⟩) n (grownCap w n 0 5)) (w.drew.alloc (.cells (#[] ++ Builtin.zeroCells (Value.cells (.int .u8 0)) n ++ Builtin.zeroCells (Value.cells (.int .u8 0)) (grownCap w n 0 5 - n)) 5)) := fun ty => by
    have h := Lib.run_append_grow_zeros w 22 3 ty 5 i0 (.int .u8 0) .i64 .i64 t22 t3 hi0 hz0 none 0 0 [] hold n (by omega) (by omega) (by omega) (by omega)
      (by rw [hb0]; omega)
      (by have := growslice_fits (show 0 < n from h0) (show n * i0.bytes ≤ 140737488355328 by rw [hb0]; omega); simpa using this)
    simpa using h
  have hGn : n ≤ grownCap w n 0 5 := grownCap_ge w _ _ _
  have hGm := grownCap_le_maxLen w n 0 5 (by unfold maxLen; omega)
  obtain ⟨G, hG⟩ : ∃ G, G = grownCap w n 0 5 := ⟨_, rfl⟩
  rw [← hG] at hrz hGn hGm
  have hG63 : G ≤ 9223372036854775807 := by unfold maxLen at hGm; omega
  clear hold hG
  go_enter Tryd.func30, Tryd.ntmps30
  go_wp2_with (at_builtin; refine Lib.wpList_append_run _ rfl _ _ _ _ rfl _ _ rfl rfl _ _ (hrz _) ?_)
  all_goals
    go_ret
    refine ⟨_, rfl, ?_, rfl, .inr ⟨w.heap.size, G, Builtin.zeroCells #[Value.int .u8 0] n ++ Builtin.zeroCells #[Value.int .u8 0] (G - n), rfl, Nat.le_refl _, ?_, Nat.zero_le _, hGm, ?_, ?_⟩⟩
    · exact ((Below.refl _ _).alloc (Nat.le_refl _) _).drew
    · show (w.heap.push _)[w.heap.size]? = _
      exact Array.getElem?_push_size
    · have hz : ∀ k, (Builtin.zeroCells #[Value.int .u8 0] k).size = k := fun k => by simp [Builtin.zeroCells]
      rw [Array.size_append, hz, hz]; omega
    · simp
theorem grow_c (w : World) (n : Nat) (hn : n ≤ 1000000000000) : Calls Tryd.prog 30 #[.slice none 0 0, .int .i64 n] w (Ret fun v w' => Ext w w' ∧ Own w' w.heap.size 5 v []) := by
  cases n with
  | zero => exact grow_0 w
  | succ n => exact grow_1 w (n + 1) (Nat.succ_pos _) hn
theorem cat_sl : (Tryd.prog.info? 22).map (fun i => (i.zero, i.size, i.bytes)) = some (some (.slice none 0 0), 1, 24) := by kernel_rfl
/-- slices of bytes -/
def SlS (w : World) (vs : List Value) (ls : List (List UInt8)) : Prop := vs.length = ls.length ∧ ∀ i, i < ls.length → ∃ B, Sl w B (vs.getD i undef) ((ls.getD i []).map bU)
theorem flat_take (ls : List (List UInt8)) (k : Nat) (h : k < ls.length) : (ls.take (k + 1)).flatten = (ls.take k).flatten ++ ls.getD k [] := by
  rw [List.take_succ_eq_append_getElem h, List.flatten_append, List.getD_eq_getElem?_getD, List.getElem?_eq_getElem h]; simp
theorem flat_le (ls : List (List UInt8)) (k : Nat) : (ls.take k).flatten.length ≤ ls.flatten.length := by
  have : ls.flatten = (ls.take k).flatten ++ (ls.drop k).flatten := by rw [← List.flatten_append, List.take_append_drop]
  rw [this, List.length_append]; omega
theorem vget {vs : List Value} {k n : Nat} (hn : vs.length = n) (h : k < n) : vs[k]? = some (vs.getD k undef) := by
  rw [List.getD_eq_getElem?_getD, List.getElem?_eq_getElem (by omega)]; rfl
set_option maxHeartbeats 800000 in
theorem concat_c (w : World) (B : Nat) (v : Value) (vs : List Value) (ls : List (List UInt8)) (hv : Sl w B v vs) (hvs : SlS w vs ls) (hl : ls.length ≤ 1000000) (hb : ls.flatten.length ≤ 1000000000) :
    Calls Tryd.prog 20 #[v] w (Ret fun v' w' => Ext w w' ∧ Own w' w.heap.size 5 v' (ls.flatten.map bU)) := by
  obtain ⟨i5, hi5, hz5, hs5, hb5⟩ := info_parts cat_u8
  obtain ⟨i22, hi22, hz22, hs22, hb22⟩ := info_parts cat_sl
  have hvl := hvs.1
  go_enter Tryd.func20, Tryd.ntmps20
  go_wp2_with (first
    | ((with_reducible refine g_at (d := 10) ?_); refine wpl_len rfl Tryd.underlying55 hv (by first | rw [List.length_map] | rfl) ?_; try (conv in (Act.put _ _ _) => simp only [Act.put, List.setIfInBounds_toArray, List.set_cons_succ, List.set_cons_zero]))
    | ((with_reducible refine g_at (d := 17) ?_); refine wpl_len rfl Tryd.underlying22 (by first | assumption | exact Own.sl (by assumption) | exact Sl.back (by first | assumption | exact Ext.drew' (by assumption) | exact Ext.undrew (by assumption)) (by first | assumption | exact Own.sl (by assumption) | exact Sl.back (by first | assumption | exact Ext.drew' (by assumption) | exact Ext.undrew (by assumption)) (by first | assumption | exact Own.sl (by assumption) | exact Sl.back (by first | assumption | exact Ext.drew' (by assumption) | exact Ext.undrew (by assumption)) (by first | assumption | exact Own.sl (by assumption) | exact Sl.back (by first | assumption | exact Ext.drew' (by assumption) | exact Ext.undrew (by assumption)) (by first | assumption | exact Own.sl (by assumption) | exact Sl.back (by first | assumption | exact Ext.drew' (by assumption) | exact Ext.undrew (by assumption)) (by first | assumption | exact Own.sl (by assumption) | exact Sl.back (by first | assumption | exact Ext.drew' (by assumption) | exact Ext.undrew (by assumption)) (by first | assumption | exact Own.sl (by assumption) | exact Sl.back (by first | assumption | exact Ext.drew' (by assumption) | exact Ext.undrew (by assumption)) (by first | assumption | exact Own.sl (by assumption))))))))) (by first | rw [List.length_map] | rfl) ?_; try (conv in (Act.put _ _ _) => simp only [Act.put, List.setIfInBounds_toArray, List.set_cons_succ, List.set_cons_zero]))
    | ((with_reducible refine g_at (d := 26) ?_); refine wpl_len rfl Tryd.underlying55 (by first | assumption | exact Own.sl (by assumption) | exact Sl.back (by first | assumption | exact Ext.drew' (by assumption) | exact Ext.undrew (by assumption)) (by first | assumption | exact Own.sl (by assumption) | exact Sl.back (by first | assumption | exact Ext.drew' (by assumption) | exact Ext.undrew (by assumption)) (by first | assumption | exact Own.sl (by assumption) | exact Sl.back (by first | assumption | exact Ext.drew' (by assumption) | exact Ext.undrew (by assumption)) (by first | assumption | exact Own.sl (by assumption) | exact Sl.back (by first | assumption | exact Ext.drew' (by assumption) | exact Ext.undrew (by assumption)) (by first | assumption | exact Own.sl (by assumption) | exact Sl.back (by first | assumption | exact Ext.drew' (by assumption) | exact Ext.undrew (by assumption)) (by first | assumption | exact Own.sl (by assumption) | exact Sl.back (by first | assumption | exact Ext.drew' (by assumption) | exact Ext.undrew (by assumption)) (by first | assumption | exact Own.sl (by assumption) | exact Sl.back (by first | assumption | exact Ext.drew' (by assumption) | exact Ext.undrew (by assumption)) (by first | assumption | exact Own.sl (by assumption))))))))) (by first | rw [List.length_map] | rfl) ?_; try (conv in (Act.put _ _ _) => simp only [Act.put, List.setIfInBounds_toArray, List.set_cons_succ, List.set_cons_zero])))
  rw [hvl]
  go_loopw [3, 11] (fun s i wr => ∃ k : Nat, k ≤ ls.length ∧ i = .int .i64 k ∧ s = .int .i64 (((ls.take k).flatten.length : Nat) : Int) ∧ Ext w wr) (fun _ i _ => ls.length - (RowKit.intOf i).toNat)
  case atStart => exact ⟨0, Nat.zero_le _, rfl, by simp, Below.refl _ _⟩
  case round =>
    obtain ⟨k, hk, rfl, rfl, hx⟩ := hrel
    by_cases hlt : k < ls.length
    · obtain ⟨Bi, hsi⟩ := hvs.2 k hlt
      have hf := flat_take ls k hlt
      have hle := flat_le ls (k + 1)
      generalize ls.getD k [] = x at *
      rw [hf, List.length_append] at hle
      have hg : (ls.take (k + 1)).flatten.length = (ls.take k).flatten.length + x.length := by rw [hf, List.length_append]
      have HF := Lib.hid hg
      clear hf hg
      generalize (ls.take k).flatten.length = S at *
      have hw : wrap64 ((S : Int) + (x.length : Int)) = (S : Int) + (x.length : Int) := by unfold wrap64; omega
      have hneg : ¬ ((S : Int) + (x.length : Int) < 0) := Int.not_lt.2 (Int.add_nonneg (Int.natCast_nonneg _) (Int.natCast_nonneg _))
      go_wp2_with (first
        | ((with_reducible refine g_at (d := 13) ?_); refine wpl_index rfl rfl Tryd.underlying55 hi22 hs22 (hv.ext hx) rfl (vget hvl hlt) ?_; intro ad13 hb13 hc13; try (conv in (Act.put _ _ _) => simp only [Act.put, List.setIfInBounds_toArray, List.set_cons_succ, List.set_cons_zero]))
        | ((with_reducible refine g_at (d := 14) ?_); refine wpl_load1 rfl Tryd.underlying22 rfl hc13 ?_; try (conv in (Act.put _ _ _) => simp only [Act.put, List.setIfInBounds_toArray, List.set_cons_succ, List.set_cons_zero]))
        | ((with_reducible refine g_at (d := 17) ?_); refine wpl_len rfl Tryd.underlying22 (hsi.ext hx) (by first | rw [List.length_map] | rfl) ?_; try (conv in (Act.put _ _ _) => simp only [Act.put, List.setIfInBounds_toArray, List.set_cons_succ, List.set_cons_zero]))
        | ((with_reducible refine g_at (d := 10) ?_); refine wpl_len rfl Tryd.underlying55 (by first | assumption | exact Own.sl (by assumption) | exact Sl.back (by first | assumption | exact Ext.drew' (by assumption) | exact Ext.undrew (by assumption)) (by first | assumption | exact Own.sl (by assumption) | exact Sl.back (by first | assumption | exact Ext.drew' (by assumption) | exact Ext.undrew (by assumption)) (by first | assumption | exact Own.sl (by assumption) | exact Sl.back (by first | assumption | exact Ext.drew' (by assumption) | exact Ext.undrew (by assumption)) (by first | assumption | exact Own.sl (by assumption) | exact Sl.back (by first | assumption | exact Ext.drew' (by assumption) | exact Ext.undrew (by assumption)) (by first | assumption | exact Own.sl (by assumption) | exact Sl.back (by first | assumption | exact Ext.drew' (by assumption) | exact Ext.undrew (by assumption)) (by first | assumption | exact Own.sl (by assumption) | exact Sl.back (by first | assumption | exact Ext.drew' (by assumption) | exact Ext.undrew (by assumption)) (by first | assumption | exact Own.sl (by assumption) | exact Sl.back (by first | assumption | exact Ext.drew' (by assumption) | exact Ext.undrew (by assumption)) (by first | assumption | exact Own.sl (by assumption))))))))) (by first | rw [List.length_map] | rfl) ?_; try (conv in (Act.put _ _ _) => simp only [Act.put, List.setIfInBounds_toArray, List.set_cons_succ, List.set_cons_zero]))
        | ((with_reducible refine g_at (d := 26) ?_); refine wpl_len rfl Tryd.underlying55 (by first | assumption | exact Own.sl (by assumption) | exact Sl.back (by first | assumption | exact Ext.drew' (by assumption) | exact Ext.undrew (by assumption)) (by first | assumption | exact Own.sl (by assumption) | exact Sl.back (by first | assumption | exact Ext.drew' (by assumption) | exact Ext.undrew (by assumption)) (by first | assumption | exact Own.sl (by assumption) | exact Sl.back (by first | assumption | exact Ext.drew' (by assumption) | exact Ext.undrew (by assumption)) (by first | assumption | exact Own.sl (by assumption) | exact Sl.back (by first | assumption | exact Ext.drew' (by assumption) | exact Ext.undrew (by assumption)) (by first | assumption | exact Own.sl (by assumption) | exact Sl.back (by first | assumption | exact Ext.drew' (by assumption) | exact Ext.undrew (by assumption)) (by first | assumption | exact Own.sl (by assumption) | exact Sl.back (by first | assumption | exact Ext.drew' (by assumption) | exact Ext.undrew (by assumption)) (by first | assumption | exact Own.sl (by assumption) | exact Sl.back (by first | assumption | exact Ext.drew' (by assumption) | exact Ext.undrew (by assumption)) (by first | assumption | exact Own.sl (by assumption))))))))) (by first | rw [List.length_map] | rfl) ?_; try (conv in (Act.put _ _ _) => simp only [Act.put, List.setIfInBounds_toArray, List.set_cons_succ, List.set_cons_zero])))
      go_roundw
      case rel => exact ⟨k + 1, by omega, by go_num, by rw [HF.out]; go_num, hx⟩
      case measure => simp [RowKit.intOf]; omega
    · obtain rfl : k = ls.length := by omega
      rw [List.take_length]
      have HB := Lib.hid hb
      generalize hS : ls.flatten.length = S at *
      have HS := Lib.hid hS
      clear hS
      go_wp2_with (first
        | ((with_reducible refine g_at (d := 24) ?_); refine wpl_call Tryd.func30 (by kernel_rfl) (by kernel_rfl) rfl (grow_c wr S (Nat.le_trans HB.out (by decide))) ?_; rintro v24 w24 ⟨hx24, h24⟩; try (conv in (Act.put _ _ _) => simp only [Act.put, List.setIfInBounds_toArray, List.set_cons_succ, List.set_cons_zero]))
        | ((with_reducible refine g_at (d := 26) ?_); refine wpl_len rfl Tryd.underlying55 (hv.ext (hx.tr hx24)) (by first | rw [List.length_map] | rfl) ?_; try (conv in (Act.put _ _ _) => simp only [Act.put, List.setIfInBounds_toArray, List.set_cons_succ, List.set_cons_zero]))
        | ((with_reducible refine g_at (d := 10) ?_); refine wpl_len rfl Tryd.underlying55 (by first | assumption | exact Own.sl (by assumption) | exact Sl.back (by first | assumption | exact Ext.drew' (by assumption) | exact Ext.undrew (by assumption)) (by first | assumption | exact Own.sl (by assumption) | exact Sl.back (by first | assumption | exact Ext.drew' (by assumption) | exact Ext.undrew (by assumption)) (by first | assumption | exact Own.sl (by assumption) | exact Sl.back (by first | assumption | exact Ext.drew' (by assumption) | exact Ext.undrew (by assumption)) (by first | assumption | exact Own.sl (by assumption) | exact Sl.back (by first | assumption | exact Ext.drew' (by assumption) | exact Ext.undrew (by assumption)) (by first | assumption | exact Own.sl (by assumption) | exact Sl.back (by first | assumption | exact Ext.drew' (by assumption) | exact Ext.undrew (by assumption)) (by first | assumption | exact Own.sl (by assumption) | exact Sl.back (by first | assumption | exact Ext.drew' (by assumption) | exact Ext.undrew (by assumption)) (by first | assumption | exact Own.sl (by assumption) | exact Sl.back (by first | assumption | exact Ext.drew' (by assumption) | exact Ext.undrew (by assumption)) (by first | assumption | exact Own.sl (by assumption))))))))) (by first | rw [List.length_map] | rfl) ?_; try (conv in (Act.put _ _ _) => simp only [Act.put, List.setIfInBounds_toArray, List.set_cons_succ, List.set_cons_zero]))
        | ((with_reducible refine g_at (d := 17) ?_); refine wpl_len rfl Tryd.underlying22 (by first | assumption | exact Own.sl (by assumption) | exact Sl.back (by first | assumption | exact Ext.drew' (by assumption) | exact Ext.undrew (by assumption)) (by first | assumption | exact Own.sl (by assumption) | exact Sl.back (by first | assumption | exact Ext.drew' (by assumption) | exact Ext.undrew (by assumption)) (by first | assumption | exact Own.sl (by assumption) | exact Sl.back (by first | assumption | exact Ext.drew' (by assumption) | exact Ext.undrew (by assumption)) (by first | assumption | exact Own.sl (by assumption) | exact Sl.back (by first | assumption | exact Ext.drew' (by assumption) | exact Ext.undrew (by assumption)) (by first | assumption | exact Own.sl (by assumption) | exact Sl.back (by first | assumption | exact Ext.drew' (by assumption) | exact Ext.undrew (by assumption)) (by first | assumption | exact Own.sl (by assumption) | exact Sl.back (by first | assumption | exact Ext.drew' (by assumption) | exact Ext.undrew (by assumption)) (by first | assumption | exact Own.sl (by assumption) | exact Sl.back (by first | assumption | exact Ext.drew' (by assumption) | exact Ext.undrew (by assumption)) (by first | assumption | exact Own.sl (by assumption))))))))) (by first | rw [List.length_map] | rfl) ?_; try (conv in (Act.put _ _ _) => simp only [Act.put, List.setIfInBounds_toArray, List.set_cons_succ, List.set_cons_zero])))
      rw [hvl]
      have hxx := hx.tr hx24
      have ho0 := h24.down hx.size
      clear hx hx24 h24
      go_loopw [6, 27] (fun o i wq => ∃ k : Nat, k ≤ ls.length ∧ i = .int .i64 k ∧ Own wq w.heap.size 5 o ((ls.take k).flatten.map bU) ∧ Ext w wq) (fun _ i _ => ls.length - (RowKit.intOf i).toNat)
      case atStart => exact ⟨0, Nat.zero_le _, rfl, by simpa using ho0, hxx⟩
      case round =>
        obtain ⟨k, hk, rfl, ho, hx⟩ := hrel
        by_cases hlt : k < ls.length
        · obtain ⟨Bi, hsi⟩ := hvs.2 k hlt
          have hf := flat_take ls k hlt
          have hle := flat_le ls (k + 1)
          generalize ls.getD k [] = x at *
          rw [hf, List.length_append] at hle
          have HF := Lib.hid hf
          clear hf
          generalize (ls.take k).flatten = X at *
          have hb9 : (List.map bU X).length + (List.map bU x).length ≤ 1000000000 := by rw [List.length_map, List.length_map]; have h1 := HS.out; have h2 := HB.out; omega
          go_wp2_with (first
            | ((with_reducible refine g_at (d := 29) ?_); refine wpl_index rfl rfl Tryd.underlying55 hi22 hs22 (hv.ext hx) rfl (vget hvl hlt) ?_; intro ad29 hb29 hc29; try (conv in (Act.put _ _ _) => simp only [Act.put, List.setIfInBounds_toArray, List.set_cons_succ, List.set_cons_zero]))
            | ((with_reducible refine g_at (d := 30) ?_); refine wpl_load1 rfl Tryd.underlying22 rfl hc29 ?_; try (conv in (Act.put _ _ _) => simp only [Act.put, List.setIfInBounds_toArray, List.set_cons_succ, List.set_cons_zero]))
            | ((with_reducible refine g_at (d := 33) ?_); refine wpl_append (v := u6) rfl rfl Tryd.underlying22 hi5 hz5 hs5 hb5 rfl ho (hsi.ext hx) (bU_one x) (by first | omega | (simp <;> omega)) (by omega) hx.size ?_; intro v33 w33 h33 hg33 ha33 hx33; try (conv in (Act.put _ _ _) => simp only [Act.put, List.setIfInBounds_toArray, List.set_cons_succ, List.set_cons_zero]))
            | ((with_reducible refine g_at (d := 10) ?_); refine wpl_len rfl Tryd.underlying55 (by first | assumption | exact Own.sl (by assumption) | exact Sl.back (by first | assumption | exact Ext.drew' (by assumption) | exact Ext.undrew (by assumption)) (by first | assumption | exact Own.sl (by assumption) | exact Sl.back (by first | assumption | exact Ext.drew' (by assumption) | exact Ext.undrew (by assumption)) (by first | assumption | exact Own.sl (by assumption) | exact Sl.back (by first | assumption | exact Ext.drew' (by assumption) | exact Ext.undrew (by assumption)) (by first | assumption | exact Own.sl (by assumption) | exact Sl.back (by first | assumption | exact Ext.drew' (by assumption) | exact Ext.undrew (by assumption)) (by first | assumption | exact Own.sl (by assumption) | exact Sl.back (by first | assumption | exact Ext.drew' (by assumption) | exact Ext.undrew (by assumption)) (by first | assumption | exact Own.sl (by assumption) | exact Sl.back (by first | assumption | exact Ext.drew' (by assumption) | exact Ext.undrew (by assumption)) (by first | assumption | exact Own.sl (by assumption) | exact Sl.back (by first | assumption | exact Ext.drew' (by assumption) | exact Ext.undrew (by assumption)) (by first | assumption | exact Own.sl (by assumption))))))))) (by first | rw [List.length_map] | rfl) ?_; try (conv in (Act.put _ _ _) => simp only [Act.put, List.setIfInBounds_toArray, List.set_cons_succ, List.set_cons_zero]))
            | ((with_reducible refine g_at (d := 17) ?_); refine wpl_len rfl Tryd.underlying22 (by first | assumption | exact Own.sl (by assumption) | exact Sl.back (by first | assumption | exact Ext.drew' (by assumption) | exact Ext.undrew (by assumption)) (by first | assumption | exact Own.sl (by assumption) | exact Sl.back (by first | assumption | exact Ext.drew' (by assumption) | exact Ext.undrew (by assumption)) (by first | assumption | exact Own.sl (by assumption) | exact Sl.back (by first | assumption | exact Ext.drew' (by assumption) | exact Ext.undrew (by assumption)) (by first | assumption | exact Own.sl (by assumption) | exact Sl.back (by first | assumption | exact Ext.drew' (by assumption) | exact Ext.undrew (by assumption)) (by first | assumption | exact Own.sl (by assumption) | exact Sl.back (by first | assumption | exact Ext.drew' (by assumption) | exact Ext.undrew (by assumption)) (by first | assumption | exact Own.sl (by assumption) | exact Sl.back (by first | assumption | exact Ext.drew' (by assumption) | exact Ext.undrew (by assumption)) (by first | assumption | exact Own.sl (by assumption) | exact Sl.back (by first | assumption | exact Ext.drew' (by assumption) | exact Ext.undrew (by assumption)) (by first | assumption | exact Own.sl (by assumption))))))))) (by first | rw [List.length_map] | rfl) ?_; try (conv in (Act.put _ _ _) => simp only [Act.put, List.setIfInBounds_toArray, List.set_cons_succ, List.set_cons_zero]))
            | ((with_reducible refine g_at (d := 26) ?_); refine wpl_len rfl Tryd.underlying55 (by first | assumption | exact Own.sl (by assumption) | exact Sl.back (by first | assumption | exact Ext.drew' (by assumption) | exact Ext.undrew (by assumption)) (by first | assumption | exact Own.sl (by assumption) | exact Sl.back (by first | assumption | exact Ext.drew' (by assumption) | exact Ext.undrew (by assumption)) (by first | assumption | exact Own.sl (by assumption) | exact Sl.back (by first | assumption | exact Ext.drew' (by assumption) | exact Ext.undrew (by assumption)) (by first | assumption | exact Own.sl (by assumption) | exact Sl.back (by first | assumption | exact Ext.drew' (by assumption) | exact Ext.undrew (by assumption)) (by first | assumption | exact Own.sl (by assumption) | exact Sl.back (by first | assumption | exact Ext.drew' (by assumption) | exact Ext.undrew (by assumption)) (by first | assumption | exact Own.sl (by assumption) | exact Sl.back (by first | assumption | exact Ext.drew' (by assumption) | exact Ext.undrew (by assumption)) (by first | assumption | exact Own.sl (by assumption) | exact Sl.back (by first | assumption | exact Ext.drew' (by assumption) | exact Ext.undrew (by assumption)) (by first | assumption | exact Own.sl (by assumption))))))))) (by first | rw [List.length_map] | rfl) ?_; try (conv in (Act.put _ _ _) => simp only [Act.put, List.setIfInBounds_toArray, List.set_cons_succ, List.set_cons_zero])))
          go_roundw
          case rel => exact ⟨k + 1, by omega, by go_num, by rw [HF.out, List.map_append]; exact h33, hx.trans hx33⟩
          case measure => simp [RowKit.intOf]; omega
        · obtain rfl : k = ls.length := by omega
          rw [List.take_length] at ho
          go_wp2
          go_ret
          exact ⟨_, rfl, hx, ho⟩
end Go.Proofs.YtamddohbpdbdmaaDoor
end
section
set_option linter.unusedVariables false
set_option linter.unusedSimpArgs false
namespace Go.Proofs.YtamddohbpdbdmaaDoor
open Go.RowKit Go.Ch Go.Sx

theorem cloneb_info : (Tryd.prog.info? 5).map (fun i => (i.zero, i.size, i.bytes)) = some (some (.int .u8 0), 1, 1) := by kernel_rfl
set_option maxHeartbeats 400000 in
set_option maxRecDepth 100000 in
theorem cloneb_c (w : World) (B : Nat) (v : Value) (l : List UInt8) (hv : Sl w B v (l.map bU)) (hl : l.length ≤ 1000000000000) :
    Calls Tryd.prog 26 #[v] w (Ret fun v' w' => Ext w w' ∧ Own w' w.heap.size 5 v' (l.map bU)) := by
  obtain ⟨i5, hi5, hz5, hs5, hb5⟩ := info_parts cloneb_info
  go_enter Tryd.func26, Tryd.ntmps26
  go_wp2_with (first
    | ((with_reducible refine g_at (d := 4) ?_); refine wpl_eq_nil rfl Tryd.underlying22 hv ?_; intro b4 hb4; try (conv in (Act.put _ _ _) => simp only [Act.put, List.setIfInBounds_toArray, List.set_cons_succ, List.set_cons_zero]))
    | ((with_reducible refine g_at (d := 5) ?_); refine wpl_buildSlice (vs := []) Tryd.underlying22 hi5 hz5 hs5 rfl (xs := []) rfl rfl rfl (by simp) (by omega) ?_; intro v5 w5 h5 hx5 ha5; try (conv in (Act.put _ _ _) => simp only [Act.put, List.setIfInBounds_toArray, List.set_cons_succ, List.set_cons_zero]))
    | ((with_reducible refine g_at (d := 7) ?_); refine wpl_append (v := v5) rfl rfl Tryd.underlying22 hi5 hz5 hs5 hb5 rfl h5 (hv.ext hx5) (bU_one l) (by first | omega | (simp <;> omega)) (by omega) hx5.size ?_; intro v7 w7 h7 hg7 ha7 hx7; try (conv in (Act.put _ _ _) => simp only [Act.put, List.setIfInBounds_toArray, List.set_cons_succ, List.set_cons_zero])))
  · go_ret
    have := hb4 (by assumption)
    exact ⟨_, rfl, Below.refl _ _, by rw [this]; exact World.ownsRow_nil _ _ _ _⟩
  · go_ret
    exact ⟨_, rfl, hx5.trans hx7, by simpa using h7⟩
def cloneb_ct : Ct := fun args H => match args with
  | [x] => (match aB H x with | some l => some ([l.length ≤ 1000000000000], .c (.wh H.length), [⟨.row, 5, 1, l.length, .b l⟩]) | none => none)
  | _ => none
theorem cloneb_h : FnOk Tryd.prog Tr 26 cloneb_ct := by
  refine ⟨fun args H g av objs hF hg ρ w vals hG hp ha => ?_, _, Tryd.func26, by kernel_rfl, by kernel_rfl⟩
  unfold cloneb_ct at hF
  split at hF
  · split at hF
    · rename_i x l hl
      simp only [Option.some.injEq, Prod.mk.injEq] at hF
      obtain ⟨rfl, rfl, rfl⟩ := hF
      obtain ⟨v, vals, rfl, k, ha⟩ := F2.inv ha
      obtain rfl := F2.inv0 ha
      obtain ⟨p, hI⟩ := aB_ok hp hl k 5
      have hb : l.length ≤ 1000000000000 := by simpa [allP] using hg
      exact calls_mono (cloneb_c w _ v l (hI.sl (fun _ _ h => csR_b.1 h) (by simp)) hb) fun v w' ⟨hx, hv⟩ => ⟨hx, left_row hv (fun _ => csR_b.2 rfl) (by simp)⟩
    · cases hF
  · cases hF
end Go.Proofs.YtamddohbpdbdmaaDoor
end
section
set_option linter.unusedVariables false
set_option linter.unusedSimpArgs false
namespace Go.Proofs.YtamddohbpdbdmaaDoor
open Go.RowKit Go.Ch Go.Sx

theorem slr_sl {w : World} {v : Value} {n : Nat} {vs : List Value} (h : SlR w v n 1 vs) : Sl w w.heap.size v vs := by
  obtain ⟨hl, A, c, rfl, h1, h2, h3, h4⟩ := h
  have hn : vs.length = n := by omega
  subst hn
  refine ⟨Nat.le_refl _, A, c, rfl, h1, h2, h3, fun ad had j u hu => ⟨?_, h4 ad had j u hu⟩⟩
  have := World.block_lt_of_cell? _ _ (h4 ad had j u hu)
  rwa [block_add] at this
/-- what slices of bytes read -/
def aLs (H : Hp) : List Cl → Option (List (List UInt8))
  | [] => some []
  | c :: cs => (match aB H (.c c), aLs H cs with | some l, some ls => some (l :: ls) | _, _ => none)
theorem aLs_ok {ρ : Pls} {w : World} {H : Hp} (hp : HpR ρ w H) : ∀ {cs : List Cl} {ls : List (List UInt8)} {vs : List Value}, aLs H cs = some ls → F2 (clR ρ) cs vs → SlS w vs ls
  | [], ls, vs, h, hv => by
    obtain rfl := F2.unnil hv
    simp only [aLs, Option.some.injEq] at h
    subst h
    exact ⟨rfl, fun i hi => by simp at hi⟩
  | c :: cs, ls, vs, h, hv => by
    obtain ⟨v, vs', rfl, hc, hvs⟩ := F2.uncons hv
    simp only [aLs] at h
    split at h
    · rename_i l ls' hl hls
      injection h with h; subst h
      obtain ⟨h1, h2⟩ := aLs_ok hp hls hvs
      obtain ⟨p, hI⟩ := aB_ok hp hl hc 5
      have hs := hI.sl (fun _ _ h => csR_b.1 h) (by simp)
      refine ⟨by simp [h1], fun i hi => ?_⟩
      cases i with
      | zero => exact ⟨_, hs⟩
      | succ i => exact h2 i (by simpa using hi)
    · cases h
def cat_ct : Ct := fun args H => match args with
  | [.c x] => (match vcs H x with
    | some (sz, _, .c cells) => (match Nat.beq sz 1, aLs H cells with
      | true, some ls => some ([ls.length ≤ 1000000, ls.flatten.length ≤ 1000000000], .c (.wh H.length), [⟨.row, 5, 1, ls.flatten.length, .b ls.flatten⟩])
      | _, _ => none)
    | _ => none)
  | _ => none
theorem cat_h : FnOk Tryd.prog Tr 20 cat_ct := by
  refine ⟨fun args H g av objs hF hg ρ w vals hG hp ha => ?_, _, Tryd.func20, by kernel_rfl, by kernel_rfl⟩
  unfold cat_ct at hF
  split at hF
  · rename_i x
    split at hF
    · rename_i sz n cells hx
      split at hF
      · rename_i ls hsz hls
        simp only [Option.some.injEq, Prod.mk.injEq] at hF
        obtain ⟨rfl, rfl, rfl⟩ := hF
        obtain ⟨v, vals, rfl, k, ha⟩ := F2.inv ha
        obtain rfl := F2.inv0 ha
        have e1 := Nat.eq_of_beq_eq_true hsz
        subst e1
        obtain ⟨vs, hc, hS⟩ := vcs_ok hp hx k
        obtain ⟨g1, g2⟩ : ls.length ≤ 1000000 ∧ ls.flatten.length ≤ 1000000000 := by simpa [allP] using hg
        exact calls_mono (concat_c w _ v vs ls (slr_sl hS) (aLs_ok hp hls hc) g1 g2) fun v w' ⟨hx, hv⟩ => ⟨hx, left_row hv (fun _ => csR_b.2 rfl) (by rw [List.length_map])⟩
      · cases hF
    · cases hF
  · cases hF
end Go.Proofs.YtamddohbpdbdmaaDoor
end
section
set_option linter.unusedVariables false
set_option linter.unusedSimpArgs false
namespace Go.Proofs.YtamddohbpdbdmaaDoor
open Go.RowKit Go.Ch Go.Sx

def tabL_ma : List (TypeId × Ti) := [(3, ⟨.int .i64, 1, 8, true, some [.int .i64]⟩),
  (5, ⟨.int .u8, 1, 1, true, some [.int .u8]⟩),
  (9, ⟨.str, 1, 16, true, some [.str]⟩),
  (22, ⟨.sl 5, 1, 24, false, some [.nils]⟩),
  (35, ⟨.ifc, 1, 16, true, some [.ifc]⟩),
  (38, ⟨.int .i64, 1, 8, true, some [.int .i64]⟩),
  (55, ⟨.sl 22, 1, 24, false, some [.nils]⟩)]
def tab_ma : Tab := fun t => (tabL_ma).lookup t
theorem tabE_ma : (tabL_ma.map fun p => tiOf Tryd.prog p.1) = tabL_ma.map fun p => some p.2 := by kernel_rfl
theorem tabO_ma : TabOk Tryd.prog tab_ma := tab_of tabE_ma

def mpadded_l1 (n : Nat) (a1 : UInt8) : Nat → List UInt8 → Int → Option (List UInt8)
  | 0, _, _ => none
  | fu_l1 + 1, l5_2, i18_2 =>
    bif (decide (i18_2 < (64 : Int))) then
      gd (0 ≤ i18_2) <|
      gd (i18_2 < (64 : Int)) <|
      gd (0 ≤ i18_2) <|
      gd (i18_2 < (64 : Int)) <|
      gd (okI .i64 (i18_2 + 1)) <|
      (mpadded_l1 n a1 fu_l1) (l5_2.set i18_2.toNat ((l5_2.getD i18_2.toNat 0) ^^^ a1)) (i18_2 + 1)
    else
      some l5_2
def mpadded_j1 (n : Nat) (a1 : UInt8) (l0_2 : List UInt8) : Option (List UInt8) :=
  gd (0 ≤ (64 : Int)) <|
  gd ((64 : Int) = (64 : Int)) <|
  gd (rmB 64 1) <|
  mpadded_l1 n a1 n (((List.replicate 64 0).take 0 ++ l0_2.take (min l0_2.length 64)) ++ (List.replicate 64 0).drop (0 + (min l0_2.length 64))) 0
def mpadded (n : Nat) (a0 : List UInt8) (a1 : UInt8) : Option (List UInt8) :=
  bif (decide ((64 : Int) < ((a0.length : Nat) : Int))) then
    gd ((a0).length ≤ 100000) <|
    mpadded_j1 n a1 (digest consts begin8 a0)
  else
    mpadded_j1 n a1 a0
def mMark (n : Nat) (a0 : List UInt8) (a1 : List UInt8) : Option (List UInt8) :=
  (mpadded n a0 54).bind fun r7 =>
  gd ((([r7, a1] : List (List UInt8))).length ≤ 1000000) <|
  gd ((([r7, a1] : List (List UInt8))).flatten.length ≤ 1000000000) <|
  gd ((((([r7, a1] : List (List UInt8))).flatten)).length ≤ 100000) <|
  (mpadded n a0 92).bind fun r13 =>
  gd ((([r13, (digest consts begin8 ((([r7, a1] : List (List UInt8))).flatten))] : List (List UInt8))).length ≤ 1000000) <|
  gd ((([r13, (digest consts begin8 ((([r7, a1] : List (List UInt8))).flatten))] : List (List UInt8))).flatten.length ≤ 1000000000) <|
  gd ((((([r13, (digest consts begin8 ((([r7, a1] : List (List UInt8))).flatten))] : List (List UInt8))).flatten)).length ≤ 100000) <|
  some (digest consts begin8 ((([r13, (digest consts begin8 ((([r7, a1] : List (List UInt8))).flatten))] : List (List UInt8))).flatten))
def mmay (n : Nat) (a0 : Int) : Option (Option Int) :=
  bif (decide (a0 < (1 : Int))) then
    some (some 1)
  else
    bif (decide ((10000 : Int) < a0)) then
      some (some 4)
    else
      some none
def mDerive_l3 (n : Nat) (a0 : List UInt8) (a1 : List UInt8) (a2 : Int) (a3 : Int) (l11_1 : List UInt8) (i12_1 : Int) (r48_2 : List UInt8) (i53_5 : Int) (r57_8 : List UInt8) (k_l2 : (List UInt8) → (List UInt8) → Int → Option (List UInt8 × Nat × Option Int)) : Nat → List UInt8 → Int → Option (List UInt8 × Nat × Option Int)
  | 0, _, _ => none
  | fu_l3 + 1, l14_23, i60_17 =>
    bif (decide (i60_17 < (((r48_2).length : Nat) : Int))) then
      gd (0 ≤ i60_17) <|
      gd (i60_17 < (((r48_2).length : Nat) : Int)) <|
      gd (0 ≤ i60_17) <|
      gd (i60_17 < ((r57_8.length : Nat) : Int)) <|
      gd (0 ≤ i60_17) <|
      gd (i60_17 < (((r48_2).length : Nat) : Int)) <|
      gd (okI .i64 (i60_17 + 1)) <|
      (mDerive_l3 n a0 a1 a2 a3 l11_1 i12_1 r48_2 i53_5 r57_8 k_l2 fu_l3) (l14_23.set i60_17.toNat ((l14_23.getD i60_17.toNat 0) ^^^ (r57_8.getD i60_17.toNat 0))) (i60_17 + 1)
    else
      gd (okI .i64 (i53_5 + 1)) <|
      k_l2 r57_8 l14_23 (i53_5 + 1)
def mDerive_l2 (n : Nat) (a0 : List UInt8) (a1 : List UInt8) (a2 : Int) (a3 : Int) (l11_1 : List UInt8) (i12_1 : Int) (r48_2 : List UInt8) (k_l1 : (List UInt8) → Int → Option (List UInt8 × Nat × Option Int)) : Nat → List UInt8 → List UInt8 → Int → Option (List UInt8 × Nat × Option Int)
  | 0, _, _, _ => none
  | fu_l2 + 1, l13_5, l14_21, i53_5 =>
    bif (decide (i53_5 < (a2 - 1))) then
      (mMark n a0 l13_5).bind fun r57_8 =>
      mDerive_l3 n a0 a1 a2 a3 l11_1 i12_1 r48_2 i53_5 r57_8 (mDerive_l2 n a0 a1 a2 a3 l11_1 i12_1 r48_2 k_l1 fu_l2) n l14_21 0
    else
      gd (rmB (l11_1.length + ((r48_2).length)) 1) <|
      gd (okI .i64 (i12_1 + 1)) <|
      k_l1 (l11_1 ++ l14_21) (i12_1 + 1)
def mDerive_l1 (n : Nat) (a0 : List UInt8) (a1 : List UInt8) (a2 : Int) (a3 : Int) : Nat → List UInt8 → Int → Option (List UInt8 × Nat × Option Int)
  | 0, _, _ => none
  | fu_l1 + 1, l11_1, i12_1 =>
    bif (decide (((l11_1.length : Nat) : Int) < a3)) then
      gd (0 ≤ (8 : Int)) <|
      gd ((8 : Int) ≤ (((IntKind.i64).bits : Nat) : Int)) <|
      gd ((([a1, [0, 0, (UInt8.ofInt (i12_1 / 2 ^ 8)), (UInt8.ofInt i12_1)]] : List (List UInt8))).length ≤ 1000000) <|
      gd ((([a1, [0, 0, (UInt8.ofInt (i12_1 / 2 ^ 8)), (UInt8.ofInt i12_1)]] : List (List UInt8))).flatten.length ≤ 1000000000) <|
      (mMark n a0 ((([a1, [0, 0, (UInt8.ofInt (i12_1 / 2 ^ 8)), (UInt8.ofInt i12_1)]] : List (List UInt8))).flatten)).bind fun r48_2 =>
      gd ((r48_2).length ≤ 1000000000000) <|
      gd (okI .i64 (a2 - 1)) <|
      mDerive_l2 n a0 a1 a2 a3 l11_1 i12_1 r48_2 (mDerive_l1 n a0 a1 a2 a3 fu_l1) n r48_2 (r48_2) 0
    else
      gd (0 ≤ a3) <|
      gd (a3 ≤ a3) <|
      gd (a3 ≤ ((l11_1.length : Nat) : Int)) <|
      some (l11_1, a3.toNat, none)
def mDerive (n : Nat) (a0 : List UInt8) (a1 : List UInt8) (a2 : Int) (a3 : Int) : Option (List UInt8 × Nat × Option Int) :=
  bif (decide (a3 < (0 : Int))) then
    some ([], 0, (some 1))
  else
    bif (decide (a2 < (1 : Int))) then
      some ([], 0, (some 1))
    else
      (mmay n a2).bind fun r24 =>
      bif (!((r24).isNone)) then
        some ([], 0, (some 4))
      else
        bif (decide ((256 : Int) < a3)) then
          some ([], 0, (some 4))
        else
          mDerive_l1 n a0 a1 a2 a3 n [] 1
def mup (n : Nat) : Option (Bool) :=
  (mDerive n [112, 97, 115, 115, 119, 100] [115, 97, 108, 116] 1 16).bind fun r10 =>
  (mMark n [74, 101, 102, 101] [119, 104, 97, 116, 32, 100, 111, 32, 121, 97, 32, 119, 97, 110, 116, 32, 102, 111, 114, 32, 110, 111, 116, 104, 105, 110, 103, 63]).bind fun r17 =>
  bif (r17 == ([91, 220, 193, 70, 191, 96, 117, 78, 106, 4, 36, 38, 8, 149, 117, 199, 90, 0, 63, 8, 157, 39, 57, 131, 157, 236, 88, 185, 100, 236, 56, 67] : List UInt8)) then
    bif ((r10.2.2).isNone) then
      some (((r10.1.drop 0).take r10.2.1) == ([85, 172, 4, 110, 86, 227, 8, 159, 236, 22, 145, 194, 37, 68, 182, 5] : List UInt8))
    else
      some false
  else
    some false

def mpadded_l1_E (a1 : UInt8) (l5_2 : List UInt8) (i18_2 : Int) : S := ⟨[(1, .c (.s (.u8 a1))), (5, .c (.wh 0)), (17, .c (.s (.k .i64 64))), (18, .c (.s (.k .i64 i18_2)))], [], [⟨.row, 5, 1, 64, .b l5_2⟩]⟩
def mpadded_l1_P (n : Nat) (a1 : UInt8) (r : List UInt8) (fu : Nat) : S → Prop := fun s => ∃ (l5_2 : List UInt8), ∃ (i18_2 : Int), s = mpadded_l1_E a1 l5_2 i18_2 ∧ mpadded_l1 n a1 fu l5_2 i18_2 = some r
theorem mpadded_l1_M {n : Nat} {a1 : UInt8} {l5_2 : List UInt8} {i18_2 : Int} {r : List UInt8} {fu : Nat} (h : mpadded_l1 n a1 fu l5_2 i18_2 = some r) : mpadded_l1_P n a1 r fu (mpadded_l1_E a1 l5_2 i18_2) := ⟨l5_2, i18_2, rfl, h⟩
def mpadded_j1_E (a1 : UInt8) (l0_2 : List UInt8) : S := ⟨[(0, .c (.wh 0)), (1, .c (.s (.u8 a1)))], [], [⟨(.ro false), 5, 1, l0_2.length, .b l0_2⟩]⟩
def mpadded_j1_P (n : Nat) (a1 : UInt8) (r : List UInt8) : S → Prop := fun s => ∃ (l0_2 : List UInt8), s = mpadded_j1_E a1 l0_2 ∧ mpadded_j1 n a1 l0_2 = some r
theorem mpadded_j1_M {n : Nat} {a1 : UInt8} {l0_2 : List UInt8} {r : List UInt8} (h : mpadded_j1 n a1 l0_2 = some r) : mpadded_j1_P n a1 r (mpadded_j1_E a1 l0_2) := ⟨l0_2, rfl, h⟩
def mpadded_R (r : List UInt8) : S := ⟨[(4, .c (.wh 0))], [], [⟨.row, 5, 1, 64, .b r⟩]⟩
def mpadded_ct (n : Nat) (r : List UInt8) : Ct := fun args H => match args with
  | [x0, x1] => (match aB H x0 with | some l0 => (match aU8 x1 with | some l1 => some ([mpadded n l0 l1 = some r], shA H.length (.c (.wh 0)), shH H.length [⟨.row, 5, 1, 64, .b r⟩]) | none => none) | none => none)
  | _ => none
theorem mpadded_ok (n : Nat) (r : List UInt8) : FnOk Tryd.prog GK 21 (mpadded_ct n r) := by
  refine ⟨fun args H g av objs hF hg ρ w vals hG hp ha => ?_, _, Tryd.func21, by kernel_rfl, by kernel_rfl⟩
  obtain ⟨x0, x1, rfl⟩ : ∃ x0 x1, args = [x0, x1] := by
    unfold mpadded_ct at hF; split at hF
    · exact ⟨_, _, rfl⟩
    · cases hF
  cases e0 : aB H x0 with
  | none => simp only [mpadded_ct, e0, reduceCtorEq] at hF
  | some l0 =>
  cases e1 : aU8 x1 with
  | none => simp only [mpadded_ct, e0, e1, reduceCtorEq] at hF
  | some l1 =>
  simp only [mpadded_ct, e0, e1, Option.some.injEq, Prod.mk.injEq] at hF
  obtain ⟨rfl, rfl, rfl⟩ := hF
  obtain ⟨v0, vals, rfl, k0, ha⟩ := F2.inv ha
  obtain ⟨v1, vals, rfl, k1, ha⟩ := F2.inv ha
  obtain rfl := F2.inv0 ha
  have hI : ∀ w', Kp (noB (fun _ => undef)) w w' → GK w' := fun _ hk => GK.keep hk.below hG
  have h : mpadded n l0 l1 = some r := hg
  obtain ⟨p0, s0, o0⟩ := aB_ok hp e0 (k0) 5
  have s1 := aU8_ok e1 (k1)
  have hR0 := rel0 (gv := (fun _ => undef)) (n := 30) (w := w) (args := [.c (.wh 0), .c (.s (.u8 l1))]) (H := [⟨.ro false, 5, 1, l0.length, .b l0⟩]) (gl := []) (hpL (ps := [p0]) (F2.cons o0 F2.nil)) (allRo_ok rfl) (F2.cons s0 (F2.cons s1 F2.nil)) GlR.nil (by simp)
  clear ha hp hg k0 k1 e0 e1
  refine calls_W Tryd.func21 rfl rfl hR0 (Q := fun e s => (e = .ret ∨ e = .normal) ∧ s = mpadded_R r) ?_ ?_
  · clear hR0
    unfold mpadded at h
    have hT := tabO_ma
    refine W_seq ?_
    refine W_reg hT ftL_nil [] [] [0, 1] [0] (s' := ⟨[(0, .c (.wh 0)), (1, .c (.s (.u8 l1)))], [], [⟨(.ro false), 5, 1, l0.length, .b l0⟩]⟩) (by kernel_rfl) allP_nil ?_
    refine W_join (mpadded_j1_P n l1 r) ?_ ?_
    · rintro _ ⟨l0_2, rfl, h⟩
      unfold mpadded_j1 at h
      refine W_seq ?_
      obtain ⟨g1, h⟩ := gd_some h
      obtain ⟨g2, h⟩ := gd_some h
      obtain ⟨g3, h⟩ := gd_some h
      refine W_reg hT ftL_nil [] [] [0, 1, 5] [0, 1] (s' := ⟨[(0, .c (.wh 0)), (1, .c (.s (.u8 l1))), (5, .c (.wh 1))], [], [⟨(.ro false), 5, 1, l0_2.length, .b l0_2⟩, ⟨.row, 5, 1, 64, .b (List.replicate 64 0)⟩]⟩) (by kernel_rfl) (allP_cons.2 ⟨g1, (allP_cons.2 ⟨g2, (allP_cons.2 ⟨g3, allP_nil⟩)⟩)⟩) ?_
      refine W_seq ?_
      refine W_reg hT ftL_nil [] [] [1, 5] [1] (s' := ⟨[(1, .c (.s (.u8 l1))), (5, .c (.wh 0))], [], [⟨.row, 5, 1, 64, .b (((List.replicate 64 0).take 0 ++ l0_2.take (min l0_2.length 64)) ++ (List.replicate 64 0).drop (0 + (min l0_2.length 64)))⟩]⟩) (by kernel_rfl) allP_nil ?_
      refine W_seq ?_
      refine W_seq ?_
      refine W_reg hT ftL_nil [] [] [1, 5, 17, 18] [0] (s' := ⟨[(1, .c (.s (.u8 l1))), (5, .c (.wh 0)), (17, .c (.s (.k .i64 64))), (18, .c (.s (.k .i64 0)))], [], [⟨.row, 5, 1, 64, .b (((List.replicate 64 0).take 0 ++ l0_2.take (min l0_2.length 64)) ++ (List.replicate 64 0).drop (0 + (min l0_2.length 64)))⟩]⟩) (by kernel_rfl) allP_nil ?_
      refine W_block ?_
      refine W_co [] [1, 5, 17, 18] [0] (s' := (mpadded_l1_E l1 (((List.replicate 64 0).take 0 ++ l0_2.take (min l0_2.length 64)) ++ (List.replicate 64 0).drop (0 + (min l0_2.length 64))) 0)) (by kernel_rfl) (W_lp ((mpadded_l1_P n l1 r)) n (mpadded_l1_M h) ?_)
      rintro fu_l1 _ ⟨l5_2, i18_2, rfl, h⟩
      cases fu_l1 with
      | zero => cases h
      | succ fu_l1 =>
        refine ⟨fu_l1, rfl, ?_⟩
        rw [mpadded_l1] at h
        refine W_seq ?_
        refine W_reg hT ftL_nil [] [] [1, 5, 17, 18, 19] [0] (s' := ⟨[(1, .c (.s (.u8 l1))), (5, .c (.wh 0)), (17, .c (.s (.k .i64 64))), (18, .c (.s (.k .i64 i18_2))), (19, .c (.s (.b (decide (i18_2 < (64 : Int))))))], [], [⟨.row, 5, 1, 64, .b l5_2⟩]⟩) (by kernel_rfl) allP_nil ?_
        refine W_seq ?_
        refine W_cond (b := (decide (i18_2 < (64 : Int)))) (by kernel_rfl) (fun g9 => ?_) (fun g9 => ?_)
        · replace h := bif_t h g9
          refine W_co [] [1, 5, 17, 18] [0] (s' := ⟨[(1, .c (.s (.u8 l1))), (5, .c (.wh 0)), (17, .c (.s (.k .i64 64))), (18, .c (.s (.k .i64 i18_2)))], [], [⟨.row, 5, 1, 64, .b l5_2⟩]⟩) (by kernel_rfl) (W_skip ?_)
          refine W_seq ?_
          refine W_block ?_
          refine W_seq ?_
          refine W_reg hT ftL_nil [] [] [1, 5, 6, 17, 18] [0] (s' := ⟨[(1, .c (.s (.u8 l1))), (5, .c (.wh 0)), (6, .c (.s (.k .i64 i18_2))), (17, .c (.s (.k .i64 64))), (18, .c (.s (.k .i64 i18_2)))], [], [⟨.row, 5, 1, 64, .b l5_2⟩]⟩) (by kernel_rfl) allP_nil ?_
          obtain ⟨g4, h⟩ := gd_some h
          obtain ⟨g5, h⟩ := gd_some h
          obtain ⟨g6, h⟩ := gd_some h
          obtain ⟨g7, h⟩ := gd_some h
          refine W_reg hT ftL_nil [] [] [1, 5, 17, 18] [0] (s' := ⟨[(1, .c (.s (.u8 l1))), (5, .c (.wh 0)), (17, .c (.s (.k .i64 64))), (18, .c (.s (.k .i64 i18_2)))], [], [⟨.row, 5, 1, 64, .b (l5_2.set i18_2.toNat ((l5_2.getD i18_2.toNat 0) ^^^ l1))⟩]⟩) (by kernel_rfl) (allP_cons.2 ⟨g4, (allP_cons.2 ⟨g5, (allP_cons.2 ⟨g6, (allP_cons.2 ⟨g7, allP_nil⟩)⟩)⟩)⟩) ?_
          obtain ⟨g8, h⟩ := gd_some h
          refine W_reg hT ftL_nil [] [] [1, 5, 17, 18] [0] (s' := (mpadded_l1_E l1 (l5_2.set i18_2.toNat ((l5_2.getD i18_2.toNat 0) ^^^ l1)) (i18_2 + 1))) (by kernel_rfl) (allP_cons.2 ⟨g8, allP_nil⟩) ?_
          exact mpadded_l1_M h
        · replace h := bif_f h g9
          refine W_co [] [5] [0] (s' := ⟨[(5, .c (.wh 0))], [], [⟨.row, 5, 1, 64, .b l5_2⟩]⟩) (by kernel_rfl) (W_exit ?_)
          refine W_seq ?_
          refine W_reg hT ftL_nil [] [] [4] [0] (s' := ⟨[(4, .c (.wh 0))], [], [⟨.row, 5, 1, 64, .b l5_2⟩]⟩) (by kernel_rfl) allP_nil ?_
          refine W_co [] [4] [0] (s' := (mpadded_R l5_2)) (by kernel_rfl) (W_ret ?_)
          exact ⟨.inl rfl, by cases h; rfl⟩
    · refine W_seq ?_
      refine W_reg hT ftL_nil [] [] [0, 1, 9] [0] (s' := ⟨[(0, .c (.wh 0)), (1, .c (.s (.u8 l1))), (9, .c (.s (.b (decide ((64 : Int) < ((l0.length : Nat) : Int))))))], [], [⟨(.ro false), 5, 1, l0.length, .b l0⟩]⟩) (by kernel_rfl) allP_nil ?_
      refine W_cond (b := (decide ((64 : Int) < ((l0.length : Nat) : Int)))) (by kernel_rfl) (fun g11 => ?_) (fun g11 => ?_)
      · replace h := bif_t h g11
        obtain ⟨g10, h⟩ := gd_some h
        refine W_reg hT (ftL_cons (k := 1) (f := 19) (F := sum_ct) sum_h hI ftL_nil) [] [.vw 0 false] [0, 1] [2] (s' := (mpadded_j1_E l1 (digest consts begin8 l0))) (by kernel_rfl) (allP_cons.2 ⟨g10, allP_nil⟩) ?_
        exact mpadded_j1_M h
      · replace h := bif_f h g11
        refine W_co [] [0, 1] [0] (s' := (mpadded_j1_E l1 l0)) (by kernel_rfl) (W_skip ?_)
        exact mpadded_j1_M h
  · rintro e s' ⟨he, rfl⟩
    refine ⟨he, fun a' w' hr => ?_⟩
    exact retS_ok tabO_ma hr (rs := [.tmp 4]) rfl (objs := [0]) (by kernel_rfl)
def mMark_R (r : List UInt8) : S := ⟨[(4, .c (.wh 0))], [], [⟨.row, 5, 1, r.length, .b r⟩]⟩
def mMark_ct (n : Nat) (r : List UInt8) : Ct := fun args H => match args with
  | [x0, x1] => (match aB H x0 with | some l0 => (match aB H x1 with | some l1 => some ([mMark n l0 l1 = some r], shA H.length (.c (.wh 0)), shH H.length [⟨.row, 5, 1, r.length, .b r⟩]) | none => none) | none => none)
  | _ => none
theorem mMark_ok (n : Nat) (r : List UInt8) : FnOk Tryd.prog GK 11 (mMark_ct n r) := by
  refine ⟨fun args H g av objs hF hg ρ w vals hG hp ha => ?_, _, Tryd.func11, by kernel_rfl, by kernel_rfl⟩
  obtain ⟨x0, x1, rfl⟩ : ∃ x0 x1, args = [x0, x1] := by
    unfold mMark_ct at hF; split at hF
    · exact ⟨_, _, rfl⟩
    · cases hF
  cases e0 : aB H x0 with
  | none => simp only [mMark_ct, e0, reduceCtorEq] at hF
  | some l0 =>
  cases e1 : aB H x1 with
  | none => simp only [mMark_ct, e0, e1, reduceCtorEq] at hF
  | some l1 =>
  simp only [mMark_ct, e0, e1, Option.some.injEq, Prod.mk.injEq] at hF
  obtain ⟨rfl, rfl, rfl⟩ := hF
  obtain ⟨v0, vals, rfl, k0, ha⟩ := F2.inv ha
  obtain ⟨v1, vals, rfl, k1, ha⟩ := F2.inv ha
  obtain rfl := F2.inv0 ha
  have hI : ∀ w', Kp (noB (fun _ => undef)) w w' → GK w' := fun _ hk => GK.keep hk.below hG
  have h : mMark n l0 l1 = some r := hg
  obtain ⟨p0, s0, o0⟩ := aB_ok hp e0 (k0) 5
  obtain ⟨p1, s1, o1⟩ := aB_ok hp e1 (k1) 5
  have hR0 := rel0 (gv := (fun _ => undef)) (n := 18) (w := w) (args := [.c (.wh 0), .c (.wh 1)]) (H := [⟨.ro false, 5, 1, l0.length, .b l0⟩, ⟨.ro false, 5, 1, l1.length, .b l1⟩]) (gl := []) (hpL (ps := [p0, p1]) (F2.cons o0 (F2.cons o1 F2.nil))) (allRo_ok rfl) (F2.cons s0 (F2.cons s1 F2.nil)) GlR.nil (by simp)
  clear ha hp hg k0 k1 e0 e1
  refine calls_W Tryd.func11 rfl rfl hR0 (Q := fun e s => (e = .ret ∨ e = .normal) ∧ s = mMark_R r) ?_ ?_
  · clear hR0
    unfold mMark at h
    have hT := tabO_ma
    refine W_seq ?_
    refine W_reg hT ftL_nil [] [] [0, 1] [0, 1] (s' := ⟨[(0, .c (.wh 0)), (1, .c (.wh 1))], [], [⟨(.ro false), 5, 1, l0.length, .b l0⟩, ⟨(.ro false), 5, 1, l1.length, .b l1⟩]⟩) (by kernel_rfl) allP_nil ?_
    refine W_seq ?_
    obtain ⟨r7, g1, h⟩ := bind_some' h
    obtain ⟨g2, h⟩ := gd_some h
    obtain ⟨g3, h⟩ := gd_some h
    obtain ⟨g4, h⟩ := gd_some h
    refine W_reg hT (ftL_cons (k := 1) (f := 21) (F := (mpadded_ct n r7)) (mpadded_ok n r7) hI (ftL_cons (k := 4) (f := 20) (F := cat_ct) cat_h (fun _ _ => True.intro) (ftL_cons (k := 5) (f := 19) (F := sum_ct) sum_h hI ftL_nil))) [] [] [0, 5] [0, 5] (s' := ⟨[(0, .c (.wh 0)), (5, .c (.wh 1))], [], [⟨(.ro false), 5, 1, l0.length, .b l0⟩, ⟨.row, 5, 1, (digest consts begin8 ((([r7, l1] : List (List UInt8))).flatten)).length, .b (digest consts begin8 ((([r7, l1] : List (List UInt8))).flatten))⟩]⟩) (by kernel_rfl) (allP_cons.2 ⟨g1, (allP_cons.2 ⟨g2, (allP_cons.2 ⟨g3, (allP_cons.2 ⟨g4, allP_nil⟩)⟩)⟩)⟩) ?_
    refine W_seq ?_
    obtain ⟨r13, g5, h⟩ := bind_some' h
    obtain ⟨g6, h⟩ := gd_some h
    obtain ⟨g7, h⟩ := gd_some h
    obtain ⟨g8, h⟩ := gd_some h
    refine W_reg hT (ftL_cons (k := 1) (f := 21) (F := (mpadded_ct n r13)) (mpadded_ok n r13) hI (ftL_cons (k := 4) (f := 20) (F := cat_ct) cat_h (fun _ _ => True.intro) (ftL_cons (k := 5) (f := 19) (F := sum_ct) sum_h hI ftL_nil))) [] [] [4] [5] (s' := ⟨[(4, .c (.wh 0))], [], [⟨.row, 5, 1, (digest consts begin8 ((([r13, (digest consts begin8 ((([r7, l1] : List (List UInt8))).flatten))] : List (List UInt8))).flatten)).length, .b (digest consts begin8 ((([r13, (digest consts begin8 ((([r7, l1] : List (List UInt8))).flatten))] : List (List UInt8))).flatten))⟩]⟩) (by kernel_rfl) (allP_cons.2 ⟨g5, (allP_cons.2 ⟨g6, (allP_cons.2 ⟨g7, (allP_cons.2 ⟨g8, allP_nil⟩)⟩)⟩)⟩) ?_
    refine W_co [] [4] [0] (s' := (mMark_R (digest consts begin8 ((([r13, (digest consts begin8 ((([r7, l1] : List (List UInt8))).flatten))] : List (List UInt8))).flatten)))) (by kernel_rfl) (W_ret ?_)
    exact ⟨.inl rfl, by cases h; rfl⟩
  · rintro e s' ⟨he, rfl⟩
    refine ⟨he, fun a' w' hr => ?_⟩
    exact retS_ok tabO_ma hr (rs := [.tmp 4]) rfl (objs := [0]) (by kernel_rfl)
def mmay_R (r : Option Int) : S := ⟨[(2, .c (.s (.er 38 .i64 r)))], [], []⟩
def mmay_ct (n : Nat) (r : Option Int) : Ct := fun args H => match args with
  | [x0] => (match aI x0 with | some l0 => some ([mmay n l0 = some r], shA H.length (.c (.s (.er 38 .i64 r))), shH H.length []) | none => none)
  | _ => none
theorem mmay_ok (n : Nat) (r : Option Int) : FnOk Tryd.prog Tr 25 (mmay_ct n r) := by
  refine ⟨fun args H g av objs hF hg ρ w vals hG hp ha => ?_, _, Tryd.func25, by kernel_rfl, by kernel_rfl⟩
  obtain ⟨x0, rfl⟩ : ∃ x0, args = [x0] := by
    unfold mmay_ct at hF; split at hF
    · exact ⟨_, rfl⟩
    · cases hF
  cases e0 : aI x0 with
  | none => simp only [mmay_ct, e0, reduceCtorEq] at hF
  | some l0 =>
  simp only [mmay_ct, e0, Option.some.injEq, Prod.mk.injEq] at hF
  obtain ⟨rfl, rfl, rfl⟩ := hF
  obtain ⟨v0, vals, rfl, k0, ha⟩ := F2.inv ha
  obtain rfl := F2.inv0 ha
  have hI : ∀ w', Kp (noB (fun _ => undef)) w w' → Tr w' := fun _ hk => Tr.keep hk.below hG
  have h : mmay n l0 = some r := hg
  have s0 := aI_ok e0 (k0)
  have hR0 := rel0 (gv := (fun _ => undef)) (n := 11) (w := w) (args := [.c (.s (.k .i64 l0))]) (H := []) (gl := []) (hpL (ps := []) F2.nil) (allRo_ok rfl) (F2.cons s0 F2.nil) GlR.nil (by simp)
  clear ha hp hg k0 e0
  refine calls_W Tryd.func25 rfl rfl hR0 (Q := fun e s => (e = .ret ∨ e = .normal) ∧ s = mmay_R r) ?_ ?_
  · clear hR0
    unfold mmay at h
    have hT := tabO_ma
    refine W_seq ?_
    refine W_reg hT ftL_nil [] [] [0] [] (s' := ⟨[(0, .c (.s (.k .i64 l0)))], [], []⟩) (by kernel_rfl) allP_nil ?_
    refine W_seq ?_
    refine W_block ?_
    refine W_seq ?_
    refine W_reg hT ftL_nil [] [] [0, 3] [] (s' := ⟨[(0, .c (.s (.k .i64 l0))), (3, .c (.s (.b (decide (l0 < (1 : Int))))))], [], []⟩) (by kernel_rfl) allP_nil ?_
    refine W_cond (b := (decide (l0 < (1 : Int)))) (by kernel_rfl) (fun g2 => ?_) (fun g2 => ?_)
    · replace h := bif_t h g2
      refine W_seq ?_
      refine W_reg hT ftL_nil [] [] [2] [] (s' := ⟨[(2, .c (.s (.er 38 .i64 (some 1))))], [], []⟩) (by kernel_rfl) allP_nil ?_
      refine W_co [] [2] [] (s' := (mmay_R (some 1))) (by kernel_rfl) (W_ret ?_)
      exact ⟨.inl rfl, by cases h; rfl⟩
    · replace h := bif_f h g2
      refine W_seq ?_
      refine W_reg hT ftL_nil [] [] [7] [] (s' := ⟨[(7, .c (.s (.b (decide ((10000 : Int) < l0)))))], [], []⟩) (by kernel_rfl) allP_nil ?_
      refine W_cond (b := (decide ((10000 : Int) < l0))) (by kernel_rfl) (fun g1 => ?_) (fun g1 => ?_)
      · replace h := bif_t h g1
        refine W_seq ?_
        refine W_reg hT ftL_nil [] [] [2] [] (s' := ⟨[(2, .c (.s (.er 38 .i64 (some 4))))], [], []⟩) (by kernel_rfl) allP_nil ?_
        refine W_co [] [2] [] (s' := (mmay_R (some 4))) (by kernel_rfl) (W_ret ?_)
        exact ⟨.inl rfl, by cases h; rfl⟩
      · replace h := bif_f h g1
        refine W_co [] [] [] (s' := ⟨[], [], []⟩) (by kernel_rfl) (W_skip ?_)
        refine W_seq ?_
        refine W_reg hT ftL_nil [] [] [2] [] (s' := ⟨[(2, .c (.s (.v .nilIface)))], [], []⟩) (by kernel_rfl) allP_nil ?_
        refine W_co [.er 2 38 .i64] [2] [] (s' := (mmay_R none)) (by kernel_rfl) (W_ret ?_)
        exact ⟨.inl rfl, by cases h; rfl⟩
  · rintro e s' ⟨he, rfl⟩
    refine ⟨he, fun a' w' hr => ?_⟩
    exact retS_ok tabO_ma hr (rs := [.tmp 2]) rfl (objs := []) (by kernel_rfl)
def mDerive_l3_E (a0 : List UInt8) (a1 : List UInt8) (a2 : Int) (a3 : Int) (l11_1 : List UInt8) (i12_1 : Int) (r48_2 : List UInt8) (i53_5 : Int) (r57_8 : List UInt8) (l14_23 : List UInt8) (i60_17 : Int) : S := ⟨[(0, .c (.wh 0)), (1, .c (.wh 1)), (2, .c (.s (.k .i64 a2))), (3, .c (.s (.k .i64 a3))), (11, .c (.wh 2)), (12, .c (.s (.k .i64 i12_1))), (13, .c (.wh 3)), (14, .c (.wh 4)), (52, .c (.s (.k .i64 (a2 - 1)))), (53, .c (.s (.k .i64 i53_5))), (59, .c (.s (.k .i64 (((r48_2).length : Nat) : Int)))), (60, .c (.s (.k .i64 i60_17)))], [], [⟨(.ro false), 5, 1, a0.length, .b a0⟩, ⟨(.ro false), 5, 1, a1.length, .b a1⟩, ⟨.row, 5, 1, l11_1.length, .b l11_1⟩, ⟨.row, 5, 1, r57_8.length, .b r57_8⟩, ⟨.row, 5, 1, (r48_2).length, .b l14_23⟩]⟩
def mDerive_l3_P (n : Nat) (a0 : List UInt8) (a1 : List UInt8) (a2 : Int) (a3 : Int) (l11_1 : List UInt8) (i12_1 : Int) (r48_2 : List UInt8) (i53_5 : Int) (r57_8 : List UInt8) (k_l2 : (List UInt8) → (List UInt8) → Int → Option (List UInt8 × Nat × Option Int)) (r : List UInt8 × Nat × Option Int) (fu : Nat) : S → Prop := fun s => ∃ (l14_23 : List UInt8), ∃ (i60_17 : Int), s = mDerive_l3_E a0 a1 a2 a3 l11_1 i12_1 r48_2 i53_5 r57_8 l14_23 i60_17 ∧ mDerive_l3 n a0 a1 a2 a3 l11_1 i12_1 r48_2 i53_5 r57_8 k_l2 fu l14_23 i60_17 = some r
theorem mDerive_l3_M {n : Nat} {a0 : List UInt8} {a1 : List UInt8} {a2 : Int} {a3 : Int} {l11_1 : List UInt8} {i12_1 : Int} {r48_2 : List UInt8} {i53_5 : Int} {r57_8 : List UInt8} {k_l2 : (List UInt8) → (List UInt8) → Int → Option (List UInt8 × Nat × Option Int)} {l14_23 : List UInt8} {i60_17 : Int} {r : List UInt8 × Nat × Option Int} {fu : Nat} (h : mDerive_l3 n a0 a1 a2 a3 l11_1 i12_1 r48_2 i53_5 r57_8 k_l2 fu l14_23 i60_17 = some r) : mDerive_l3_P n a0 a1 a2 a3 l11_1 i12_1 r48_2 i53_5 r57_8 k_l2 r fu (mDerive_l3_E a0 a1 a2 a3 l11_1 i12_1 r48_2 i53_5 r57_8 l14_23 i60_17) := ⟨l14_23, i60_17, rfl, h⟩
def mDerive_l2_E (a0 : List UInt8) (a1 : List UInt8) (a2 : Int) (a3 : Int) (l11_1 : List UInt8) (i12_1 : Int) (r48_2 : List UInt8) (l13_5 : List UInt8) (l14_21 : List UInt8) (i53_5 : Int) : S := ⟨[(0, .c (.wh 0)), (1, .c (.wh 1)), (2, .c (.s (.k .i64 a2))), (3, .c (.s (.k .i64 a3))), (11, .c (.wh 2)), (12, .c (.s (.k .i64 i12_1))), (13, .c (.wh 3)), (14, .c (.wh 4)), (52, .c (.s (.k .i64 (a2 - 1)))), (53, .c (.s (.k .i64 i53_5)))], [], [⟨(.ro false), 5, 1, a0.length, .b a0⟩, ⟨(.ro false), 5, 1, a1.length, .b a1⟩, ⟨.row, 5, 1, l11_1.length, .b l11_1⟩, ⟨.row, 5, 1, l13_5.length, .b l13_5⟩, ⟨.row, 5, 1, (r48_2).length, .b l14_21⟩]⟩
def mDerive_l2_P (n : Nat) (a0 : List UInt8) (a1 : List UInt8) (a2 : Int) (a3 : Int) (l11_1 : List UInt8) (i12_1 : Int) (r48_2 : List UInt8) (k_l1 : (List UInt8) → Int → Option (List UInt8 × Nat × Option Int)) (r : List UInt8 × Nat × Option Int) (fu : Nat) : S → Prop := fun s => ∃ (l13_5 : List UInt8), ∃ (l14_21 : List UInt8), ∃ (i53_5 : Int), s = mDerive_l2_E a0 a1 a2 a3 l11_1 i12_1 r48_2 l13_5 l14_21 i53_5 ∧ mDerive_l2 n a0 a1 a2 a3 l11_1 i12_1 r48_2 k_l1 fu l13_5 l14_21 i53_5 = some r
theorem mDerive_l2_M {n : Nat} {a0 : List UInt8} {a1 : List UInt8} {a2 : Int} {a3 : Int} {l11_1 : List UInt8} {i12_1 : Int} {r48_2 : List UInt8} {k_l1 : (List UInt8) → Int → Option (List UInt8 × Nat × Option Int)} {l13_5 : List UInt8} {l14_21 : List UInt8} {i53_5 : Int} {r : List UInt8 × Nat × Option Int} {fu : Nat} (h : mDerive_l2 n a0 a1 a2 a3 l11_1 i12_1 r48_2 k_l1 fu l13_5 l14_21 i53_5 = some r) : mDerive_l2_P n a0 a1 a2 a3 l11_1 i12_1 r48_2 k_l1 r fu (mDerive_l2_E a0 a1 a2 a3 l11_1 i12_1 r48_2 l13_5 l14_21 i53_5) := ⟨l13_5, l14_21, i53_5, rfl, h⟩
def mDerive_l1_E (a0 : List UInt8) (a1 : List UInt8) (a2 : Int) (a3 : Int) (l11_1 : List UInt8) (i12_1 : Int) : S := ⟨[(0, .c (.wh 0)), (1, .c (.wh 1)), (2, .c (.s (.k .i64 a2))), (3, .c (.s (.k .i64 a3))), (11, .c (.wh 2)), (12, .c (.s (.k .i64 i12_1)))], [], [⟨(.ro false), 5, 1, a0.length, .b a0⟩, ⟨(.ro false), 5, 1, a1.length, .b a1⟩, ⟨.row, 5, 1, l11_1.length, .b l11_1⟩]⟩
def mDerive_l1_P (n : Nat) (a0 : List UInt8) (a1 : List UInt8) (a2 : Int) (a3 : Int) (r : List UInt8 × Nat × Option Int) (fu : Nat) : S → Prop := fun s => ∃ (l11_1 : List UInt8), ∃ (i12_1 : Int), s = mDerive_l1_E a0 a1 a2 a3 l11_1 i12_1 ∧ mDerive_l1 n a0 a1 a2 a3 fu l11_1 i12_1 = some r
theorem mDerive_l1_M {n : Nat} {a0 : List UInt8} {a1 : List UInt8} {a2 : Int} {a3 : Int} {l11_1 : List UInt8} {i12_1 : Int} {r : List UInt8 × Nat × Option Int} {fu : Nat} (h : mDerive_l1 n a0 a1 a2 a3 fu l11_1 i12_1 = some r) : mDerive_l1_P n a0 a1 a2 a3 r fu (mDerive_l1_E a0 a1 a2 a3 l11_1 i12_1) := ⟨l11_1, i12_1, rfl, h⟩
def mDerive_R (r : List UInt8 × Nat × Option Int) : S := ⟨[(8, .c (.sl 0 0 r.2.1)), (9, .c (.s (.er 38 .i64 r.2.2)))], [], [⟨.row, 5, 1, r.1.length, .b r.1⟩]⟩
def mDerive_ct (n : Nat) (r : List UInt8 × Nat × Option Int) : Ct := fun args H => match args with
  | [x0, x1, x2, x3] => (match aB H x0 with | some l0 => (match aB H x1 with | some l1 => (match aI x2 with | some l2 => (match aI x3 with | some l3 => some ([mDerive n l0 l1 l2 l3 = some r], shA H.length (.t [.c (.sl 0 0 r.2.1), .c (.s (.er 38 .i64 r.2.2))]), shH H.length [⟨.row, 5, 1, r.1.length, .b r.1⟩]) | none => none) | none => none) | none => none) | none => none)
  | _ => none
theorem mDerive_ok (n : Nat) (r : List UInt8 × Nat × Option Int) : FnOk Tryd.prog GK 14 (mDerive_ct n r) := by
  refine ⟨fun args H g av objs hF hg ρ w vals hG hp ha => ?_, _, Tryd.func14, by kernel_rfl, by kernel_rfl⟩
  obtain ⟨x0, x1, x2, x3, rfl⟩ : ∃ x0 x1 x2 x3, args = [x0, x1, x2, x3] := by
    unfold mDerive_ct at hF; split at hF
    · exact ⟨_, _, _, _, rfl⟩
    · cases hF
  cases e0 : aB H x0 with
  | none => simp only [mDerive_ct, e0, reduceCtorEq] at hF
  | some l0 =>
  cases e1 : aB H x1 with
  | none => simp only [mDerive_ct, e0, e1, reduceCtorEq] at hF
  | some l1 =>
  cases e2 : aI x2 with
  | none => simp only [mDerive_ct, e0, e1, e2, reduceCtorEq] at hF
  | some l2 =>
  cases e3 : aI x3 with
  | none => simp only [mDerive_ct, e0, e1, e2, e3, reduceCtorEq] at hF
  | some l3 =>
  simp only [mDerive_ct, e0, e1, e2, e3, Option.some.injEq, Prod.mk.injEq] at hF
  obtain ⟨rfl, rfl, rfl⟩ := hF
  obtain ⟨v0, vals, rfl, k0, ha⟩ := F2.inv ha
  obtain ⟨v1, vals, rfl, k1, ha⟩ := F2.inv ha
  obtain ⟨v2, vals, rfl, k2, ha⟩ := F2.inv ha
  obtain ⟨v3, vals, rfl, k3, ha⟩ := F2.inv ha
  obtain rfl := F2.inv0 ha
  have hI : ∀ w', Kp (noB (fun _ => undef)) w w' → GK w' := fun _ hk => GK.keep hk.below hG
  have h : mDerive n l0 l1 l2 l3 = some r := hg
  obtain ⟨p0, s0, o0⟩ := aB_ok hp e0 (k0) 5
  obtain ⟨p1, s1, o1⟩ := aB_ok hp e1 (k1) 5
  have s2 := aI_ok e2 (k2)
  have s3 := aI_ok e3 (k3)
  have hR0 := rel0 (gv := (fun _ => undef)) (n := 82) (w := w) (args := [.c (.wh 0), .c (.wh 1), .c (.s (.k .i64 l2)), .c (.s (.k .i64 l3))]) (H := [⟨.ro false, 5, 1, l0.length, .b l0⟩, ⟨.ro false, 5, 1, l1.length, .b l1⟩]) (gl := []) (hpL (ps := [p0, p1]) (F2.cons o0 (F2.cons o1 F2.nil))) (allRo_ok rfl) (F2.cons s0 (F2.cons s1 (F2.cons s2 (F2.cons s3 F2.nil)))) GlR.nil (by simp)
  clear ha hp hg k0 k1 k2 k3 e0 e1 e2 e3
  refine calls_W Tryd.func14 rfl rfl hR0 (Q := fun e s => (e = .ret ∨ e = .normal) ∧ s = mDerive_R r) ?_ ?_
  · clear hR0
    unfold mDerive at h
    have hT := tabO_ma
    refine W_seq ?_
    refine W_reg hT ftL_nil [] [] [0, 1, 2, 3] [0, 1] (s' := ⟨[(0, .c (.wh 0)), (1, .c (.wh 1)), (2, .c (.s (.k .i64 l2))), (3, .c (.s (.k .i64 l3)))], [], [⟨(.ro false), 5, 1, l0.length, .b l0⟩, ⟨(.ro false), 5, 1, l1.length, .b l1⟩]⟩) (by kernel_rfl) allP_nil ?_
    refine W_seq ?_
    refine W_seq ?_
    rcases Bool.eq_false_or_eq_true (decide (l3 < (0 : Int))) with g1 | g1
    · replace h := bif_t h g1
      refine W_reg hT ftL_nil [(2, true)] [] [0, 1, 2, 3, 21] [0, 1] (s' := ⟨[(0, .c (.wh 0)), (1, .c (.wh 1)), (2, .c (.s (.k .i64 l2))), (3, .c (.s (.k .i64 l3))), (21, .c (.s (.b true)))], [], [⟨(.ro false), 5, 1, l0.length, .b l0⟩, ⟨(.ro false), 5, 1, l1.length, .b l1⟩]⟩) (by kernel_rfl) (allP_cons.2 ⟨g1, allP_nil⟩) ?_
      refine W_cond (b := true) (by kernel_rfl) (fun _ => ?_) (fun hb => by cases hb)
      refine W_seq ?_
      refine W_reg hT ftL_nil [] [] [8, 9] [] (s' := ⟨[(8, .c (.nils)), (9, .c (.s (.er 38 .i64 (some 1))))], [], []⟩) (by kernel_rfl) allP_nil ?_
      refine W_co [.nil 8 5 1 (.b []), .sb 8] [8, 9] [0] (s' := (mDerive_R ([], 0, (some 1)))) (by kernel_rfl) (W_ret ?_)
      exact ⟨.inl rfl, by cases h; rfl⟩
    · replace h := bif_f h g1
      refine W_reg hT ftL_nil [(2, false)] [] [0, 1, 2, 3, 21] [0, 1] (s' := ⟨[(0, .c (.wh 0)), (1, .c (.wh 1)), (2, .c (.s (.k .i64 l2))), (3, .c (.s (.k .i64 l3))), (21, .c (.s (.b (decide (l2 < (1 : Int))))))], [], [⟨(.ro false), 5, 1, l0.length, .b l0⟩, ⟨(.ro false), 5, 1, l1.length, .b l1⟩]⟩) (by kernel_rfl) (allP_cons.2 ⟨g1, allP_nil⟩) ?_
      refine W_cond (b := (decide (l2 < (1 : Int)))) (by kernel_rfl) (fun g29 => ?_) (fun g29 => ?_)
      · replace h := bif_t h g29
        refine W_seq ?_
        refine W_reg hT ftL_nil [] [] [8, 9] [] (s' := ⟨[(8, .c (.nils)), (9, .c (.s (.er 38 .i64 (some 1))))], [], []⟩) (by kernel_rfl) allP_nil ?_
        refine W_co [.nil 8 5 1 (.b []), .sb 8] [8, 9] [0] (s' := (mDerive_R ([], 0, (some 1)))) (by kernel_rfl) (W_ret ?_)
        exact ⟨.inl rfl, by cases h; rfl⟩
      · replace h := bif_f h g29
        refine W_co [] [0, 1, 2, 3] [0, 1] (s' := ⟨[(0, .c (.wh 0)), (1, .c (.wh 1)), (2, .c (.s (.k .i64 l2))), (3, .c (.s (.k .i64 l3)))], [], [⟨(.ro false), 5, 1, l0.length, .b l0⟩, ⟨(.ro false), 5, 1, l1.length, .b l1⟩]⟩) (by kernel_rfl) (W_skip ?_)
        refine W_seq ?_
        refine W_seq ?_
        obtain ⟨r24, g2, h⟩ := bind_some' h
        refine W_reg hT (ftL_cons (k := 1) (f := 25) (F := (mmay_ct n r24)) (mmay_ok n r24) (fun _ _ => True.intro) ftL_nil) [] [] [0, 1, 2, 3, 10] [0, 1] (s' := ⟨[(0, .c (.wh 0)), (1, .c (.wh 1)), (2, .c (.s (.k .i64 l2))), (3, .c (.s (.k .i64 l3))), (10, .c (.s (.er 38 .i64 r24)))], [], [⟨(.ro false), 5, 1, l0.length, .b l0⟩, ⟨(.ro false), 5, 1, l1.length, .b l1⟩]⟩) (by kernel_rfl) (allP_cons.2 ⟨g2, allP_nil⟩) ?_
        refine W_seq ?_
        rcases Bool.eq_false_or_eq_true (!((r24).isNone)) with g3 | g3
        · replace h := bif_t h g3
          refine W_reg hT ftL_nil [(2, true)] [] [0, 1, 2, 3, 30] [0, 1] (s' := ⟨[(0, .c (.wh 0)), (1, .c (.wh 1)), (2, .c (.s (.k .i64 l2))), (3, .c (.s (.k .i64 l3))), (30, .c (.s (.b true)))], [], [⟨(.ro false), 5, 1, l0.length, .b l0⟩, ⟨(.ro false), 5, 1, l1.length, .b l1⟩]⟩) (by kernel_rfl) (allP_cons.2 ⟨g3, allP_nil⟩) ?_
          refine W_cond (b := true) (by kernel_rfl) (fun _ => ?_) (fun hb => by cases hb)
          refine W_seq ?_
          refine W_reg hT ftL_nil [] [] [8, 9] [] (s' := ⟨[(8, .c (.nils)), (9, .c (.s (.er 38 .i64 (some 4))))], [], []⟩) (by kernel_rfl) allP_nil ?_
          refine W_co [.nil 8 5 1 (.b []), .sb 8] [8, 9] [0] (s' := (mDerive_R ([], 0, (some 4)))) (by kernel_rfl) (W_ret ?_)
          exact ⟨.inl rfl, by cases h; rfl⟩
        · replace h := bif_f h g3
          refine W_reg hT ftL_nil [(2, false)] [] [0, 1, 2, 3, 30] [0, 1] (s' := ⟨[(0, .c (.wh 0)), (1, .c (.wh 1)), (2, .c (.s (.k .i64 l2))), (3, .c (.s (.k .i64 l3))), (30, .c (.s (.b (decide ((256 : Int) < l3)))))], [], [⟨(.ro false), 5, 1, l0.length, .b l0⟩, ⟨(.ro false), 5, 1, l1.length, .b l1⟩]⟩) (by kernel_rfl) (allP_cons.2 ⟨g3, allP_nil⟩) ?_
          refine W_cond (b := (decide ((256 : Int) < l3))) (by kernel_rfl) (fun g28 => ?_) (fun g28 => ?_)
          · replace h := bif_t h g28
            refine W_seq ?_
            refine W_reg hT ftL_nil [] [] [8, 9] [] (s' := ⟨[(8, .c (.nils)), (9, .c (.s (.er 38 .i64 (some 4))))], [], []⟩) (by kernel_rfl) allP_nil ?_
            refine W_co [.nil 8 5 1 (.b []), .sb 8] [8, 9] [0] (s' := (mDerive_R ([], 0, (some 4)))) (by kernel_rfl) (W_ret ?_)
            exact ⟨.inl rfl, by cases h; rfl⟩
          · replace h := bif_f h g28
            refine W_co [] [0, 1, 2, 3] [0, 1] (s' := ⟨[(0, .c (.wh 0)), (1, .c (.wh 1)), (2, .c (.s (.k .i64 l2))), (3, .c (.s (.k .i64 l3)))], [], [⟨(.ro false), 5, 1, l0.length, .b l0⟩, ⟨(.ro false), 5, 1, l1.length, .b l1⟩]⟩) (by kernel_rfl) (W_skip ?_)
            refine W_seq ?_
            refine W_reg hT ftL_nil [] [] [0, 1, 2, 3, 11] [0, 1] (s' := ⟨[(0, .c (.wh 0)), (1, .c (.wh 1)), (2, .c (.s (.k .i64 l2))), (3, .c (.s (.k .i64 l3))), (11, .c (.nils))], [], [⟨(.ro false), 5, 1, l0.length, .b l0⟩, ⟨(.ro false), 5, 1, l1.length, .b l1⟩]⟩) (by kernel_rfl) allP_nil ?_
            refine W_seq ?_
            refine W_seq ?_
            refine W_reg hT ftL_nil [] [] [0, 1, 2, 3, 11, 12] [0, 1] (s' := ⟨[(0, .c (.wh 0)), (1, .c (.wh 1)), (2, .c (.s (.k .i64 l2))), (3, .c (.s (.k .i64 l3))), (11, .c (.nils)), (12, .c (.s (.k .i64 1)))], [], [⟨(.ro false), 5, 1, l0.length, .b l0⟩, ⟨(.ro false), 5, 1, l1.length, .b l1⟩]⟩) (by kernel_rfl) allP_nil ?_
            refine W_block ?_
            refine W_co [.nil 11 5 1 (.b [])] [0, 1, 2, 3, 11, 12] [0, 1, 2] (s' := (mDerive_l1_E l0 l1 l2 l3 [] 1)) (by kernel_rfl) (W_lp ((mDerive_l1_P n l0 l1 l2 l3 r)) n (mDerive_l1_M h) ?_)
            rintro fu_l1 _ ⟨l11_1, i12_1, rfl, h⟩
            cases fu_l1 with
            | zero => cases h
            | succ fu_l1 =>
              refine ⟨fu_l1, rfl, ?_⟩
              rw [mDerive_l1] at h
              refine W_seq ?_
              refine W_seq ?_
              refine W_reg hT ftL_nil [] [] [0, 1, 2, 3, 11, 12, 35] [0, 1, 2] (s' := ⟨[(0, .c (.wh 0)), (1, .c (.wh 1)), (2, .c (.s (.k .i64 l2))), (3, .c (.s (.k .i64 l3))), (11, .c (.wh 2)), (12, .c (.s (.k .i64 i12_1))), (35, .c (.s (.b (decide (((l11_1.length : Nat) : Int) < l3)))))], [], [⟨(.ro false), 5, 1, l0.length, .b l0⟩, ⟨(.ro false), 5, 1, l1.length, .b l1⟩, ⟨.row, 5, 1, l11_1.length, .b l11_1⟩]⟩) (by kernel_rfl) allP_nil ?_
              refine W_cond (b := (decide (((l11_1.length : Nat) : Int) < l3))) (by kernel_rfl) (fun g27 => ?_) (fun g27 => ?_)
              · replace h := bif_t h g27
                refine W_co [] [0, 1, 2, 3, 11, 12] [0, 1, 2] (s' := ⟨[(0, .c (.wh 0)), (1, .c (.wh 1)), (2, .c (.s (.k .i64 l2))), (3, .c (.s (.k .i64 l3))), (11, .c (.wh 2)), (12, .c (.s (.k .i64 i12_1)))], [], [⟨(.ro false), 5, 1, l0.length, .b l0⟩, ⟨(.ro false), 5, 1, l1.length, .b l1⟩, ⟨.row, 5, 1, l11_1.length, .b l11_1⟩]⟩) (by kernel_rfl) (W_skip ?_)
                refine W_seq ?_
                refine W_block ?_
                refine W_seq ?_
                obtain ⟨g4, h⟩ := gd_some h
                obtain ⟨g5, h⟩ := gd_some h
                obtain ⟨g6, h⟩ := gd_some h
                obtain ⟨g7, h⟩ := gd_some h
                obtain ⟨r48_2, g8, h⟩ := bind_some' h
                refine W_reg hT (ftL_cons (k := 9) (f := 20) (F := cat_ct) cat_h (fun _ _ => True.intro) (ftL_cons (k := 10) (f := 11) (F := (mMark_ct n r48_2)) (mMark_ok n r48_2) hI ftL_nil)) [] [] [0, 1, 2, 3, 11, 12, 13] [0, 1, 2, 6] (s' := ⟨[(0, .c (.wh 0)), (1, .c (.wh 1)), (2, .c (.s (.k .i64 l2))), (3, .c (.s (.k .i64 l3))), (11, .c (.wh 2)), (12, .c (.s (.k .i64 i12_1))), (13, .c (.wh 3))], [], [⟨(.ro false), 5, 1, l0.length, .b l0⟩, ⟨(.ro false), 5, 1, l1.length, .b l1⟩, ⟨.row, 5, 1, l11_1.length, .b l11_1⟩, ⟨.row, 5, 1, r48_2.length, .b r48_2⟩]⟩) (by kernel_rfl) (allP_cons.2 ⟨g4, (allP_cons.2 ⟨g5, (allP_cons.2 ⟨g6, (allP_cons.2 ⟨g7, (allP_cons.2 ⟨g8, allP_nil⟩)⟩)⟩)⟩)⟩) ?_
                refine W_seq ?_
                obtain ⟨g9, h⟩ := gd_some h
                refine W_reg hT (ftL_cons (k := 1) (f := 26) (F := cloneb_ct) cloneb_h (fun _ _ => True.intro) ftL_nil) [] [] [0, 1, 2, 3, 11, 12, 13, 14] [0, 1, 2, 3, 4] (s' := ⟨[(0, .c (.wh 0)), (1, .c (.wh 1)), (2, .c (.s (.k .i64 l2))), (3, .c (.s (.k .i64 l3))), (11, .c (.wh 2)), (12, .c (.s (.k .i64 i12_1))), (13, .c (.wh 3)), (14, .c (.wh 4))], [], [⟨(.ro false), 5, 1, l0.length, .b l0⟩, ⟨(.ro false), 5, 1, l1.length, .b l1⟩, ⟨.row, 5, 1, l11_1.length, .b l11_1⟩, ⟨.row, 5, 1, r48_2.length, .b r48_2⟩, ⟨.row, 5, 1, (r48_2).length, .b (r48_2)⟩]⟩) (by kernel_rfl) (allP_cons.2 ⟨g9, allP_nil⟩) ?_
                refine W_seq ?_
                refine W_seq ?_
                obtain ⟨g10, h⟩ := gd_some h
                refine W_reg hT ftL_nil [] [] [0, 1, 2, 3, 11, 12, 13, 14, 52, 53] [0, 1, 2, 3, 4] (s' := ⟨[(0, .c (.wh 0)), (1, .c (.wh 1)), (2, .c (.s (.k .i64 l2))), (3, .c (.s (.k .i64 l3))), (11, .c (.wh 2)), (12, .c (.s (.k .i64 i12_1))), (13, .c (.wh 3)), (14, .c (.wh 4)), (52, .c (.s (.k .i64 (l2 - 1)))), (53, .c (.s (.k .i64 0)))], [], [⟨(.ro false), 5, 1, l0.length, .b l0⟩, ⟨(.ro false), 5, 1, l1.length, .b l1⟩, ⟨.row, 5, 1, l11_1.length, .b l11_1⟩, ⟨.row, 5, 1, r48_2.length, .b r48_2⟩, ⟨.row, 5, 1, (r48_2).length, .b (r48_2)⟩]⟩) (by kernel_rfl) (allP_cons.2 ⟨g10, allP_nil⟩) ?_
                refine W_block ?_
                refine W_co [] [0, 1, 2, 3, 11, 12, 13, 14, 52, 53] [0, 1, 2, 3, 4] (s' := (mDerive_l2_E l0 l1 l2 l3 l11_1 i12_1 r48_2 r48_2 (r48_2) 0)) (by kernel_rfl) (W_lp ((mDerive_l2_P n l0 l1 l2 l3 l11_1 i12_1 r48_2 (mDerive_l1 n l0 l1 l2 l3 fu_l1) r)) n (mDerive_l2_M h) ?_)
                rintro fu_l2 _ ⟨l13_5, l14_21, i53_5, rfl, h⟩
                cases fu_l2 with
                | zero => cases h
                | succ fu_l2 =>
                  refine ⟨fu_l2, rfl, ?_⟩
                  rw [mDerive_l2] at h
                  refine W_seq ?_
                  refine W_reg hT ftL_nil [] [] [0, 1, 2, 3, 11, 12, 13, 14, 52, 53, 54] [0, 1, 2, 3, 4] (s' := ⟨[(0, .c (.wh 0)), (1, .c (.wh 1)), (2, .c (.s (.k .i64 l2))), (3, .c (.s (.k .i64 l3))), (11, .c (.wh 2)), (12, .c (.s (.k .i64 i12_1))), (13, .c (.wh 3)), (14, .c (.wh 4)), (52, .c (.s (.k .i64 (l2 - 1)))), (53, .c (.s (.k .i64 i53_5))), (54, .c (.s (.b (decide (i53_5 < (l2 - 1))))))], [], [⟨(.ro false), 5, 1, l0.length, .b l0⟩, ⟨(.ro false), 5, 1, l1.length, .b l1⟩, ⟨.row, 5, 1, l11_1.length, .b l11_1⟩, ⟨.row, 5, 1, l13_5.length, .b l13_5⟩, ⟨.row, 5, 1, (r48_2).length, .b l14_21⟩]⟩) (by kernel_rfl) allP_nil ?_
                  refine W_seq ?_
                  refine W_cond (b := (decide (i53_5 < (l2 - 1)))) (by kernel_rfl) (fun g23 => ?_) (fun g23 => ?_)
                  · replace h := bif_t h g23
                    refine W_co [] [0, 1, 2, 3, 11, 12, 13, 14, 52, 53] [0, 1, 2, 3, 4] (s' := ⟨[(0, .c (.wh 0)), (1, .c (.wh 1)), (2, .c (.s (.k .i64 l2))), (3, .c (.s (.k .i64 l3))), (11, .c (.wh 2)), (12, .c (.s (.k .i64 i12_1))), (13, .c (.wh 3)), (14, .c (.wh 4)), (52, .c (.s (.k .i64 (l2 - 1)))), (53, .c (.s (.k .i64 i53_5)))], [], [⟨(.ro false), 5, 1, l0.length, .b l0⟩, ⟨(.ro false), 5, 1, l1.length, .b l1⟩, ⟨.row, 5, 1, l11_1.length, .b l11_1⟩, ⟨.row, 5, 1, l13_5.length, .b l13_5⟩, ⟨.row, 5, 1, (r48_2).length, .b l14_21⟩]⟩) (by kernel_rfl) (W_skip ?_)
                    refine W_seq ?_
                    refine W_block ?_
                    refine W_seq ?_
                    obtain ⟨r57_8, g11, h⟩ := bind_some' h
                    refine W_reg hT (ftL_cons (k := 2) (f := 11) (F := (mMark_ct n r57_8)) (mMark_ok n r57_8) hI ftL_nil) [] [] [0, 1, 2, 3, 11, 12, 13, 14, 52, 53] [0, 1, 2, 5, 4] (s' := ⟨[(0, .c (.wh 0)), (1, .c (.wh 1)), (2, .c (.s (.k .i64 l2))), (3, .c (.s (.k .i64 l3))), (11, .c (.wh 2)), (12, .c (.s (.k .i64 i12_1))), (13, .c (.wh 3)), (14, .c (.wh 4)), (52, .c (.s (.k .i64 (l2 - 1)))), (53, .c (.s (.k .i64 i53_5)))], [], [⟨(.ro false), 5, 1, l0.length, .b l0⟩, ⟨(.ro false), 5, 1, l1.length, .b l1⟩, ⟨.row, 5, 1, l11_1.length, .b l11_1⟩, ⟨.row, 5, 1, r57_8.length, .b r57_8⟩, ⟨.row, 5, 1, (r48_2).length, .b l14_21⟩]⟩) (by kernel_rfl) (allP_cons.2 ⟨g11, allP_nil⟩) ?_
                    refine W_seq ?_
                    refine W_reg hT ftL_nil [] [] [0, 1, 2, 3, 11, 12, 13, 14, 52, 53, 59, 60] [0, 1, 2, 3, 4] (s' := ⟨[(0, .c (.wh 0)), (1, .c (.wh 1)), (2, .c (.s (.k .i64 l2))), (3, .c (.s (.k .i64 l3))), (11, .c (.wh 2)), (12, .c (.s (.k .i64 i12_1))), (13, .c (.wh 3)), (14, .c (.wh 4)), (52, .c (.s (.k .i64 (l2 - 1)))), (53, .c (.s (.k .i64 i53_5))), (59, .c (.s (.k .i64 (((r48_2).length : Nat) : Int)))), (60, .c (.s (.k .i64 0)))], [], [⟨(.ro false), 5, 1, l0.length, .b l0⟩, ⟨(.ro false), 5, 1, l1.length, .b l1⟩, ⟨.row, 5, 1, l11_1.length, .b l11_1⟩, ⟨.row, 5, 1, r57_8.length, .b r57_8⟩, ⟨.row, 5, 1, (r48_2).length, .b l14_21⟩]⟩) (by kernel_rfl) allP_nil ?_
                    refine W_block ?_
                    refine W_co [] [0, 1, 2, 3, 11, 12, 13, 14, 52, 53, 59, 60] [0, 1, 2, 3, 4] (s' := (mDerive_l3_E l0 l1 l2 l3 l11_1 i12_1 r48_2 i53_5 r57_8 l14_21 0)) (by kernel_rfl) (W_lp ((mDerive_l3_P n l0 l1 l2 l3 l11_1 i12_1 r48_2 i53_5 r57_8 (mDerive_l2 n l0 l1 l2 l3 l11_1 i12_1 r48_2 (mDerive_l1 n l0 l1 l2 l3 fu_l1) fu_l2) r)) n (mDerive_l3_M h) ?_)
                    rintro fu_l3 _ ⟨l14_23, i60_17, rfl, h⟩
                    cases fu_l3 with
                    | zero => cases h
                    | succ fu_l3 =>
                      refine ⟨fu_l3, rfl, ?_⟩
                      rw [mDerive_l3] at h
                      refine W_seq ?_
                      refine W_reg hT ftL_nil [] [] [0, 1, 2, 3, 11, 12, 13, 14, 52, 53, 59, 60, 61] [0, 1, 2, 3, 4] (s' := ⟨[(0, .c (.wh 0)), (1, .c (.wh 1)), (2, .c (.s (.k .i64 l2))), (3, .c (.s (.k .i64 l3))), (11, .c (.wh 2)), (12, .c (.s (.k .i64 i12_1))), (13, .c (.wh 3)), (14, .c (.wh 4)), (52, .c (.s (.k .i64 (l2 - 1)))), (53, .c (.s (.k .i64 i53_5))), (59, .c (.s (.k .i64 (((r48_2).length : Nat) : Int)))), (60, .c (.s (.k .i64 i60_17))), (61, .c (.s (.b (decide (i60_17 < (((r48_2).length : Nat) : Int))))))], [], [⟨(.ro false), 5, 1, l0.length, .b l0⟩, ⟨(.ro false), 5, 1, l1.length, .b l1⟩, ⟨.row, 5, 1, l11_1.length, .b l11_1⟩, ⟨.row, 5, 1, r57_8.length, .b r57_8⟩, ⟨.row, 5, 1, (r48_2).length, .b l14_23⟩]⟩) (by kernel_rfl) allP_nil ?_
                      refine W_seq ?_
                      refine W_cond (b := (decide (i60_17 < (((r48_2).length : Nat) : Int)))) (by kernel_rfl) (fun g20 => ?_) (fun g20 => ?_)
                      · replace h := bif_t h g20
                        refine W_co [] [0, 1, 2, 3, 11, 12, 13, 14, 52, 53, 59, 60] [0, 1, 2, 3, 4] (s' := ⟨[(0, .c (.wh 0)), (1, .c (.wh 1)), (2, .c (.s (.k .i64 l2))), (3, .c (.s (.k .i64 l3))), (11, .c (.wh 2)), (12, .c (.s (.k .i64 i12_1))), (13, .c (.wh 3)), (14, .c (.wh 4)), (52, .c (.s (.k .i64 (l2 - 1)))), (53, .c (.s (.k .i64 i53_5))), (59, .c (.s (.k .i64 (((r48_2).length : Nat) : Int)))), (60, .c (.s (.k .i64 i60_17)))], [], [⟨(.ro false), 5, 1, l0.length, .b l0⟩, ⟨(.ro false), 5, 1, l1.length, .b l1⟩, ⟨.row, 5, 1, l11_1.length, .b l11_1⟩, ⟨.row, 5, 1, r57_8.length, .b r57_8⟩, ⟨.row, 5, 1, (r48_2).length, .b l14_23⟩]⟩) (by kernel_rfl) (W_skip ?_)
                        refine W_seq ?_
                        refine W_block ?_
                        refine W_seq ?_
                        refine W_reg hT ftL_nil [] [] [0, 1, 2, 3, 11, 12, 13, 14, 15, 52, 53, 59, 60] [0, 1, 2, 3, 4] (s' := ⟨[(0, .c (.wh 0)), (1, .c (.wh 1)), (2, .c (.s (.k .i64 l2))), (3, .c (.s (.k .i64 l3))), (11, .c (.wh 2)), (12, .c (.s (.k .i64 i12_1))), (13, .c (.wh 3)), (14, .c (.wh 4)), (15, .c (.s (.k .i64 i60_17))), (52, .c (.s (.k .i64 (l2 - 1)))), (53, .c (.s (.k .i64 i53_5))), (59, .c (.s (.k .i64 (((r48_2).length : Nat) : Int)))), (60, .c (.s (.k .i64 i60_17)))], [], [⟨(.ro false), 5, 1, l0.length, .b l0⟩, ⟨(.ro false), 5, 1, l1.length, .b l1⟩, ⟨.row, 5, 1, l11_1.length, .b l11_1⟩, ⟨.row, 5, 1, r57_8.length, .b r57_8⟩, ⟨.row, 5, 1, (r48_2).length, .b l14_23⟩]⟩) (by kernel_rfl) allP_nil ?_
                        obtain ⟨g12, h⟩ := gd_some h
                        obtain ⟨g13, h⟩ := gd_some h
                        obtain ⟨g14, h⟩ := gd_some h
                        obtain ⟨g15, h⟩ := gd_some h
                        obtain ⟨g16, h⟩ := gd_some h
                        obtain ⟨g17, h⟩ := gd_some h
                        refine W_regD hT ftL_nil (by kernel_rfl) 8 [] [(0, false), (1, false), (2, false), (3, false), (11, false), (12, false), (13, false), (14, false), (52, false), (53, false), (59, false), (60, false), (63, false), (64, false), (66, false), (70, false)] [] [0, 1, 2, 3, 11, 12, 13, 14, 52, 53, 59, 60] [0, 1, 2, 3, 4] (s' := ⟨[(0, .c (.wh 0)), (1, .c (.wh 1)), (2, .c (.s (.k .i64 l2))), (3, .c (.s (.k .i64 l3))), (11, .c (.wh 2)), (12, .c (.s (.k .i64 i12_1))), (13, .c (.wh 3)), (14, .c (.wh 4)), (52, .c (.s (.k .i64 (l2 - 1)))), (53, .c (.s (.k .i64 i53_5))), (59, .c (.s (.k .i64 (((r48_2).length : Nat) : Int)))), (60, .c (.s (.k .i64 i60_17)))], [], [⟨(.ro false), 5, 1, l0.length, .b l0⟩, ⟨(.ro false), 5, 1, l1.length, .b l1⟩, ⟨.row, 5, 1, l11_1.length, .b l11_1⟩, ⟨.row, 5, 1, r57_8.length, .b r57_8⟩, ⟨.row, 5, 1, (r48_2).length, .b (l14_23.set i60_17.toNat ((l14_23.getD i60_17.toNat 0) ^^^ (r57_8.getD i60_17.toNat 0)))⟩]⟩) (by kernel_rfl) (by kernel_rfl) (allP_cons.2 ⟨g12, (allP_cons.2 ⟨g13, (allP_cons.2 ⟨g14, (allP_cons.2 ⟨g15, (allP_cons.2 ⟨g16, (allP_cons.2 ⟨g17, allP_nil⟩)⟩)⟩)⟩)⟩)⟩) ?_
                        obtain ⟨g18, h⟩ := gd_some h
                        refine W_reg hT ftL_nil [] [] [0, 1, 2, 3, 11, 12, 13, 14, 52, 53, 59, 60] [0, 1, 2, 3, 4] (s' := (mDerive_l3_E l0 l1 l2 l3 l11_1 i12_1 r48_2 i53_5 r57_8 (l14_23.set i60_17.toNat ((l14_23.getD i60_17.toNat 0) ^^^ (r57_8.getD i60_17.toNat 0))) (i60_17 + 1))) (by kernel_rfl) (allP_cons.2 ⟨g18, allP_nil⟩) ?_
                        exact mDerive_l3_M h
                      · replace h := bif_f h g20
                        refine W_co [] [0, 1, 2, 3, 11, 12, 13, 14, 52, 53] [0, 1, 2, 3, 4] (s' := ⟨[(0, .c (.wh 0)), (1, .c (.wh 1)), (2, .c (.s (.k .i64 l2))), (3, .c (.s (.k .i64 l3))), (11, .c (.wh 2)), (12, .c (.s (.k .i64 i12_1))), (13, .c (.wh 3)), (14, .c (.wh 4)), (52, .c (.s (.k .i64 (l2 - 1)))), (53, .c (.s (.k .i64 i53_5)))], [], [⟨(.ro false), 5, 1, l0.length, .b l0⟩, ⟨(.ro false), 5, 1, l1.length, .b l1⟩, ⟨.row, 5, 1, l11_1.length, .b l11_1⟩, ⟨.row, 5, 1, r57_8.length, .b r57_8⟩, ⟨.row, 5, 1, (r48_2).length, .b l14_23⟩]⟩) (by kernel_rfl) (W_exit ?_)
                        obtain ⟨g19, h⟩ := gd_some h
                        refine W_reg hT ftL_nil [] [] [0, 1, 2, 3, 11, 12, 13, 14, 52, 53] [0, 1, 2, 3, 4] (s' := (mDerive_l2_E l0 l1 l2 l3 l11_1 i12_1 r48_2 r57_8 l14_23 (i53_5 + 1))) (by kernel_rfl) (allP_cons.2 ⟨g19, allP_nil⟩) ?_
                        exact mDerive_l2_M h
                  · replace h := bif_f h g23
                    refine W_co [] [0, 1, 2, 3, 11, 12, 14] [0, 1, 2, 4] (s' := ⟨[(0, .c (.wh 0)), (1, .c (.wh 1)), (2, .c (.s (.k .i64 l2))), (3, .c (.s (.k .i64 l3))), (11, .c (.wh 2)), (12, .c (.s (.k .i64 i12_1))), (14, .c (.wh 3))], [], [⟨(.ro false), 5, 1, l0.length, .b l0⟩, ⟨(.ro false), 5, 1, l1.length, .b l1⟩, ⟨.row, 5, 1, l11_1.length, .b l11_1⟩, ⟨.row, 5, 1, (r48_2).length, .b l14_21⟩]⟩) (by kernel_rfl) (W_exit ?_)
                    obtain ⟨g21, h⟩ := gd_some h
                    refine W_reg hT ftL_nil [] [] [0, 1, 2, 3, 11, 12] [0, 1, 4] (s' := ⟨[(0, .c (.wh 0)), (1, .c (.wh 1)), (2, .c (.s (.k .i64 l2))), (3, .c (.s (.k .i64 l3))), (11, .c (.wh 2)), (12, .c (.s (.k .i64 i12_1)))], [], [⟨(.ro false), 5, 1, l0.length, .b l0⟩, ⟨(.ro false), 5, 1, l1.length, .b l1⟩, ⟨.row, 5, 1, (l11_1 ++ l14_21).length, .b (l11_1 ++ l14_21)⟩]⟩) (by kernel_rfl) (allP_cons.2 ⟨g21, allP_nil⟩) ?_
                    obtain ⟨g22, h⟩ := gd_some h
                    refine W_reg hT ftL_nil [] [] [0, 1, 2, 3, 11, 12] [0, 1, 2] (s' := (mDerive_l1_E l0 l1 l2 l3 (l11_1 ++ l14_21) (i12_1 + 1))) (by kernel_rfl) (allP_cons.2 ⟨g22, allP_nil⟩) ?_
                    exact mDerive_l1_M h
              · replace h := bif_f h g27
                refine W_co [] [3, 11] [2] (s' := ⟨[(3, .c (.s (.k .i64 l3))), (11, .c (.wh 0))], [], [⟨.row, 5, 1, l11_1.length, .b l11_1⟩]⟩) (by kernel_rfl) (W_exit ?_)
                refine W_seq ?_
                obtain ⟨g24, h⟩ := gd_some h
                obtain ⟨g25, h⟩ := gd_some h
                obtain ⟨g26, h⟩ := gd_some h
                refine W_reg hT ftL_nil [] [] [8, 9] [0] (s' := ⟨[(8, .c (.sl 0 0 l3.toNat)), (9, .c (.s (.v .nilIface)))], [], [⟨.row, 5, 1, l11_1.length, .b l11_1⟩]⟩) (by kernel_rfl) (allP_cons.2 ⟨g24, (allP_cons.2 ⟨g25, (allP_cons.2 ⟨g26, allP_nil⟩)⟩)⟩) ?_
                refine W_co [.er 9 38 .i64] [8, 9] [0] (s' := (mDerive_R (l11_1, l3.toNat, none))) (by kernel_rfl) (W_ret ?_)
                exact ⟨.inl rfl, by cases h; rfl⟩
  · rintro e s' ⟨he, rfl⟩
    refine ⟨he, fun a' w' hr => ?_⟩
    exact retS_ok tabO_ma hr (rs := [.tmp 8, .tmp 9]) rfl (objs := [0]) (by kernel_rfl)
def mup_R (r : Bool) : S := ⟨[(0, .c (.s (.b r)))], [], []⟩
def mup_ct (n : Nat) (r : Bool) : Ct := fun args H => match args with
  | [] => some ([mup n = some r], shA H.length (.c (.s (.b r))), shH H.length [])
  | _ => none
theorem mup_ok (n : Nat) (r : Bool) : FnOk Tryd.prog GK 9 (mup_ct n r) := by
  refine ⟨fun args H g av objs hF hg ρ w vals hG hp ha => ?_, _, Tryd.func9, by kernel_rfl, by kernel_rfl⟩
  obtain rfl : args = [] := by
    unfold mup_ct at hF; split at hF
    · exact rfl
    · cases hF
  simp only [mup_ct, Option.some.injEq, Prod.mk.injEq] at hF
  obtain ⟨rfl, rfl, rfl⟩ := hF
  obtain rfl := F2.inv0 ha
  have hI : ∀ w', Kp (noB (fun _ => undef)) w w' → GK w' := fun _ hk => GK.keep hk.below hG
  have h : mup n = some r := hg
  have hR0 := rel0 (gv := (fun _ => undef)) (n := 31) (w := w) (args := []) (H := []) (gl := []) (hpL (ps := []) F2.nil) (allRo_ok rfl) F2.nil GlR.nil (by simp)
  clear ha hp hg 
  refine calls_W Tryd.func9 rfl rfl hR0 (Q := fun e s => (e = .ret ∨ e = .normal) ∧ s = mup_R r) ?_ ?_
  · clear hR0
    unfold mup at h
    have hT := tabO_ma
    refine W_seq ?_
    refine W_reg hT ftL_nil [] [] [] [] (s' := ⟨[], [], []⟩) (by kernel_rfl) allP_nil ?_
    refine W_seq ?_
    refine W_reg hT ftL_nil [] [] [1] [] (s' := ⟨[(1, .c (.s (.str ([91, 220, 193, 70, 191, 96, 117, 78, 106, 4, 36, 38, 8, 149, 117, 199, 90, 0, 63, 8, 157, 39, 57, 131, 157, 236, 88, 185, 100, 236, 56, 67] : List UInt8))))], [], []⟩) (by kernel_rfl) allP_nil ?_
    refine W_seq ?_
    refine W_reg hT ftL_nil [] [] [1, 2] [] (s' := ⟨[(1, .c (.s (.str ([91, 220, 193, 70, 191, 96, 117, 78, 106, 4, 36, 38, 8, 149, 117, 199, 90, 0, 63, 8, 157, 39, 57, 131, 157, 236, 88, 185, 100, 236, 56, 67] : List UInt8)))), (2, .c (.s (.str ([85, 172, 4, 110, 86, 227, 8, 159, 236, 22, 145, 194, 37, 68, 182, 5] : List UInt8))))], [], []⟩) (by kernel_rfl) allP_nil ?_
    refine W_seq ?_
    obtain ⟨r10, g1, h⟩ := bind_some' h
    refine W_reg hT (ftL_cons (k := 4) (f := 14) (F := (mDerive_ct n r10)) (mDerive_ok n r10) hI ftL_nil) [] [] [1, 2, 3, 4] [2] (s' := ⟨[(1, .c (.s (.str ([91, 220, 193, 70, 191, 96, 117, 78, 106, 4, 36, 38, 8, 149, 117, 199, 90, 0, 63, 8, 157, 39, 57, 131, 157, 236, 88, 185, 100, 236, 56, 67] : List UInt8)))), (2, .c (.s (.str ([85, 172, 4, 110, 86, 227, 8, 159, 236, 22, 145, 194, 37, 68, 182, 5] : List UInt8)))), (3, .c (.sl 0 0 r10.2.1)), (4, .c (.s (.er 38 .i64 r10.2.2)))], [], [⟨.row, 5, 1, r10.1.length, .b r10.1⟩]⟩) (by kernel_rfl) (allP_cons.2 ⟨g1, allP_nil⟩) ?_
    refine W_seq ?_
    obtain ⟨r17, g2, h⟩ := bind_some' h
    rcases Bool.eq_false_or_eq_true (r17 == ([91, 220, 193, 70, 191, 96, 117, 78, 106, 4, 36, 38, 8, 149, 117, 199, 90, 0, 63, 8, 157, 39, 57, 131, 157, 236, 88, 185, 100, 236, 56, 67] : List UInt8)) with g3 | g3
    · replace h := bif_t h g3
      rcases Bool.eq_false_or_eq_true ((r10.2.2).isNone) with g4 | g4
      · replace h := bif_t h g4
        refine W_reg hT (ftL_cons (k := 4) (f := 11) (F := (mMark_ct n r17)) (mMark_ok n r17) hI ftL_nil) [(8, true), (12, true)] [] [0] [] (s' := ⟨[(0, .c (.s (.b (((r10.1.drop 0).take r10.2.1) == ([85, 172, 4, 110, 86, 227, 8, 159, 236, 22, 145, 194, 37, 68, 182, 5] : List UInt8)))))], [], []⟩) (by kernel_rfl) (allP_cons.2 ⟨g2, (allP_cons.2 ⟨g3, (allP_cons.2 ⟨g4, allP_nil⟩)⟩)⟩) ?_
        refine W_co [] [0] [] (s' := (mup_R (((r10.1.drop 0).take r10.2.1) == ([85, 172, 4, 110, 86, 227, 8, 159, 236, 22, 145, 194, 37, 68, 182, 5] : List UInt8)))) (by kernel_rfl) (W_ret ?_)
        exact ⟨.inl rfl, by cases h; rfl⟩
      · replace h := bif_f h g4
        refine W_reg hT (ftL_cons (k := 4) (f := 11) (F := (mMark_ct n r17)) (mMark_ok n r17) hI ftL_nil) [(8, true), (12, false)] [] [0] [] (s' := ⟨[(0, .c (.s (.b false)))], [], []⟩) (by kernel_rfl) (allP_cons.2 ⟨g2, (allP_cons.2 ⟨g3, (allP_cons.2 ⟨g4, allP_nil⟩)⟩)⟩) ?_
        refine W_co [] [0] [] (s' := (mup_R false)) (by kernel_rfl) (W_ret ?_)
        exact ⟨.inl rfl, by cases h; rfl⟩
    · replace h := bif_f h g3
      refine W_reg hT (ftL_cons (k := 4) (f := 11) (F := (mMark_ct n r17)) (mMark_ok n r17) hI ftL_nil) [(8, false)] [] [0] [] (s' := ⟨[(0, .c (.s (.b false)))], [], []⟩) (by kernel_rfl) (allP_cons.2 ⟨g2, (allP_cons.2 ⟨g3, allP_nil⟩)⟩) ?_
      refine W_co [] [0] [] (s' := (mup_R false)) (by kernel_rfl) (W_ret ?_)
      exact ⟨.inl rfl, by cases h; rfl⟩
  · rintro e s' ⟨he, rfl⟩
    refine ⟨he, fun a' w' hr => ?_⟩
    exact retS_ok tabO_ma hr (rs := [.tmp 0]) rfl (objs := []) (by kernel_rfl)
end Go.Proofs.YtamddohbpdbdmaaDoor
end
section
set_option linter.unusedVariables false
set_option linter.unusedSimpArgs false
namespace Go.Proofs.YtamddohbpdbdmaaDoor
open Go.RowKit Go.Ch Go.Sx

def tabL_ms : List (TypeId × Ti) := [(3, ⟨.int .i64, 1, 8, true, some [.int .i64]⟩),
  (5, ⟨.int .u8, 1, 1, true, some [.int .u8]⟩),
  (22, ⟨.sl 5, 1, 24, false, some [.nils]⟩),
  (27, ⟨.sl 28, 1, 24, false, some [.nils]⟩),
  (28, ⟨.int .u32, 1, 4, true, some [.int .u32]⟩),
  (29, ⟨.arr 8 28, 8, 32, true, some [.int .u32, .int .u32, .int .u32, .int .u32, .int .u32, .int .u32, .int .u32, .int .u32]⟩),
  (31, ⟨.st [(27, 0), (29, 1)], 9, 56, false, some [.nils, .int .u32, .int .u32, .int .u32, .int .u32, .int .u32, .int .u32, .int .u32, .int .u32]⟩),
  (35, ⟨.ifc, 1, 16, true, some [.ifc]⟩),
  (55, ⟨.sl 22, 1, 24, false, some [.nils]⟩)]
def tab_ms : Tab := fun t => (tabL_ms).lookup t
theorem tabE_ms : (tabL_ms.map fun p => tiOf Tryd.prog p.1) = tabL_ms.map fun p => some p.2 := by kernel_rfl
theorem tabO_ms : TabOk Tryd.prog tab_ms := tab_of tabE_ms

def mBased_l1 (n : Nat) (a2 : Int) : Nat → List UInt8 → Int → Option (List UInt8 × Option Int)
  | 0, _, _ => none
  | fu_l1 + 1, l9_1, i22_1 =>
    bif (decide (i22_1 < (a2 - 1))) then
      gd ((l9_1).length ≤ 100000) <|
      gd (okI .i64 (i22_1 + 1)) <|
      (mBased_l1 n a2 fu_l1) (digest consts begin8 l9_1) (i22_1 + 1)
    else
      some (l9_1, none)
def mBased (n : Nat) (a0 : List UInt8) (a1 : List UInt8) (a2 : Int) : Option (List UInt8 × Option Int) :=
  (mmay n a2).bind fun r11 =>
  bif (!((r11).isNone)) then
    some ([], r11)
  else
    gd ((([a0, a1] : List (List UInt8))).length ≤ 1000000) <|
    gd ((([a0, a1] : List (List UInt8))).flatten.length ≤ 1000000000) <|
    gd ((((([a0, a1] : List (List UInt8))).flatten)).length ≤ 100000) <|
    gd (okI .i64 (a2 - 1)) <|
    mBased_l1 n a2 n (digest consts begin8 ((([a0, a1] : List (List UInt8))).flatten)) 0
def mcut (n : Nat) (a0 : List UInt8) (a1 : Int) : Option (List UInt8 × Nat) :=
  bif (decide (a1 < ((a0.length : Nat) : Int))) then
    gd (0 ≤ a1) <|
    gd (a1 ≤ ((a0.length : Nat) : Int)) <|
    some (a0, a1.toNat)
  else
    some (a0, a0.length)

def mBased_l1_E (a2 : Int) (l9_1 : List UInt8) (i22_1 : Int) : S := ⟨[(9, .c (.wh 0)), (21, .c (.s (.k .i64 (a2 - 1)))), (22, .c (.s (.k .i64 i22_1)))], [], [⟨.row, 5, 1, l9_1.length, .b l9_1⟩]⟩
def mBased_l1_P (n : Nat) (a2 : Int) (r : List UInt8 × Option Int) (fu : Nat) : S → Prop := fun s => ∃ (l9_1 : List UInt8), ∃ (i22_1 : Int), s = mBased_l1_E a2 l9_1 i22_1 ∧ mBased_l1 n a2 fu l9_1 i22_1 = some r
theorem mBased_l1_M {n : Nat} {a2 : Int} {l9_1 : List UInt8} {i22_1 : Int} {r : List UInt8 × Option Int} {fu : Nat} (h : mBased_l1 n a2 fu l9_1 i22_1 = some r) : mBased_l1_P n a2 r fu (mBased_l1_E a2 l9_1 i22_1) := ⟨l9_1, i22_1, rfl, h⟩
def mBased_R (r : List UInt8 × Option Int) : S := ⟨[(6, .c (.wh 0)), (7, .c (.s (.er 38 .i64 r.2)))], [], [⟨.row, 5, 1, r.1.length, .b r.1⟩]⟩
def mBased_ct (n : Nat) (r : List UInt8 × Option Int) : Ct := fun args H => match args with
  | [x0, x1, x2] => (match aB H x0 with | some l0 => (match aB H x1 with | some l1 => (match aI x2 with | some l2 => some ([mBased n l0 l1 l2 = some r], shA H.length (.t [.c (.wh 0), .c (.s (.er 38 .i64 r.2))]), shH H.length [⟨.row, 5, 1, r.1.length, .b r.1⟩]) | none => none) | none => none) | none => none)
  | _ => none
theorem mBased_ok (n : Nat) (r : List UInt8 × Option Int) : FnOk Tryd.prog GK 16 (mBased_ct n r) := by
  refine ⟨fun args H g av objs hF hg ρ w vals hG hp ha => ?_, _, Tryd.func16, by kernel_rfl, by kernel_rfl⟩
  obtain ⟨x0, x1, x2, rfl⟩ : ∃ x0 x1 x2, args = [x0, x1, x2] := by
    unfold mBased_ct at hF; split at hF
    · exact ⟨_, _, _, rfl⟩
    · cases hF
  cases e0 : aB H x0 with
  | none => simp only [mBased_ct, e0, reduceCtorEq] at hF
  | some l0 =>
  cases e1 : aB H x1 with
  | none => simp only [mBased_ct, e0, e1, reduceCtorEq] at hF
  | some l1 =>
  cases e2 : aI x2 with
  | none => simp only [mBased_ct, e0, e1, e2, reduceCtorEq] at hF
  | some l2 =>
  simp only [mBased_ct, e0, e1, e2, Option.some.injEq, Prod.mk.injEq] at hF
  obtain ⟨rfl, rfl, rfl⟩ := hF
  obtain ⟨v0, vals, rfl, k0, ha⟩ := F2.inv ha
  obtain ⟨v1, vals, rfl, k1, ha⟩ := F2.inv ha
  obtain ⟨v2, vals, rfl, k2, ha⟩ := F2.inv ha
  obtain rfl := F2.inv0 ha
  have hI : ∀ w', Kp (noB (fun _ => undef)) w w' → GK w' := fun _ hk => GK.keep hk.below hG
  have h : mBased n l0 l1 l2 = some r := hg
  obtain ⟨p0, s0, o0⟩ := aB_ok hp e0 (k0) 5
  obtain ⟨p1, s1, o1⟩ := aB_ok hp e1 (k1) 5
  have s2 := aI_ok e2 (k2)
  have hR0 := rel0 (gv := (fun _ => undef)) (n := 28) (w := w) (args := [.c (.wh 0), .c (.wh 1), .c (.s (.k .i64 l2))]) (H := [⟨.ro false, 5, 1, l0.length, .b l0⟩, ⟨.ro false, 5, 1, l1.length, .b l1⟩]) (gl := []) (hpL (ps := [p0, p1]) (F2.cons o0 (F2.cons o1 F2.nil))) (allRo_ok rfl) (F2.cons s0 (F2.cons s1 (F2.cons s2 F2.nil))) GlR.nil (by simp)
  clear ha hp hg k0 k1 k2 e0 e1 e2
  refine calls_W Tryd.func16 rfl rfl hR0 (Q := fun e s => (e = .ret ∨ e = .normal) ∧ s = mBased_R r) ?_ ?_
  · clear hR0
    unfold mBased at h
    have hT := tabO_ms
    refine W_seq ?_
    refine W_reg hT ftL_nil [] [] [0, 1, 2] [0, 1] (s' := ⟨[(0, .c (.wh 0)), (1, .c (.wh 1)), (2, .c (.s (.k .i64 l2)))], [], [⟨(.ro false), 5, 1, l0.length, .b l0⟩, ⟨(.ro false), 5, 1, l1.length, .b l1⟩]⟩) (by kernel_rfl) allP_nil ?_
    refine W_seq ?_
    refine W_seq ?_
    obtain ⟨r11, g1, h⟩ := bind_some' h
    refine W_reg hT (ftL_cons (k := 1) (f := 25) (F := (mmay_ct n r11)) (mmay_ok n r11) (fun _ _ => True.intro) ftL_nil) [] [] [0, 1, 2, 8] [0, 1] (s' := ⟨[(0, .c (.wh 0)), (1, .c (.wh 1)), (2, .c (.s (.k .i64 l2))), (8, .c (.s (.er 38 .i64 r11)))], [], [⟨(.ro false), 5, 1, l0.length, .b l0⟩, ⟨(.ro false), 5, 1, l1.length, .b l1⟩]⟩) (by kernel_rfl) (allP_cons.2 ⟨g1, allP_nil⟩) ?_
    refine W_seq ?_
    refine W_reg hT ftL_nil [] [] [0, 1, 2, 8, 13] [0, 1] (s' := ⟨[(0, .c (.wh 0)), (1, .c (.wh 1)), (2, .c (.s (.k .i64 l2))), (8, .c (.s (.er 38 .i64 r11))), (13, .c (.s (.b (!((r11).isNone)))))], [], [⟨(.ro false), 5, 1, l0.length, .b l0⟩, ⟨(.ro false), 5, 1, l1.length, .b l1⟩]⟩) (by kernel_rfl) allP_nil ?_
    refine W_cond (b := (!((r11).isNone))) (by kernel_rfl) (fun g9 => ?_) (fun g9 => ?_)
    · replace h := bif_t h g9
      refine W_seq ?_
      refine W_reg hT ftL_nil [] [] [6, 7] [] (s' := ⟨[(6, .c (.nils)), (7, .c (.s (.er 38 .i64 r11)))], [], []⟩) (by kernel_rfl) allP_nil ?_
      refine W_co [.nil 6 5 1 (.b [])] [6, 7] [0] (s' := (mBased_R ([], r11))) (by kernel_rfl) (W_ret ?_)
      exact ⟨.inl rfl, by cases h; rfl⟩
    · replace h := bif_f h g9
      refine W_co [] [0, 1, 2] [0, 1] (s' := ⟨[(0, .c (.wh 0)), (1, .c (.wh 1)), (2, .c (.s (.k .i64 l2)))], [], [⟨(.ro false), 5, 1, l0.length, .b l0⟩, ⟨(.ro false), 5, 1, l1.length, .b l1⟩]⟩) (by kernel_rfl) (W_skip ?_)
      refine W_seq ?_
      obtain ⟨g2, h⟩ := gd_some h
      obtain ⟨g3, h⟩ := gd_some h
      obtain ⟨g4, h⟩ := gd_some h
      refine W_reg hT (ftL_cons (k := 3) (f := 20) (F := cat_ct) cat_h (fun _ _ => True.intro) (ftL_cons (k := 4) (f := 19) (F := sum_ct) sum_h hI ftL_nil)) [] [] [2, 9] [4] (s' := ⟨[(2, .c (.s (.k .i64 l2))), (9, .c (.wh 0))], [], [⟨.row, 5, 1, (digest consts begin8 ((([l0, l1] : List (List UInt8))).flatten)).length, .b (digest consts begin8 ((([l0, l1] : List (List UInt8))).flatten))⟩]⟩) (by kernel_rfl) (allP_cons.2 ⟨g2, (allP_cons.2 ⟨g3, (allP_cons.2 ⟨g4, allP_nil⟩)⟩)⟩) ?_
      refine W_seq ?_
      refine W_seq ?_
      obtain ⟨g5, h⟩ := gd_some h
      refine W_reg hT ftL_nil [] [] [9, 21, 22] [0] (s' := ⟨[(9, .c (.wh 0)), (21, .c (.s (.k .i64 (l2 - 1)))), (22, .c (.s (.k .i64 0)))], [], [⟨.row, 5, 1, (digest consts begin8 ((([l0, l1] : List (List UInt8))).flatten)).length, .b (digest consts begin8 ((([l0, l1] : List (List UInt8))).flatten))⟩]⟩) (by kernel_rfl) (allP_cons.2 ⟨g5, allP_nil⟩) ?_
      refine W_block ?_
      refine W_co [] [9, 21, 22] [0] (s' := (mBased_l1_E l2 (digest consts begin8 ((([l0, l1] : List (List UInt8))).flatten)) 0)) (by kernel_rfl) (W_lp ((mBased_l1_P n l2 r)) n (mBased_l1_M h) ?_)
      rintro fu_l1 _ ⟨l9_1, i22_1, rfl, h⟩
      cases fu_l1 with
      | zero => cases h
      | succ fu_l1 =>
        refine ⟨fu_l1, rfl, ?_⟩
        rw [mBased_l1] at h
        refine W_seq ?_
        refine W_reg hT ftL_nil [] [] [9, 21, 22, 23] [0] (s' := ⟨[(9, .c (.wh 0)), (21, .c (.s (.k .i64 (l2 - 1)))), (22, .c (.s (.k .i64 i22_1))), (23, .c (.s (.b (decide (i22_1 < (l2 - 1))))))], [], [⟨.row, 5, 1, l9_1.length, .b l9_1⟩]⟩) (by kernel_rfl) allP_nil ?_
        refine W_seq ?_
        refine W_cond (b := (decide (i22_1 < (l2 - 1)))) (by kernel_rfl) (fun g8 => ?_) (fun g8 => ?_)
        · replace h := bif_t h g8
          refine W_co [] [9, 21, 22] [0] (s' := ⟨[(9, .c (.wh 0)), (21, .c (.s (.k .i64 (l2 - 1)))), (22, .c (.s (.k .i64 i22_1)))], [], [⟨.row, 5, 1, l9_1.length, .b l9_1⟩]⟩) (by kernel_rfl) (W_skip ?_)
          refine W_seq ?_
          refine W_block ?_
          obtain ⟨g6, h⟩ := gd_some h
          refine W_reg hT (ftL_cons (k := 1) (f := 19) (F := sum_ct) sum_h hI ftL_nil) [] [] [9, 21, 22] [1] (s' := ⟨[(9, .c (.wh 0)), (21, .c (.s (.k .i64 (l2 - 1)))), (22, .c (.s (.k .i64 i22_1)))], [], [⟨.row, 5, 1, (digest consts begin8 l9_1).length, .b (digest consts begin8 l9_1)⟩]⟩) (by kernel_rfl) (allP_cons.2 ⟨g6, allP_nil⟩) ?_
          obtain ⟨g7, h⟩ := gd_some h
          refine W_reg hT ftL_nil [] [] [9, 21, 22] [0] (s' := (mBased_l1_E l2 (digest consts begin8 l9_1) (i22_1 + 1))) (by kernel_rfl) (allP_cons.2 ⟨g7, allP_nil⟩) ?_
          exact mBased_l1_M h
        · replace h := bif_f h g8
          refine W_co [] [9] [0] (s' := ⟨[(9, .c (.wh 0))], [], [⟨.row, 5, 1, l9_1.length, .b l9_1⟩]⟩) (by kernel_rfl) (W_exit ?_)
          refine W_seq ?_
          refine W_reg hT ftL_nil [] [] [6, 7] [0] (s' := ⟨[(6, .c (.wh 0)), (7, .c (.s (.v .nilIface)))], [], [⟨.row, 5, 1, l9_1.length, .b l9_1⟩]⟩) (by kernel_rfl) allP_nil ?_
          refine W_co [.er 7 38 .i64] [6, 7] [0] (s' := (mBased_R (l9_1, none))) (by kernel_rfl) (W_ret ?_)
          exact ⟨.inl rfl, by cases h; rfl⟩
  · rintro e s' ⟨he, rfl⟩
    refine ⟨he, fun a' w' hr => ?_⟩
    exact retS_ok tabO_ms hr (rs := [.tmp 6, .tmp 7]) rfl (objs := [0]) (by kernel_rfl)
def mcut_R (r : List UInt8 × Nat) : S := ⟨[(4, .c (.sl 0 0 r.2))], [(1000000, .c (.wh 0))], [⟨(.ro false), 5, 1, r.1.length, .b r.1⟩]⟩
def mcut_ct (n : Nat) (r : List UInt8 × Nat) : Ct := fun args H => match args with
  | [x0, x1] => (match aB H x0 with | some l0 => (match aI x1 with | some l1 => (match subC 0 r.2 x0 with | some ys => some ([mcut n l0 l1 = some r], ys, []) | none => none) | none => none) | none => none)
  | _ => none
theorem mcut_ok (n : Nat) (r : List UInt8 × Nat) : FnOk Tryd.prog Tr 10 (mcut_ct n r) := by
  refine ⟨fun args H g av objs hF hg ρ w vals hG hp ha => ?_, _, Tryd.func10, by kernel_rfl, by kernel_rfl⟩
  obtain ⟨x0, x1, rfl⟩ : ∃ x0 x1, args = [x0, x1] := by
    unfold mcut_ct at hF; split at hF
    · exact ⟨_, _, rfl⟩
    · cases hF
  cases e0 : aB H x0 with
  | none => simp only [mcut_ct, e0, reduceCtorEq] at hF
  | some l0 =>
  cases e1 : aI x1 with
  | none => simp only [mcut_ct, e0, e1, reduceCtorEq] at hF
  | some l1 =>
  cases e2 : subC 0 r.2 x0 with
  | none => simp only [mcut_ct, e0, e1, e2, reduceCtorEq] at hF
  | some ys =>
  simp only [mcut_ct, e0, e1, e2, Option.some.injEq, Prod.mk.injEq] at hF
  obtain ⟨rfl, rfl, rfl⟩ := hF
  obtain ⟨v0, vals, rfl, k0, ha⟩ := F2.inv ha
  obtain ⟨v1, vals, rfl, k1, ha⟩ := F2.inv ha
  obtain rfl := F2.inv0 ha
  have hI : ∀ w', Kp (noB (fun j => ([v0, v1] : List Value).getD j undef)) w w' → Tr w' := fun _ hk => Tr.keep hk.below hG
  have h : mcut n l0 l1 = some r := hg
  obtain ⟨p0, s0, o0⟩ := aB_ok hp e0 (k0) 5
  have s1 := aI_ok e1 (k1)
  have kk := k0
  have zz := aB_sz hp e0
  have hR0 := rel0 (gv := (fun j => ([v0, v1] : List Value).getD j undef)) (n := 13) (w := w) (args := [.c (.wh 0), .c (.s (.k .i64 l1))]) (H := [⟨.ro false, 5, 1, l0.length, .b l0⟩]) (gl := [(1000000, .c (.wh 0))]) (hpL (ps := [p0]) (F2.cons o0 F2.nil)) (allRo_ok rfl) (F2.cons s0 (F2.cons s1 F2.nil)) (GlR.cons 0 s0 GlR.nil) (by simp)
  clear ha hp hg k0 k1 e0 e1
  refine calls_W Tryd.func10 rfl rfl hR0 (Q := fun e s => (e = .ret ∨ e = .normal) ∧ s = mcut_R r) ?_ ?_
  · clear hR0
    unfold mcut at h
    have hT := tabO_ms
    refine W_seq ?_
    refine W_reg hT ftL_nil [] [] [0, 1] [0] (s' := ⟨[(0, .c (.wh 0)), (1, .c (.s (.k .i64 l1)))], [(1000000, .c (.wh 0))], [⟨(.ro false), 5, 1, l0.length, .b l0⟩]⟩) (by kernel_rfl) allP_nil ?_
    refine W_seq ?_
    refine W_seq ?_
    refine W_reg hT ftL_nil [] [] [0, 1, 8] [0] (s' := ⟨[(0, .c (.wh 0)), (1, .c (.s (.k .i64 l1))), (8, .c (.s (.b (decide (l1 < ((l0.length : Nat) : Int))))))], [(1000000, .c (.wh 0))], [⟨(.ro false), 5, 1, l0.length, .b l0⟩]⟩) (by kernel_rfl) allP_nil ?_
    refine W_cond (b := (decide (l1 < ((l0.length : Nat) : Int)))) (by kernel_rfl) (fun g3 => ?_) (fun g3 => ?_)
    · replace h := bif_t h g3
      refine W_seq ?_
      obtain ⟨g1, h⟩ := gd_some h
      obtain ⟨g2, h⟩ := gd_some h
      refine W_reg hT ftL_nil [] [] [4] [0] (s' := ⟨[(4, .c (.sl 0 0 l1.toNat))], [(1000000, .c (.wh 0))], [⟨(.ro false), 5, 1, l0.length, .b l0⟩]⟩) (by kernel_rfl) (allP_cons.2 ⟨g1, (allP_cons.2 ⟨g2, allP_nil⟩)⟩) ?_
      refine W_co [] [4] [0] (s' := (mcut_R (l0, l1.toNat))) (by kernel_rfl) (W_ret ?_)
      exact ⟨.inl rfl, by cases h; rfl⟩
    · replace h := bif_f h g3
      refine W_co [] [0] [0] (s' := ⟨[(0, .c (.wh 0))], [(1000000, .c (.wh 0))], [⟨(.ro false), 5, 1, l0.length, .b l0⟩]⟩) (by kernel_rfl) (W_skip ?_)
      refine W_seq ?_
      refine W_reg hT ftL_nil [] [] [4] [0] (s' := ⟨[(4, .c (.wh 0))], [(1000000, .c (.wh 0))], [⟨(.ro false), 5, 1, l0.length, .b l0⟩]⟩) (by kernel_rfl) allP_nil ?_
      refine W_co [.sb 4] [4] [0] (s' := (mcut_R (l0, l0.length))) (by kernel_rfl) (W_ret ?_)
      exact ⟨.inl rfl, by cases h; rfl⟩
  · rintro e s' ⟨he, rfl⟩
    refine ⟨he, fun a' w' hr => ?_⟩
    exact retB_ok (q := 0) hr rfl rfl rfl (by kernel_rfl) kk zz e2
end Go.Proofs.YtamddohbpdbdmaaDoor
end
section
set_option linter.unusedVariables false
set_option linter.unusedSimpArgs false
namespace Go.Sx
open Go.RowKit Go.Ch

/-! ### plain laws for what sx.py prints -/
theorem okI64 {n : Int} (h0 : -9223372036854775808 ≤ n) (h1 : n < 9223372036854775808) : okI .i64 n := by
  unfold okI IntKind.wrap
  simp [IntKind.bits, IntKind.signed]
  omega
theorem ite_t {α : Type} {b : Bool} {x y : α} (h : b = true) : (bif b then x else y) = x := by rw [h]; rfl
theorem ite_f {α : Type} {b : Bool} {x y : α} (h : b = false) : (bif b then x else y) = y := by rw [h]; rfl
/-- f on the first j -/
def upN {α : Type} (f : α → α) (l : List α) (j : Nat) : List α := (l.take j).map f ++ l.drop j
theorem upN_all {α : Type} (f : α → α) (l : List α) (j : Nat) (h : l.length ≤ j) : upN f l j = l.map f := by
  unfold upN; rw [List.take_of_length_le h, List.drop_of_length_le h, List.append_nil]
theorem upN_set {α : Type} (z : α) (f : α → α) (l : List α) (j : Nat) (h : j < l.length) : (upN f l j).set j (f ((upN f l j).getD j z)) = upN f l (j + 1) := by
  have hl : ((l.take j).map f).length = j := by simp; omega
  have hg : (upN f l j).getD j z = l[j] := by
    unfold upN
    rw [List.getD_eq_getElem?_getD, List.getElem?_append_right (by omega), hl, Nat.sub_self, List.getElem?_drop, Nat.add_zero, List.getElem?_eq_getElem h]
    rfl
  rw [hg]
  unfold upN
  rw [List.set_append_right _ _ (by omega), hl, Nat.sub_self, List.drop_eq_getElem_cons h, List.set_cons_zero, List.take_succ_eq_append_getElem h, List.map_append]
  simp only [List.map_cons, List.map_nil, List.append_assoc, List.singleton_append]
/-- a law's walk: what came in, what is handed back -/
theorem law_of {P : Program} {I : World → Prop} {f : FuncId} {F : Ct} {args : List AV} {H : Hp} {g : List Prop} {objs : List Oj} {ρ : Pls} {w : World} {vals : List Value} (h : FnOk P I f F) (hF : F args H = some (g, .c (.s (.b true)), objs)) (hg : allP g)
    (hI : I w) (hp : HpR ρ w H) (ha : F2 (avR ρ) args vals) : Calls P f vals.toArray w (Ret fun v w' => Ext w w' ∧ v = .bool true) :=
  calls_mono (h.ct args H g _ objs hF hg ρ w vals hI hp ha) fun _ _ ⟨hx, _, hL⟩ => ⟨hx, hL.val⟩
theorem in_b {w : World} {B : Nat} {v : Value} {l : List UInt8} (hv : Sl w B v (l.map bU)) (e : TypeId) : ∃ p, InSl w e l.length (.b l) v p := by
  have h := sl_slr hv
  rw [List.length_map] at h
  exact in_sl h (fun ρ => csR_b.2 rfl) e
end Go.Sx
end
section
set_option linter.unusedVariables false
set_option linter.unusedSimpArgs false
namespace Go.Sx
open Go Go.RowKit Go.Ch Go.Proofs.YtamddohbpdbdmaaDoor
def N64 : Nat := 18446744073709551616
abbrev Dg (l : List UInt8) : List UInt8 := digest consts begin8 l
theorem Dg_len (l : List UInt8) : (Dg l).length = 32 := length_digest _ _ _
theorem mup_is : mup N64 = some true := by decide +kernel
/-! ### the mark -/
def hkey (k : List UInt8) : List UInt8 := if 64 < k.length then Dg k else k
theorem hkey_len (k : List UInt8) : (hkey k).length ≤ 64 := by
  unfold hkey; split
  · rw [Dg_len]; omega
  · omega
def padk (k : List UInt8) : List UInt8 := k ++ List.replicate (64 - k.length) 0
theorem padk_len {k : List UInt8} (h : k.length ≤ 64) : (padk k).length = 64 := by unfold padk; simp; omega
def hmac (k b : List UInt8) : List UInt8 := Dg ((padk (hkey k)).map (· ^^^ 92) ++ Dg ((padk (hkey k)).map (· ^^^ 54) ++ b))
theorem hmac_len (k b : List UInt8) : (hmac k b).length = 32 := Dg_len _
theorem mpadded_l1_is (n : Nat) (x : UInt8) (l : List UInt8) (hl : l.length = 64) : ∀ (m i fu : Nat), i + m = 64 → m < fu → mpadded_l1 n x fu (upN (· ^^^ x) l i) (i : Int) = some (l.map (· ^^^ x)) := by
  intro m
  induction m with
  | zero =>
    intro i fu hi hf
    cases fu with
    | zero => omega
    | succ fu => rw [mpadded_l1, ite_f (by simp <;> omega), upN_all _ _ _ (by omega)]
  | succ m ih =>
    intro i fu hi hf
    cases fu with
    | zero => omega
    | succ fu =>
      rw [mpadded_l1, ite_t (by simp <;> omega), gd_pos (by omega), gd_pos (by omega), gd_pos (by omega), gd_pos (by omega), gd_pos (okI64 (by omega) (by omega)), Int.toNat_natCast, upN_set 0 (· ^^^ x) l i (by omega)]
      exact ih (i + 1) fu (by omega) (by omega)
theorem mpadded_j1_is {n : Nat} (hn : 100 ≤ n) (x : UInt8) {k : List UInt8} (hk : k.length ≤ 64) : mpadded_j1 n x k = some ((padk k).map (· ^^^ x)) := by
  unfold mpadded_j1
  rw [gd_pos (by decide), gd_pos rfl, gd_pos (by unfold rmB; decide)]
  have e : ((List.replicate 64 0).take 0 ++ k.take (min k.length 64)) ++ (List.replicate 64 0).drop (0 + min k.length 64) = padk k := by
    rw [Nat.min_eq_left hk, List.take_zero, List.nil_append, List.take_of_length_le (Nat.le_refl _), List.drop_replicate, Nat.zero_add]; rfl
  rw [e]
  exact mpadded_l1_is n x (padk k) (padk_len hk) 64 0 n (by omega) (by omega)
theorem mpadded_is {n : Nat} (hn : 100 ≤ n) (x : UInt8) {k : List UInt8} (hk : k.length ≤ 100000) : mpadded n k x = some ((padk (hkey k)).map (· ^^^ x)) := by
  unfold mpadded
  by_cases h : 64 < k.length
  · rw [ite_t (by simp <;> omega), gd_pos hk, mpadded_j1_is hn x (by rw [length_digest]; omega)]
    unfold hkey; rw [if_pos h]
  · rw [ite_f (by simp <;> omega), mpadded_j1_is hn x (by omega)]
    unfold hkey; rw [if_neg h]
theorem fl2 (x y : List UInt8) : ([x, y] : List (List UInt8)).flatten = x ++ y := by simp
theorem mMark_is {n : Nat} (hn : 100 ≤ n) {k b : List UInt8} (hk : k.length ≤ 90000) (hb : b.length ≤ 90000) : mMark n k b = some (hmac k b) := by
  have hl := padk_len (hkey_len k)
  unfold mMark
  rw [mpadded_is hn 54 (by omega), Option.bind_some, fl2, gd_pos (by simp), gd_pos (by simp [hl]; omega), gd_pos (by simp [hl]; omega), mpadded_is hn 92 (by omega), Option.bind_some, fl2, gd_pos (by simp), gd_pos (by simp [hl, length_digest]), gd_pos (by simp [hl, length_digest])]
  rfl
/-! ### the derived key -/
def xorN (a u : List UInt8) : Nat → List UInt8
  | 0 => a
  | k + 1 => (xorN a u k).set k ((xorN a u k).getD k 0 ^^^ u.getD k 0)
theorem xorN_len (a u : List UInt8) : ∀ k, (xorN a u k).length = a.length
  | 0 => rfl
  | k + 1 => by rw [xorN, List.length_set, xorN_len a u k]
theorem xorN_zero (a u : List UInt8) : xorN a u 0 = a := rfl
theorem xorN_succ (a u : List UInt8) (k : Nat) : (xorN a u k).set k ((xorN a u k).getD k 0 ^^^ u.getD k 0) = xorN a u (k + 1) := rfl
attribute [irreducible] xorN
def rnd (key : List UInt8) : Nat → List UInt8 × List UInt8 → List UInt8 × List UInt8
  | 0, p => p
  | k + 1, p => rnd key k (hmac key p.1, xorN p.2 (hmac key p.1) 32)
theorem rnd_len (key : List UInt8) : ∀ (k : Nat) (p : List UInt8 × List UInt8), (rnd key k p).2.length = p.2.length
  | 0, p => rfl
  | k + 1, p => (rnd_len key k (hmac key p.1, xorN p.2 (hmac key p.1) 32)).trans (xorN_len p.2 (hmac key p.1) 32)
def blk (key salt : List UInt8) (r i : Nat) : List UInt8 :=
  (rnd key (r - 1) (hmac key (salt ++ [0, 0, UInt8.ofInt ((i : Int) / 2 ^ 8), UInt8.ofInt (i : Int)]), hmac key (salt ++ [0, 0, UInt8.ofInt ((i : Int) / 2 ^ 8), UInt8.ofInt (i : Int)]))).2
theorem blk_len (key salt : List UInt8) (r i : Nat) : (blk key salt r i).length = 32 := by
  unfold blk; exact (rnd_len _ _ _).trans (hmac_len _ _)
def outS (key salt : List UInt8) (r : Nat) : Nat → List UInt8
  | 0 => []
  | m + 1 => outS key salt r m ++ blk key salt r (m + 1)
theorem outS_len (key salt : List UInt8) (r : Nat) : ∀ m, (outS key salt r m).length = 32 * m
  | 0 => rfl
  | m + 1 => by rw [outS, List.length_append, outS_len key salt r m, blk_len]; omega
theorem outS_take (key salt : List UInt8) (r : Nat) {k m : Nat} (h : k ≤ m) : ∀ j, j ≤ 32 * k → (outS key salt r m).take j = (outS key salt r k).take j := by
  intro j hj
  induction m with
  | zero => obtain rfl : k = 0 := by omega
            rfl
  | succ m ih =>
    by_cases e : k = m + 1
    · rw [e]
    · have hl := outS_len key salt r m
      rw [outS, List.take_append_of_le_length (by omega)]
      exact ih (by omega)
theorem mDerive_l3_is (n : Nat) (a0 a1 : List UInt8) (a2 a3 : Int) (l11 : List UInt8) (i12 : Int) (r48 : List UInt8) (h48 : r48.length = 32) (j : Nat) (hj : j ≤ 100000) (u : List UInt8) (hu : u.length = 32) (al : List UInt8) (k : List UInt8 → List UInt8 → Int → Option (List UInt8 × Nat × Option Int)) :
    ∀ (m i fu : Nat), i + m = 32 → m < fu → mDerive_l3 n a0 a1 a2 a3 l11 i12 r48 (j : Int) u k fu (xorN al u i) (i : Int) = k u (xorN al u 32) ((j : Int) + 1) := by
  intro m
  induction m with
  | zero =>
    intro i fu hi hf
    obtain rfl : i = 32 := by omega
    cases fu with
    | zero => omega
    | succ fu => rw [mDerive_l3, ite_f (by simp <;> omega), gd_pos (okI64 (by omega) (by omega))]
  | succ m ih =>
    intro i fu hi hf
    cases fu with
    | zero => omega
    | succ fu =>
      rw [mDerive_l3, ite_t (by simp <;> omega), gd_pos (by omega), gd_pos (by omega), gd_pos (by omega), gd_pos (by omega), gd_pos (by omega), gd_pos (by omega), gd_pos (okI64 (by omega) (by omega)), Int.toNat_natCast, xorN_succ]
      exact ih (i + 1) fu (by omega) (by omega)
theorem mDerive_l2_is {n : Nat} (hn : 200 ≤ n) (a0 a1 : List UInt8) (h0 : a0.length ≤ 4000) (r : Nat) (hr : r ≤ 10000) (hr1 : 1 ≤ r) (a3 : Int) (l11 : List UInt8) (h11 : l11.length ≤ 1000000) (i12 : Nat) (h12 : i12 ≤ 1000000) (r48 : List UInt8) (h48 : r48.length = 32) (k : List UInt8 → Int → Option (List UInt8 × Nat × Option Int)) :
    ∀ (m j fu : Nat) (p : List UInt8 × List UInt8), j + m = r - 1 → m < fu → p.1.length = 32 → mDerive_l2 n a0 a1 (r : Int) a3 l11 (i12 : Int) r48 k fu p.1 p.2 (j : Int) = k (l11 ++ (rnd a0 m p).2) ((i12 : Int) + 1) := by
  intro m
  induction m with
  | zero =>
    intro j fu p hj hf hp
    cases fu with
    | zero => omega
    | succ fu => rw [mDerive_l2, ite_f (by simp <;> omega), gd_pos (by unfold rmB; omega), gd_pos (okI64 (by omega) (by omega))]; rfl
  | succ m ih =>
    intro j fu p hj hf hp
    cases fu with
    | zero => omega
    | succ fu =>
      rw [mDerive_l2, ite_t (by simp <;> omega), mMark_is (by omega) (by omega) (by omega), Option.bind_some]
      have h3 := mDerive_l3_is n a0 a1 (r : Int) a3 l11 i12 r48 h48 j (by omega) (hmac a0 p.1) (hmac_len _ _) p.2 (mDerive_l2 n a0 a1 (r : Int) a3 l11 i12 r48 k fu) 32 0 n (by omega) (by omega)
      rw [show ((0 : Nat) : Int) = 0 from rfl] at h3
      rw [xorN_zero] at h3
      rw [h3, rnd]
      have hl := hmac_len a0 p.1
      generalize xorN p.2 (hmac a0 p.1) 32 = z
      generalize hmac a0 p.1 = u at hl ⊢
      exact ih (j + 1) fu (u, z) (by omega) (by omega) hl
theorem mDerive_l1_is {n : Nat} (hn : 100000 ≤ n) (a0 a1 : List UInt8) (h0 : a0.length ≤ 4000) (h1 : a1.length ≤ 4000) (r : Nat) (hr : r ≤ 10000) (hr1 : 1 ≤ r) (len : Nat) (hl : len ≤ 1000) (M : Nat) (hM : len ≤ 32 * M) (hM2 : M = 0 ∨ 32 * (M - 1) < len) :
    ∀ (m i fu : Nat), i + m = M → m < fu → mDerive_l1 n a0 a1 (r : Int) (len : Int) fu (outS a0 a1 r i) ((i : Int) + 1) = some (outS a0 a1 r M, len, none) := by
  intro m
  induction m with
  | zero =>
    intro i fu hi hf
    obtain rfl : i = M := by omega
    have ho := outS_len a0 a1 r i
    cases fu with
    | zero => omega
    | succ fu => rw [mDerive_l1, ite_f (by simp <;> omega), gd_pos (by omega), gd_pos (by omega), gd_pos (by omega), Int.toNat_natCast]
  | succ m ih =>
    intro i fu hi hf
    have ho := outS_len a0 a1 r i
    cases fu with
    | zero => omega
    | succ fu =>
      have hb : (((i : Int) + 1) = ((i + 1 : Nat) : Int)) := by omega
      rw [mDerive_l1, ite_t (by simp <;> omega), fl2, gd_pos (by decide), gd_pos (by decide), gd_pos (by simp), gd_pos (by simp; omega), hb, mMark_is (by omega) (by omega) (by simp; omega), Option.bind_some, gd_pos (by rw [hmac_len]; omega), gd_pos (okI64 (by omega) (by omega))]
      have h2 := mDerive_l2_is (n := n) (by omega) a0 a1 h0 r hr hr1 (len : Int) (outS a0 a1 r i) (by omega) (i + 1) (by omega) (hmac a0 (a1 ++ [0, 0, UInt8.ofInt (((i + 1 : Nat) : Int) / 2 ^ 8), UInt8.ofInt ((i + 1 : Nat) : Int)])) (hmac_len _ _) (mDerive_l1 n a0 a1 (r : Int) (len : Int) fu) (r - 1) 0 n (hmac a0 (a1 ++ [0, 0, UInt8.ofInt (((i + 1 : Nat) : Int) / 2 ^ 8), UInt8.ofInt ((i + 1 : Nat) : Int)]), hmac a0 (a1 ++ [0, 0, UInt8.ofInt (((i + 1 : Nat) : Int) / 2 ^ 8), UInt8.ofInt ((i + 1 : Nat) : Int)])) (by omega) (by omega) (hmac_len _ _)
      rw [show ((0 : Nat) : Int) = 0 from rfl] at h2
      rw [h2]
      exact ih (i + 1) fu (by omega) (by omega)
theorem mmay_is (n : Nat) (r : Int) : mmay n r = some (if r < 1 then some 1 else if 10000 < r then some 4 else none) := by
  unfold mmay
  by_cases h : r < 1
  · rw [ite_t (by simpa using h), if_pos h]
  · rw [ite_f (by simpa using h), if_neg h]
    by_cases h2 : 10000 < r
    · rw [ite_t (by simpa using h2), if_pos h2]
    · rw [ite_f (by simpa using h2), if_neg h2]
theorem mDerive_is {n : Nat} (hn : 100000 ≤ n) {a0 a1 : List UInt8} (h0 : a0.length ≤ 4000) (h1 : a1.length ≤ 4000) {r len : Nat} (hr1 : 1 ≤ r) (hr : r ≤ 10000) (hl : len ≤ 256) :
    mDerive n a0 a1 (r : Int) (len : Int) = some (outS a0 a1 r ((len + 31) / 32), len, none) := by
  unfold mDerive
  rw [ite_f (by simp <;> omega), ite_f (by simp <;> omega), mmay_is, Option.bind_some, if_neg (by omega), if_neg (by omega), ite_f (by rfl), ite_f (by simp <;> omega)]
  exact mDerive_l1_is hn a0 a1 h0 h1 r hr hr1 len (by omega) _ (by omega) (by omega) ((len + 31) / 32) 0 n (by omega) (by omega)
/-! ### the based key -/
def baseN (l : List UInt8) : Nat → List UInt8
  | 0 => l
  | k + 1 => Dg (baseN l k)
theorem baseN_succ (l : List UInt8) : ∀ k, baseN l (k + 1) = baseN (Dg l) k
  | 0 => rfl
  | k + 1 => by rw [baseN, baseN_succ l k, baseN]
theorem baseN_len {l : List UInt8} (h : l.length = 32) : ∀ k, (baseN l k).length = 32
  | 0 => h
  | k + 1 => Dg_len _
theorem mBased_l1_is (n : Nat) (r : Nat) (hr : r ≤ 100000) (hr1 : 1 ≤ r) : ∀ (m i fu : Nat) (l : List UInt8), i + m = r - 1 → m < fu → l.length = 32 → mBased_l1 n (r : Int) fu l (i : Int) = some (baseN l m, none) := by
  intro m
  induction m with
  | zero =>
    intro i fu l hi hf hl
    cases fu with
    | zero => omega
    | succ fu => rw [mBased_l1, ite_f (by simp <;> omega)]; rfl
  | succ m ih =>
    intro i fu l hi hf hl
    cases fu with
    | zero => omega
    | succ fu =>
      rw [mBased_l1, ite_t (by simp <;> omega), gd_pos (by omega), gd_pos (okI64 (by omega) (by omega)), baseN_succ]
      exact ih (i + 1) fu (Dg l) (by omega) (by omega) (Dg_len _)
theorem mBased_is {n : Nat} (hn : 100000 ≤ n) {a0 a1 : List UInt8} (h0 : a0.length ≤ 4000) (h1 : a1.length ≤ 4000) {r : Nat} (hr1 : 1 ≤ r) (hr : r ≤ 10000) :
    mBased n a0 a1 (r : Int) = some (baseN (Dg (a0 ++ a1)) (r - 1), none) := by
  unfold mBased
  rw [mmay_is, Option.bind_some, if_neg (by omega), if_neg (by omega), ite_f (by rfl), fl2, gd_pos (by simp), gd_pos (by simp; omega), gd_pos (by simp; omega), gd_pos (okI64 (by omega) (by omega))]
  exact mBased_l1_is n r (by omega) hr1 (r - 1) 0 n _ (by omega) (by omega) (Dg_len _)
theorem mcut_is (n : Nat) (a : List UInt8) (k : Nat) : ∃ m, mcut n a (k : Int) = some (a, m) ∧ ((a.drop 0).take m).length ≤ k ∧ ((a.drop 0).take m).length = m := by
  unfold mcut
  by_cases h : (k : Int) < (a.length : Int)
  · rw [ite_t (by simpa using h), gd_pos (by omega), gd_pos (by omega)]
    exact ⟨k, by rw [Int.toNat_natCast], by simp; omega, by simp; omega⟩
  · rw [ite_f (by simpa using h)]
    exact ⟨a.length, rfl, by simp; omega, by simp⟩
end Go.Sx
end
