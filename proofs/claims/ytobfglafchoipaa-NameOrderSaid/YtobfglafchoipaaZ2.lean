import Derived.Test.YtobfglafchoipaaZ1
import Derived.Test.YtobfglafchoipaaProg
import Derived.Lib.MakeNoZero
import Derived.Laws.Externs
set_option linter.unusedVariables false
set_option linter.unusedSimpArgs false
section
namespace Go.Sx
open Go.RowKit Go.Ch
section
variable {P : Program} {T : Tab} {ft : Nat → FT} {ρ : Pls} {w w' : World} {bs : Bs} {w0 : World} {s s' : S} {a a' : Act} {N : Nat} {ops : Array Oper} {asm : List (Nat × Bool)}
def vA (asm : List (Nat × Bool)) (i : Nat) (r : List Prop × AV) : Option (List Prop × AV) := match asm.lookup i with
 | none => some r
 | some bv => match r with
  | (g, .c (.s (.b e))) => some (g ++ [e = bv], .c (.s (.b bv)))
  | _ => none
def puV (T : Tab) (asm : List (Nat × Bool)) (i : Nat) (o : Oper) (s : S) : Option (List Prop × AV) := match vop T s.H (ev0 s.fr s.gl) o.op with
 | some r => vA asm i r
 | none => none
def puG (T : Tab) (ops : Array Oper) (asm : List (Nat × Bool)) (i : Nat) (o : Oper) (s : S) : Option (List Prop × AV) := match o.guard with
 | none => puV T asm i o s
 | some (j, want) => match (ops[j]?).bind (·.dst) with
  | none => none
  | some dj => match s.fr.lookup dj with
   | some (.c (.s (.b b))) => (match b, want with
    | true, true => puV T asm i o s
    | false, false => puV T asm i o s
    | true, false => some ([], .t [])
    | false, true => some ([], .t []))
   | some (.t []) => some ([], .t [])
   | _ => none
def runP (T : Tab) (N : Nat) (ops : Array Oper) (asm : List (Nat × Bool)) : List Nat → S → Option (List Prop × S)
 | [], s => some ([], s)
 | i :: is, s => match ops[i]? with
  | none => none
  | some o => match dOk N o.dst, puG T ops asm i o s with
   | true, some (g, z) => (match runP T N ops asm is ⟨putF s.fr o.dst z, s.gl, s.H⟩ with
    | some (g2, s2) => some (g ++ g2, s2)
    | none => none)
   | _, _ => none
structure Ed where
 n : Nat
 m : Nat
 t : Nat
 ps : List Nat
 cs : List Co
 live : List Nat
 objs : List Nat
def stE (T : Tab) (ft : Nat → FT) (N : Nat) (ops : Array Oper) (asm : List (Nat × Bool)) (e : Ed) (s : S) : Option (List Prop × S) := match ops[e.m]? with
 | none => none
 | some o => match stG T ft N ops asm e.m o s with
  | none => none
  | some (g1, s1) => match runP T N ops asm e.ps s1 with
   | none => none
   | some (g2, s2) => match after e.cs e.live e.objs s2 with
    | none => none
    | some s3 => some (g1 ++ g2, s3)
def rdL (T : Tab) (ops : Array Oper) (asm : List (Nat × Bool)) (p : Nat) (s : S) : Option (Option (List Prop × AV)) := match ops[p]? with
 | some o => some (puG T ops asm p o s)
 | none => none
def rdR (ops : Array Oper) (g : List Prop) (p : Nat) (s : S) : Option (Option (List Prop × AV)) := match (ops[p]?).bind (·.dst) with
 | some d => (match s.fr.lookup d with | some z => some (some (g, z)) | none => none)
 | none => none
inductive AllE (T : Tab) (ft : Nat → FT) (N : Nat) (ops : Array Oper) (asm : List (Nat × Bool)) (sts : List S) (s : S) : List Ed → Prop
 | nil : AllE T ft N ops asm sts s []
 | cons {e : Ed} {l : List Ed} : (∃ g, stE T ft N ops asm e (sts.getD e.n s) = some (g, sts.getD e.t s) ∧ allP g) → AllE T ft N ops asm sts s l → AllE T ft N ops asm sts s (e :: l)
inductive AllR (T : Tab) (ops : Array Oper) (asm : List (Nat × Bool)) (sts : List S) (s : S) : List (Nat × Nat) → Prop
 | nil : AllR T ops asm sts s []
 | cons {k p : Nat} {l : List (Nat × Nat)} : (∃ g, rdL T ops asm p (sts.getD k s) = rdR ops g p (sts.getD k s) ∧ allP g) → AllR T ops asm sts s l → AllR T ops asm sts s ((k, p) :: l)
def okOps (ops : Array Oper) (N : Nat) (pu : List Nat) : Bool :=
 (List.range ops.size).all fun i => match ops[i]? with
  | none => false
  | some o => okEdges o (fun j => decide (j < i)) && ((match o.op with | .select _ _ => false | _ => true) &&
    (((o.looksAt ops).all fun t => pu.all fun p => match ops[p]? with | some q => q.dst != some t || inC ops i ops.size p | none => true) &&
    (!pu.contains i || (match o.dst with | some d => decide (d < N) | none => false))))
def okNode (ops : Array Oper) (pu : List Nat) (es : List Ed) (rd : List (Nat × Nat)) (k : Nat) (dn : List Nat) : Bool :=
 (List.range ops.size).all fun i => match dn.contains i with
  | true => !pu.contains i || (rd.contains (k, i) || dn.any fun m => !pu.contains m && (decide (m < ops.size) && inC ops m ops.size i))
  | false => (!pu.contains i && es.any fun e => Nat.beq e.n k && Nat.beq e.m i) || (List.range ops.size).any fun j => hasE ops i j && !dn.contains j
def okEdge (pu : List Nat) (nodes : List (List Nat)) (e : Ed) : Bool := match nodes[e.n]?, nodes[e.t]? with
 | some dn, some dt => !pu.contains e.m && (!dn.contains e.m && (e.ps.all (fun p => pu.contains p && !dn.contains p) && (dt.all (fun i => Nat.beq i e.m || (e.ps.contains i || dn.contains i)) && (dn.all (fun i => dt.contains i) && dt.contains e.m))))
 | _, _ => false
def okPlan (ops : Array Oper) (N : Nat) (pu : List Nat) (nodes : List (List Nat)) (ps0 : List Nat) (es : List Ed) (rd : List (Nat × Nat)) (fin : Nat) : Bool :=
 okOps ops N pu && (((List.range nodes.length).all fun k => okNode ops pu es rd k (nodes.getD k [])) && (es.all (okEdge pu nodes) &&
  ((ps0.all fun p => pu.contains p) && (((nodes.getD 0 []).all fun p => pu.contains p) && (decide (0 < nodes.length) &&
   ((List.range nodes.length).all fun k => Nat.beq k fin || (List.range ops.size).any fun i => !(nodes.getD k []).contains i))))))
structure Pln (ops : Array Oper) (N : Nat) (pu : List Nat) (nodes : List (List Nat)) (ps0 : List Nat) (es : List Ed) (rd : List (Nat × Nat)) (fin : Nat) : Prop where
 edges : ∀ (i : Nat) (o : Oper), ops[i]? = some o → okEdges o (fun j => decide (j < i)) = true
 nosel : ∀ (i : Nat) (o : Oper), ops[i]? = some o → ∀ cs b, o.op ≠ .select cs b
 look : ∀ (i : Nat) (o : Oper), ops[i]? = some o → ∀ t ∈ o.looksAt ops, ∀ p, p ∈ pu → ∀ (q : Oper), ops[p]? = some q → q.dst = some t → inC ops i ops.size p = true
 pdst : ∀ (p : Nat) (o : Oper), p ∈ pu → ops[p]? = some o → ∃ d, o.dst = some d ∧ d < N
 nin : ∀ k dn, nodes[k]? = some dn → ∀ i, i < ops.size → i ∈ dn → i ∈ pu → (k, i) ∈ rd ∨ ∃ m ∈ dn, m ∉ pu ∧ m < ops.size ∧ inC ops m ops.size i = true
 nout : ∀ k dn, nodes[k]? = some dn → ∀ i, i < ops.size → i ∉ dn → (i ∉ pu ∧ ∃ e ∈ es, e.n = k ∧ e.m = i) ∨ ∃ j, hasE ops i j = true ∧ j ∉ dn
 edge : ∀ e ∈ es, ∃ dn dt, nodes[e.n]? = some dn ∧ nodes[e.t]? = some dt ∧ e.m ∉ pu ∧ e.m ∉ dn ∧ (∀ p ∈ e.ps, p ∈ pu ∧ p ∉ dn) ∧ (∀ i ∈ dt, i = e.m ∨ i ∈ e.ps ∨ i ∈ dn) ∧ (∀ i ∈ dn, i ∈ dt) ∧ e.m ∈ dt
 start : ∀ p ∈ ps0, p ∈ pu
 zero : ∃ dn, nodes[0]? = some dn ∧ ∀ p ∈ dn, p ∈ pu
 last : ∀ k dn, nodes[k]? = some dn → (∀ i, i < ops.size → i ∈ dn) → k = fin
theorem Pln.of {pu : List Nat} {nodes : List (List Nat)} {ps0 : List Nat} {es : List Ed} {rd : List (Nat × Nat)} {fin : Nat} (h : okPlan ops N pu nodes ps0 es rd fin = true) : Pln ops N pu nodes ps0 es rd fin := by
 unfold okPlan at h
 simp only [Bool.and_eq_true] at h
 obtain ⟨h1, h2, h3, h4, h5, h6, h7⟩ := h
 have H : ∀ (i : Nat) (o : Oper), ops[i]? = some o → _ := fun i o ho => by
  have hi := (Array.getElem?_eq_some_iff.1 ho).1
  have := List.all_eq_true.1 h1 i (List.mem_range.2 hi)
  rw [ho] at this
  simp only [Bool.and_eq_true] at this
  exact this
 have nd : ∀ k dn, nodes[k]? = some dn → k < nodes.length ∧ nodes.getD k [] = dn := fun k dn hk => ⟨(List.getElem?_eq_some_iff.1 hk).1, by rw [List.getD_eq_getElem?_getD, hk]; rfl⟩
 refine ⟨fun i o ho => (H i o ho).1, fun i o ho cs b e => ?_, fun i o ho t ht p hp q hq hd => ?_, fun p o hp ho => ?_, fun k dn hk i hi hin hpu => ?_, fun k dn hk i hi hin => ?_, fun e he => ?_, fun p hp => ?_, ⟨nodes.getD 0 [], ?_, fun p hp => ?_⟩, fun k dn hk hall => ?_⟩
 ·have := (H i o ho).2.1
  rw [e] at this; cases this
 ·have := List.all_eq_true.1 (List.all_eq_true.1 (H i o ho).2.2.1 t ht) p hp
  rw [hq] at this
  simp only [hd, Bool.or_eq_true, bne_self_eq_false, Bool.false_eq_true, false_or] at this
  exact this
 ·have := (H p o ho).2.2.2
  rw [show pu.contains p = true by simpa using hp] at this
  simp only [Bool.not_true, Bool.false_or] at this
  cases hd : o.dst with
  | none => rw [hd] at this; cases this
  | some d => rw [hd] at this; exact ⟨d, rfl, by simpa using this⟩
 ·obtain ⟨hk1, hk2⟩ := nd k dn hk
  have := List.all_eq_true.1 (List.all_eq_true.1 h2 k (List.mem_range.2 hk1)) i (List.mem_range.2 hi)
  rw [hk2, show dn.contains i = true by simpa using hin, show pu.contains i = true by simpa using hpu] at this
  simp only [Bool.not_true, Bool.false_or, Bool.or_eq_true, List.any_eq_true, Bool.and_eq_true, decide_eq_true_eq, Bool.not_eq_true'] at this
  rcases this with h | ⟨m, hm, h1, h2, h3⟩
  ·exact .inl (by simpa using h)
  ·exact .inr ⟨m, hm, by simpa using h1, h2, h3⟩
 ·obtain ⟨hk1, hk2⟩ := nd k dn hk
  have := List.all_eq_true.1 (List.all_eq_true.1 h2 k (List.mem_range.2 hk1)) i (List.mem_range.2 hi)
  rw [hk2, show dn.contains i = false by simpa using hin] at this
  simp only [Bool.or_eq_true, List.any_eq_true, Bool.and_eq_true, Bool.not_eq_true'] at this
  rcases this with ⟨h, e, he, h1, h2⟩ | ⟨j, _, h1, h2⟩
  ·exact .inl ⟨by simpa using h, e, he, Nat.eq_of_beq_eq_true h1, Nat.eq_of_beq_eq_true h2⟩
  ·exact .inr ⟨j, h1, by simpa using h2⟩
 ·have := List.all_eq_true.1 h3 e he
  unfold okEdge at this
  split at this
  ·rename_i dn dt hn ht
   simp only [Bool.and_eq_true, List.all_eq_true, Bool.not_eq_true', Bool.or_eq_true] at this
   obtain ⟨g1, g2, g3, g4, g5, g6⟩ := this
   refine ⟨dn, dt, hn, ht, by simpa using g1, by simpa using g2, fun p hp => ?_, fun i hi => ?_, fun i hi => ?_, by simpa using g6⟩
   ·have := g3 p hp; exact ⟨by simpa using this.1, by simpa using this.2⟩
   ·rcases g4 i hi with h | h | h
    ·exact .inl (Nat.eq_of_beq_eq_true h)
    ·exact .inr (.inl (by simpa using h))
    ·exact .inr (.inr (by simpa using h))
   ·simpa using g5 i hi
  ·cases this
 ·simpa using List.all_eq_true.1 h4 p hp
 ·have h6' : 0 < nodes.length := by simpa using h6
  rw [List.getD_eq_getElem?_getD, List.getElem?_eq_getElem h6']; rfl
 ·simpa using List.all_eq_true.1 h5 p hp
 ·obtain ⟨hk1, hk2⟩ := nd k dn hk
  have := List.all_eq_true.1 h7 k (List.mem_range.2 hk1)
  simp only [Bool.or_eq_true, List.any_eq_true, List.mem_range, Bool.not_eq_true'] at this
  rcases this with h | ⟨i, hi, h⟩
  ·exact Nat.eq_of_beq_eq_true h
  ·rw [hk2] at h
   have := hall i hi
   simp only [List.contains_eq_mem, decide_eq_false_iff_not] at h
   exact absurd this h
theorem Act.same {a a' : Act} (h : a.tmps.size = a'.tmps.size) (hd : a.defers = a'.defers) (ht : ∀ t, a.tmps.getD t undef = a'.tmps.getD t undef) : a = a' := by
 obtain ⟨x, d⟩ := a; obtain ⟨y, d'⟩ := a'
 simp only at h hd ht
 subst hd
 have : x = y := by
  apply Array.ext h
  intro i h1 h2
  have := ht i
  simpa only [Array.getD_eq_getD_getElem?, Array.getElem?_eq_getElem h1, Array.getElem?_eq_getElem h2, Option.getD_some] using this
 rw [this]
end
end Go.Sx
end
section
namespace Go.Sx
open Go.RowKit Go.Ch
abbrev kI (n : Int) : AV := .c (.s (.k .i64 n))
abbrev kB (b : Bool) : AV := .c (.s (.b b))
abbrev kH (i : Nat) : AV := .c (.wh i)
abbrev kU (x : UInt8) : AV := .c (.s (.u8 x))
abbrev kP (i off : Nat) : AV := .c (.pt i off)
abbrev ob (e : TypeId) (l : List UInt8) : Oj := ⟨.ro false, e, 1, l.length, .b l⟩
abbrev ow (e : TypeId) (l : List UInt32) : Oj := ⟨.ro false, e, 1, l.length, .w l⟩
abbrev nb (e : TypeId) (l : List UInt8) : Oj := ⟨.row, e, 1, l.length, .b l⟩
abbrev nw (e : TypeId) (l : List UInt32) : Oj := ⟨.row, e, 1, l.length, .w l⟩
theorem aP {p : Prop} {ps : List Prop} (h : p) (hs : allP ps) : allP (p :: ps) := allP_cons.2 ⟨h, hs⟩
theorem aN : allP [] := allP_nil
section
variable {P : Program} {T : Tab} {ρ : Pls} {w w' : World} {bs : Bs} {w0 : World} {s : S} {a : Act} {N : Nat} {ft : Nat → FT} {Q : Exit → S → Prop}
theorem fT (k : Nat) {J : World → Prop} {f : FuncId} {F : Ct} {l : List (Nat × FuncId × Ct)} (h : FnOk P Tr f F) (hl : ∀ i, FtOk P J (ftL l i)) : ∀ i, FtOk P J (ftL ((k, f, F) :: l) i) := ftL_cons h (fun _ _ => True.intro) hl
theorem fN {J : World → Prop} : ∀ i, FtOk P J (ftL [] i) := ftL_nil
theorem Vr (hT : TabOk P T) {id : Nat} {l : List Oper} (objs : List Nat) (s' : S) (hQ : Q .normal s') (h : reg T (ftL []) N [] [] (s'.fr.map (·.1)) objs l s = some ([], s') := by kernel_rfl) :
  W P N bs w0 (.region id l.toArray false) s Q := W_reg hT ftL_nil [] [] _ objs h allP_nil hQ
theorem Vrs (hT : TabOk P T) {id : Nat} {l : List Oper} {y : Code} (objs : List Nat) (s' : S) (hQ : W P N bs w0 y s' Q) (h : reg T (ftL []) N [] [] (s'.fr.map (·.1)) objs l s = some ([], s') := by kernel_rfl) :
  W P N bs w0 (.seq (.region id l.toArray false) y) s Q := W_seq (Vr hT objs s' hQ h)
theorem Vg (hT : TabOk P T) (hF : ∀ i, FtOk P (Kp bs w0) (ft i)) {id : Nat} {l : List Oper} (asm : List (Nat × Bool)) (cs : List Co) (objs : List Nat) {g : List Prop} (s' : S) (hg : allP g) (hQ : Q .normal s') (h : reg T ft N asm cs (s'.fr.map (·.1)) objs l s = some (g, s') := by kernel_rfl) :
  W P N bs w0 (.region id l.toArray false) s Q := W_reg hT hF asm cs _ objs h hg hQ
theorem Vgs (hT : TabOk P T) (hF : ∀ i, FtOk P (Kp bs w0) (ft i)) {id : Nat} {l : List Oper} {y : Code} (asm : List (Nat × Bool)) (cs : List Co) (objs : List Nat) {g : List Prop} (s' : S) (hg : allP g) (hQ : W P N bs w0 y s' Q) (h : reg T ft N asm cs (s'.fr.map (·.1)) objs l s = some (g, s') := by kernel_rfl) :
  W P N bs w0 (.seq (.region id l.toArray false) y) s Q := W_seq (Vg hT hF asm cs objs s' hg hQ h)
theorem Vd (hT : TabOk P T) (hF : ∀ i, FtOk P (Kp bs w0) (ft i)) {id : Nat} {l : List Oper} (k : Nat) (asm ks : List (Nat × Bool)) (cs : List Co) (objs : List Nat) {g : List Prop} (s' : S) (hg : allP g) (hQ : Q .normal s')
  (hm : P.follows .mixedOrders = true := by kernel_rfl) (hr : (okRegion l.toArray k N && decide (k ≤ l.length)) = true := by kernel_rfl) (h : regD T ft N k asm ks cs (s'.fr.map (·.1)) objs l s = some (g, s') := by kernel_rfl) :
  W P N bs w0 (.region id l.toArray true) s Q := W_regD hT hF hm k asm ks cs _ objs hr h hg hQ
theorem Vds (hT : TabOk P T) (hF : ∀ i, FtOk P (Kp bs w0) (ft i)) {id : Nat} {l : List Oper} {y : Code} (k : Nat) (asm ks : List (Nat × Bool)) (cs : List Co) (objs : List Nat) {g : List Prop} (s' : S) (hg : allP g) (hQ : W P N bs w0 y s' Q)
  (hm : P.follows .mixedOrders = true := by kernel_rfl) (hr : (okRegion l.toArray k N && decide (k ≤ l.length)) = true := by kernel_rfl) (h : regD T ft N k asm ks cs (s'.fr.map (·.1)) objs l s = some (g, s') := by kernel_rfl) :
  W P N bs w0 (.seq (.region id l.toArray true) y) s Q := W_seq (Vd hT hF k asm ks cs objs s' hg hQ hm hr h)
theorem Vc {c : Code} (cs : List Co) (objs : List Nat) (s' : S) (hW : W P N bs w0 c s' Q) (h : after cs (s'.fr.map (·.1)) objs s = some s' := by kernel_rfl) : W P N bs w0 c s Q := W_co cs _ objs h hW
theorem Vi {t : Nat} {x y : Code} (b : Bool) (hx : b = true → W P N bs w0 x s Q) (hy : b = false → W P N bs w0 y s Q) (hb : s.fr.lookup t = some (.c (.s (.b b))) := by kernel_rfl) : W P N bs w0 (.cond (.tmp t) x y) s Q := W_cond hb hx hy
end
theorem gd2 {α : Type} {p q : Prop} [Decidable p] [Decidable q] {x : Option α} {r : α} (h : gd p (gd q x) = some r) : p ∧ q ∧ x = some r := ⟨(gd_some h).1, gd_some (gd_some h).2⟩
theorem gd3 {α : Type} {p q p3 : Prop} [Decidable p] [Decidable q] [Decidable p3] {x : Option α} {r : α} (h : gd p (gd q (gd p3 x)) = some r) : p ∧ q ∧ p3 ∧ x = some r := ⟨(gd_some h).1, gd2 (gd_some h).2⟩
theorem gd4 {α : Type} {p q p3 p4 : Prop} [Decidable p] [Decidable q] [Decidable p3] [Decidable p4] {x : Option α} {r : α} (h : gd p (gd q (gd p3 (gd p4 x))) = some r) : p ∧ q ∧ p3 ∧ p4 ∧ x = some r := ⟨(gd_some h).1, gd3 (gd_some h).2⟩
def ct0 (k : Hp → List Prop × AV × List Oj) : Ct := fun args H => match args with | [] => some (k H) | _ => none
def ctc {α : Type} (rd : Hp → AV → Option α) (k : AV → α → Ct) : Ct := fun args H => match args with | x :: xs => (match rd H x with | some a => k x a xs H | none => none) | [] => none
theorem ct0_inv {k : Hp → List Prop × AV × List Oj} {args : List AV} {H : Hp} {g : List Prop} {av : AV} {os : List Oj} (h : ct0 k args H = some (g, av, os)) : args = [] ∧ (k H).1 = g ∧ (k H).2.1 = av ∧ (k H).2.2 = os := by
 unfold ct0 at h
 split at h
 ·injection h with h; rw [h]; exact ⟨rfl, rfl, rfl, rfl⟩
 ·cases h
theorem ctc_inv {α : Type} {rd : Hp → AV → Option α} {k : AV → α → Ct} {args : List AV} {H : Hp} {y : List Prop × AV × List Oj} (h : ctc rd k args H = some y) : ∃ x xs a, args = x :: xs ∧ rd H x = some a ∧ k x a xs H = some y := by
 cases args with
 | nil => cases h
 | cons x xs =>
  simp only [ctc] at h
  split at h
  ·rename_i a ha; exact ⟨x, xs, a, rfl, ha, h⟩
  ·cases h
end Go.Sx
end
section
namespace Go.Sx
open Go.RowKit Go.Ch
abbrev Pat (ps : List Pl) (k : Nat) (ρ' : Pls) : Prop := ∀ j p, ps[j]? = some p → ρ' (k + j) = p
structure Rd (α : Type) where
 rd : Hp → AV → Option α
 op : Nat → α → AV
 os : Nat → α → List Oj
 pr : α → Prop
 ok : ∀ {ρ : Pls} {w : World} {H : Hp} {x : AV} {a : α} {v : Value}, HpR ρ w H → rd H x = some a → avR ρ x v → pr a ∧ ∃ ps : List Pl, (∀ k, (os k a).length = ps.length ∧ allRo (os k a) = true) ∧ ∀ (k : Nat) (ρ' : Pls), Pat ps k ρ' → F2 (fun o p => objR ρ' w p o) (os k a) ps ∧ avR ρ' (op k a) v
structure RdL (α : Type) where
 n : Nat
 rd : Hp → List Cl → Option α
 op : Nat → α → List Cl
 os : Nat → α → List Oj
 ok : ∀ {ρ : Pls} {w : World} {H : Hp} {x : List Cl} {a : α} {v : List Value}, HpR ρ w H → rd H x = some a → F2 (clR ρ) x v → ∃ ps : List Pl, (∀ k, (os k a).length = ps.length ∧ allRo (os k a) = true) ∧ ∀ (k : Nat) (ρ' : Pls), Pat ps k ρ' → F2 (fun o p => objR ρ' w p o) (os k a) ps ∧ F2 (clR ρ') (op k a) v
theorem Rd.p1 {w : World} {p : Pl} {o : Oj} {v : Value} (hr : allRo [o] = true) (hv : v = .slice p.A p.n p.cap) (h : ∀ ρ', objR ρ' w p o) : ∃ ps : List Pl, (∀ _ : Nat, [o].length = ps.length ∧ allRo [o] = true) ∧ ∀ (k : Nat) (ρ' : Pls), Pat ps k ρ' → F2 (fun o p => objR ρ' w p o) [o] ps ∧ avR ρ' (kH k) v :=
 ⟨[p], fun _ => ⟨rfl, hr⟩, fun k ρ' hk => ⟨F2.cons (h ρ') F2.nil, by have e := hk 0 p rfl; rw [Nat.add_zero] at e; show _ = _; rw [e]; exact hv⟩⟩
theorem allRo_append : ∀ {a b : Hp}, allRo a = true → allRo b = true → allRo (a ++ b) = true
 | [], _, _, hb => hb
 | x :: l, b, ha, hb => by
  simp only [allRo, Bool.and_eq_true, List.cons_append] at ha ⊢
  exact ⟨ha.1, allRo_append ha.2 hb⟩
abbrev rB (e : TypeId) : Rd (List UInt8) := ⟨aB, fun k _ => kH k, fun _ l => [ob e l], fun _ => True, fun hp h hv => by
 obtain ⟨p, s, o⟩ := aB_ok hp h hv e
 exact ⟨True.intro, Rd.p1 rfl s o⟩⟩
abbrev rW (e : TypeId) : Rd (List UInt32) := ⟨aW, fun k _ => kH k, fun _ l => [ow e l], fun _ => True, fun hp h hv => by
 obtain ⟨p, s, o⟩ := aW_ok hp h hv e
 exact ⟨True.intro, Rd.p1 rfl s o⟩⟩
abbrev rU8 : Rd UInt8 := ⟨fun _ => aU8, fun _ n => kU n, fun _ _ => [], fun _ => True, fun _ h hv => ⟨True.intro, [], fun _ => ⟨rfl, rfl⟩, fun _ _ _ => ⟨F2.nil, aU8_ok h hv⟩⟩⟩
def castD (x y : Dsh) (l : List y.T) : Option (List x.T) := if h : y = x then some (h ▸ l) else none
def aD0 (x : Dsh) (H : Hp) : AV → Option (List x.T)
 | .c .nils => some []
 | .c (.wh i) => (match H[i]? with | some o => (match o.kd, o.cs with | .dp, .d y l => castD x y l | _, _ => none) | none => none)
 | .c (.sl i lo n) => (match H[i]? with | some o => (match o.kd, o.cs with | .dp, .d y l => castD x y ((l.drop lo).take n) | _, _ => none) | none => none)
 | .c (.dv i p) => (match dvD H i p with | some ⟨.sl _ y, t⟩ => castD x y t | _ => none)
 | _ => none
theorem DR.map {w : World} {F : Nat → Prop} {gv gv' : Way → Value} : ∀ (x : Dsh) (t : x.T) (c c' : Nat → Way) (f : Nat), (∀ q g, f ≤ g → g < f + x.sz → gv' (q ++ c' g) = gv (q ++ c g)) → DR w F gv x t c f → DR w F gv' x t c' f
 | .u8, t, c, c', f, hg, h => (hg [] f (Nat.le_refl _) (Nat.lt_succ_self f)).trans h
 | .u32, t, c, c', f, hg, h => (hg [] f (Nat.le_refl _) (Nat.lt_succ_self f)).trans h
 | .i64, t, c, c', f, hg, h => (hg [] f (Nat.le_refl _) (Nat.lt_succ_self f)).trans h
 | .by _, t, c, c', f, hg, h => by
  obtain ⟨A, cap, h1, h2⟩ := h
  exact ⟨A, cap, (hg [] f (Nat.le_refl _) (Nat.lt_succ_self f)).trans h1, h2⟩
 | .wo _, t, c, c', f, hg, h => by
  obtain ⟨A, cap, h1, h2⟩ := h
  exact ⟨A, cap, (hg [] f (Nat.le_refl _) (Nat.lt_succ_self f)).trans h1, h2⟩
 | .sl _ x, t, c, c', f, hg, h => by
  obtain ⟨A, cap, h1, h2, h3, h4, h5, h6⟩ := h
  refine ⟨A, cap, (hg [] f (Nat.le_refl _) (Nat.lt_succ_self f)).trans h1, h2, h3, h4, h5, fun k y hy => ⟨fun ad ha g hgl => ?_, ?_⟩⟩
  ·rw [(h6 k y hy).1 ad ha g hgl]
   exact congrArg some (hg [(k, g)] f (Nat.le_refl _) (Nat.lt_succ_self f)).symm
  ·refine DR.map x y _ _ 0 (fun q g _ _ => ?_) (h6 k y hy).2
   have := hg (q ++ [(k, g)]) f (Nat.le_refl _) (Nat.lt_succ_self f)
   simpa using this
 | .pr a b, t, c, c', f, hg, h => ⟨DR.map a t.1 c c' f (fun q g h1 h2 => hg q g h1 (by show g < f + (a.sz + b.sz); omega)) h.1, DR.map b t.2 c c' _ (fun q g h1 h2 => hg q g (by omega) (by show g < f + (a.sz + b.sz); omega)) h.2⟩
theorem DR.shift {w : World} {F : Nat → Prop} {gv : Way → Value} : ∀ (x : Dsh) (t : x.T) (c : Nat → Way) (f s : Nat), DR w F gv x t c f → DR w F gv x t (fun g => c (g - s)) (f + s)
 | .u8, t, c, f, s, h => by show gv (c (f + s - s)) = _; rw [Nat.add_sub_cancel]; exact h
 | .u32, t, c, f, s, h => by show gv (c (f + s - s)) = _; rw [Nat.add_sub_cancel]; exact h
 | .i64, t, c, f, s, h => by show gv (c (f + s - s)) = _; rw [Nat.add_sub_cancel]; exact h
 | .by _, t, c, f, s, h => by
  have e : c (f + s - s) = c f := by rw [Nat.add_sub_cancel]
  obtain ⟨A, cap, h1, h2⟩ := h
  exact ⟨A, cap, (congrArg gv e).trans h1, h2⟩
 | .wo _, t, c, f, s, h => by
  have e : c (f + s - s) = c f := by rw [Nat.add_sub_cancel]
  obtain ⟨A, cap, h1, h2⟩ := h
  exact ⟨A, cap, (congrArg gv e).trans h1, h2⟩
 | .sl _ x, t, c, f, s, h => by
  have e : c (f + s - s) = c f := by rw [Nat.add_sub_cancel]
  obtain ⟨A, cap, h1, h2, h3, h4, h5, h6⟩ := h
  refine ⟨A, cap, (congrArg gv e).trans h1, h2, h3, h4, h5, fun k y hy => ⟨fun ad ha g hg => ((h6 k y hy).1 ad ha g hg).trans ?_, ?_⟩⟩
  ·show _ = some (gv ((k, g) :: c (f + s - s)))
   rw [e]
  ·show DR w F gv x y (fun g => (k, g) :: c (f + s - s)) 0
   rw [e]; exact (h6 k y hy).2
 | .pr a b, t, c, f, s, h => ⟨DR.shift a t.1 c f s h.1, by have := DR.shift b t.2 c (f + a.sz) s h.2; rwa [show f + a.sz + s = f + s + a.sz by omega] at this⟩
theorem DR.foot {w : World} {F F' : Nat → Prop} {gv : Way → Value} (hF : ∀ g, F g → F' g) : ∀ (x : Dsh) (t : x.T) (c : Nat → Way) (f : Nat), DR w F gv x t c f → DR w F' gv x t c f
 | .u8, _, _, _, h => h
 | .u32, _, _, _, h => h
 | .i64, _, _, _, h => h
 | .by _, t, c, f, h => by
  obtain ⟨A, cap, h1, h2, h3, h4, h5, h6⟩ := h
  exact ⟨A, cap, h1, h2, h3, h4, fun ad ha hl => hF _ (h5 ad ha hl), h6⟩
 | .wo _, t, c, f, h => by
  obtain ⟨A, cap, h1, h2, h3, h4, h5, h6⟩ := h
  exact ⟨A, cap, h1, h2, h3, h4, fun ad ha hl => hF _ (h5 ad ha hl), h6⟩
 | .sl _ x, t, c, f, h => by
  obtain ⟨A, cap, h1, h2, h3, h4, h5, h6⟩ := h
  exact ⟨A, cap, h1, h2, h3, h4, fun ad ha hl => hF _ (h5 ad ha hl), fun k y hy => ⟨(h6 k y hy).1, DR.foot hF x y _ 0 (h6 k y hy).2⟩⟩
 | .pr a b, t, c, f, h => ⟨DR.foot hF a t.1 c f h.1, DR.foot hF b t.2 c _ h.2⟩
theorem castD_ok {x y : Dsh} {l : List y.T} {l' : List x.T} (h : castD x y l = some l') : ∃ e : y = x, e ▸ l = l' := by
 unfold castD at h
 split at h
 ·rename_i e; injection h with h; exact ⟨e, h⟩
 ·cases h
theorem aD0_ok {ρ : Pls} {w : World} {x : Dsh} {H : Hp} (hp : HpR ρ w H) {y : AV} {l : List x.T} (h : aD0 x H y = some l) {v : Value} (hv : avR ρ y v) (e : TypeId) :
  ∃ p : Pl, v = .slice p.A p.n p.cap ∧ ∀ ρ', objR ρ' w p ⟨.dp, e, x.sz, l.length, .d x l⟩ := by
 have dp : ∀ {i : Nat} {o : Oj} {l : List x.T}, H[i]? = some o → o.kd = .dp → o.cs = .d x l → ((ρ i).sz = x.sz ∧ (ρ i).n = l.length) ∧ (ρ i).gv [] = .slice (ρ i).A (ρ i).n (ρ i).cap ∧ (∀ g, (ρ i).foot g → g < w.heap.size) ∧ DR w (ρ i).foot (ρ i).gv (.sl e x) l (fun _ => []) 0 := by
  intro i o l ho hk hc
  have hr := hp i o ho
  unfold objR at hr
  simp only [hk] at hr
  unfold DpR at hr
  split at hr
  ·rename_i x' l' hc'
   rw [hc] at hc'
   cases hc'
   exact ⟨⟨hr.1.1.trans hr.1.2.2.2, hr.1.2.1.trans hr.1.2.2.1⟩, hr.2⟩
  ·exact hr.elim
 unfold aD0 at h
 split at h
 ·injection h with h; subst h
  exact ⟨⟨none, 0, 0, x.sz, fun _ => False, fun _ => .slice none 0 0⟩, hv, fun ρ' => ⟨⟨rfl, rfl, rfl, rfl⟩, rfl, fun g hg => hg.elim, none, 0, rfl, Nat.le_refl _, by simp [maxLen], fun _ => rfl, fun ad ha _ => (nomatch ha), fun k y hy => (nomatch hy)⟩⟩
 ·rename_i i
  split at h
  ·rename_i o ho
   split at h
   ·rename_i y l0 hk hc
    obtain ⟨rfl, rfl⟩ := castD_ok h
    obtain ⟨⟨h1, h2⟩, h3⟩ := dp ho hk hc
    exact ⟨ρ i, hv, fun ρ' => ⟨⟨h1, h2, rfl, rfl⟩, h3⟩⟩
   ·cases h
  ·cases h
 ·rename_i i lo n
  split at h
  ·rename_i o ho
   split at h
   ·rename_i y l0 hk hc
    obtain ⟨rfl, rfl⟩ := castD_ok h
    obtain ⟨⟨h1, h2⟩, h3, h4, A0, cap0, h5, h6, h7, h8, h9, h10⟩ := dp ho hk hc
    obtain ⟨g0, A, c, rfl, g1, g2, g3, g4⟩ := hv
    have hlen : ((l0.drop lo).take n).length = n := by rw [List.length_take, List.length_drop]; omega
    rw [h3] at h5
    injection h5 with a1 a2 a3
    rw [h1] at g4
    let gv' : Way → Value := fun q => match q.getLast? with | none => .slice A n c | some (k, g) => (ρ i).gv (q.dropLast ++ [(k + lo, g)])
    have hgv : ∀ (q : Way) (k g : Nat), gv' (q ++ [(k, g)]) = (ρ i).gv (q ++ [(k + lo, g)]) := fun q k g => by
     show (match (q ++ [(k, g)]).getLast? with | none => _ | some (k, g) => _) = _
     rw [List.getLast?_append, List.dropLast_concat]; rfl
    refine ⟨⟨A, n, c, y.sz, (ρ i).foot, gv'⟩, rfl, fun ρ' => ⟨⟨rfl, hlen.symm, rfl, rfl⟩, rfl, h4, A, c, ?_, by rw [hlen]; exact g1, g2, g3, fun ad ha hl => ?_, fun k z hz => ⟨fun ad ha g hg => ?_, ?_⟩⟩⟩
    ·show Value.slice A n c = _
     rw [hlen]
    ·have hn : 0 < n := by rw [hlen] at hl; exact hl
     have e1 := g4 hn
     rw [ha] at e1
     cases hA : (ρ i).A with
     | none => rw [hA] at e1; cases e1
     | some ad0 =>
      rw [hA] at e1
      injection e1 with e1; subst e1
      rw [block_add]
      exact h9 ad0 (a1 ▸ hA) (by omega)
    ·have hk2 : k < n := by rw [← hlen]; exact (List.getElem?_eq_some_iff.1 hz).1
     have hz' : gq (α := y.T) l0 (k + lo) = some z := by
      have : ((l0.drop lo).take n)[k]? = some z := hz
      rw [List.getElem?_take, if_pos hk2, List.getElem?_drop, Nat.add_comm] at this
      exact this
     have e1 := g4 (by omega)
     rw [ha] at e1
     cases hA : (ρ i).A with
     | none => rw [hA] at e1; cases e1
     | some ad0 =>
      rw [hA] at e1
      injection e1 with e1; subst e1
      have := (h10 (k + lo) z hz').1 ad0 (a1 ▸ hA) g hg
      rw [add_add, ← Nat.add_assoc, ← Nat.add_mul, Nat.add_comm lo k, this]
      exact congrArg some (hgv [] k g).symm
    ·have hk2 : k < n := by rw [← hlen]; exact (List.getElem?_eq_some_iff.1 hz).1
     have hz' : gq (α := y.T) l0 (k + lo) = some z := by
      have : ((l0.drop lo).take n)[k]? = some z := hz
      rw [List.getElem?_take, if_pos hk2, List.getElem?_drop, Nat.add_comm] at this
      exact this
     exact DR.map y z _ _ 0 (fun q g _ _ => hgv q k g) (h10 (k + lo) z hz').2
   ·cases h
  ·cases h
 ·rename_i i p
  split at h
  ·rename_i e' y t hd
   obtain ⟨rfl, rfl⟩ := castD_ok h
   obtain ⟨c, f, hc, hr⟩ := dvD_ok hp hd hv.2.1
   have hr2 : DR w (ρ i).foot (ρ i).gv (.sl e y) t (fun _ => c f) 0 := hr
   rw [hc] at hr2
   obtain ⟨A, cap, h1, h2, h3, h4, h5, h6⟩ := hr
   refine ⟨⟨A, List.length (α := y.T) t, cap, y.sz, (ρ i).foot, fun q => (ρ i).gv (q ++ p)⟩, by rw [hv.1, ← hc]; exact h1, fun ρ' => ⟨⟨rfl, rfl, rfl, rfl⟩, by show (ρ i).gv ([] ++ p) = _; rw [List.nil_append, ← hc]; exact h1, ?_, DR.map (.sl e y) t (fun _ => p) (fun _ => []) 0 (fun q _ _ _ => by rw [List.append_nil]) hr2⟩⟩
   unfold dvD at hd
   split at hd
   ·cases hd
   ·rename_i o ho
    split at hd
    ·rename_i x' l' hk hcs
     have ho' := hp i o ho
     unfold objR at ho'
     simp only [hk] at ho'
     unfold DpR at ho'
     rw [hcs] at ho'
     exact ho'.2.2.1
    ·cases hd
  ·cases h
 ·cases h
def chunks {α : Type} (f : List Cl → Option α) (m : Nat) : Nat → List Cl → Option (List α)
 | 0, [] => some []
 | 0, _ :: _ => none
 | n + 1, l => match f (l.take m), chunks f m n (l.drop m) with | some a, some r => some (a :: r) | _, _ => none
def rowCl (H : Hp) (sz : Nat) : Cl → Option (Nat × List Cl)
 | .wh i => (match liveR H i with | some o => (match Nat.beq o.sz sz, o.cs with | true, .c l => some (o.n, l) | _, _ => none) | none => none)
 | _ => none
def dU8 (l : List Cl) : Option UInt8 := match l with | [.s (.u8 n)] => some n | _ => none
def dU32 (l : List Cl) : Option UInt32 := match l with | [.s (.u32 n)] => some n | _ => none
def dI64 (l : List Cl) : Option Int := match l with | [.s (.k .i64 n)] => some n | _ => none
def dBy (H : Hp) (l : List Cl) : Option (List UInt8) := match l with | [c] => viewB H c | _ => none
def dWo (H : Hp) (l : List Cl) : Option (List UInt32) := match l with | [c] => viewW H c | _ => none
def dSl (H : Hp) (x : Dsh) (f : List Cl → Option x.T) (l : List Cl) : Option (List x.T) := match l with | [c] => (match aD0 x H (.c c) with | some r => some r | none => (match rowCl H x.sz c with | some (n, cs) => chunks f x.sz n cs | none => none)) | _ => none
def dPr {α β : Type} (f : List Cl → Option α) (g : List Cl → Option β) (m : Nat) (l : List Cl) : Option (α × β) := match f (l.take m), g (l.drop m) with | some y, some z => some (y, z) | _, _ => none
def dcs (H : Hp) : (x : Dsh) → List Cl → Option x.T
 | .u8 => dU8
 | .u32 => dU32
 | .i64 => dI64
 | .by _ => dBy H
 | .wo _ => dWo H
 | .sl _ x => dSl H x (dcs H x)
 | .pr a b => dPr (dcs H a) (dcs H b) a.sz
def aD (x : Dsh) (H : Hp) : AV → Option (List x.T)
 | .c c => dcs H (.sl 0 x) [c]
 | _ => none
theorem chunks_ok {α : Type} {f : List Cl → Option α} {m : Nat} (R : List Cl → α → Prop) : ∀ {n : Nat} {l : List Cl} {r : List α}, chunks f m n l = some r → r.length = n ∧ ∀ k y, gq r k = some y → f ((l.drop (k * m)).take m) = some y
 | 0, [], r, h => by injection h with h; subst h; exact ⟨rfl, fun k y hy => nomatch hy⟩
 | 0, _ :: _, r, h => nomatch h
 | n + 1, l, r, h => by
  simp only [chunks] at h
  split at h
  ·rename_i a r' h1 h2
   injection h with h; subst h
   obtain ⟨h3, h4⟩ := chunks_ok R h2
   refine ⟨by simp [h3], fun k y hy => ?_⟩
   cases k with
   | zero => simp only [gq, List.getElem?_cons_zero, Option.some.injEq] at hy; subst hy; simpa using h1
   | succ k =>
    have := h4 k y (by simpa [gq] using hy)
    rw [List.drop_drop] at this
    rwa [Nat.succ_mul, Nat.add_comm]
  ·cases h
theorem DR.len1 {w : World} {F : Nat → Prop} {gv : Way → Value} {e : TypeId} {x : Dsh} {l : List x.T} (h : DR w F gv (.sl e x) l (fun _ => []) 0) : ∃ A c, gv [] = .slice A l.length c := by
 obtain ⟨A, c, h1, _⟩ := h; exact ⟨A, c, h1⟩
theorem DR.retype {w : World} {F : Nat → Prop} {gv : Way → Value} {e e' : TypeId} {x : Dsh} {l : List x.T} {c : Nat → Way} {f : Nat} (h : DR w F gv (.sl e x) l c f) : DR w F gv (.sl e' x) l c f := h
theorem DR.mk {w : World} {x : Dsh} {l : List x.T} {A : Option Addr} {cap : Nat} (e : TypeId) (h1 : l.length ≤ cap) (h2 : cap ≤ maxLen) (h3 : A = none → cap = 0)
  (vs : List Value) (hA : At w A vs) (hl : vs.length = l.length * x.sz)
  (he : ∀ k y, gq l k = some y → ∃ (F : Nat → Prop) (gv : Way → Value), (∀ g, g < x.sz → some (gv [(0, g)]) = vs[k * x.sz + g]?) ∧ (∀ g, F g → g < w.heap.size) ∧ DR w F gv x y (fun g => [(0, g)]) 0) :
  ∃ (F : Nat → Prop) (gv : Way → Value), gv [] = .slice A l.length cap ∧ (∀ g, F g → g < w.heap.size) ∧ DR w F gv (.sl e x) l (fun _ => []) 0 := by
 have he' : ∀ k, ∃ p : (Nat → Prop) × (Way → Value), ∀ y, gq l k = some y → (∀ g, g < x.sz → some (p.2 [(0, g)]) = vs[k * x.sz + g]?) ∧ (∀ g, p.1 g → g < w.heap.size) ∧ DR w p.1 p.2 x y (fun g => [(0, g)]) 0 := by
  intro k
  cases hk : gq l k with
  | none => exact ⟨⟨fun _ => False, fun _ => undef⟩, fun y hy => nomatch hy⟩
  | some y =>
   obtain ⟨F, gv, h⟩ := he k y hk
   exact ⟨⟨F, gv⟩, fun z hz => by injection hz with hz; subst hz; exact h⟩
 obtain ⟨pf, hpf⟩ := Classical.axiomOfChoice he'
 let gv : Way → Value := fun q => match q.getLast? with | none => .slice A l.length cap | some (k, g) => (pf k).2 (q.dropLast ++ [(0, g)])
 have hgv : ∀ (q : Way) (k g : Nat), gv (q ++ [(k, g)]) = (pf k).2 (q ++ [(0, g)]) := fun q k g => by
  show (match (q ++ [(k, g)]).getLast? with | none => _ | some (k, g) => _) = _
  rw [List.getLast?_append, List.dropLast_concat]; rfl
 have hsz := x.sz_pos
 have pos : ∀ {k : Nat} {y : x.T}, gq l k = some y → k < l.length := fun hy => (List.getElem?_eq_some_iff.1 hy).1
 refine ⟨fun g => (0 < l.length ∧ ∃ ad, A = some ad ∧ ad.block = g) ∨ ∃ k, k < l.length ∧ (pf k).1 g, gv, rfl, ?_, A, cap, rfl, h1, h2, h3, fun ad ha hl0 => .inl ⟨hl0, ad, ha, rfl⟩, fun k y hy => ⟨fun ad ha g hg => ?_, ?_⟩⟩
 ·rintro g (⟨h0, ad, ha, rfl⟩ | ⟨k, hk, hg⟩)
  ·have hv0 : 0 < vs.length := by rw [hl]; exact Nat.mul_pos h0 hsz
   have := World.block_lt_of_cell? _ _ (hA ad ha 0 vs[0] (List.getElem?_eq_getElem hv0))
   rwa [block_add] at this
  ·obtain ⟨y, hy⟩ : ∃ y, gq l k = some y := ⟨l[k], List.getElem?_eq_getElem hk⟩
   exact (hpf k y hy).2.1 g hg
 ·have h5 := (hpf k y hy).1 g hg
  rw [hA ad ha (k * x.sz + g) _ h5.symm]
  exact congrArg some (hgv [] k g).symm
 ·exact DR.map x y _ _ 0 (fun q g _ _ => hgv q k g) (DR.foot (fun g hg => .inr ⟨k, pos hy, hg⟩) x y _ 0 (hpf k y hy).2.2)
def RdE (w : World) (x : Dsh) (vs : List Value) (t : x.T) : Prop := ∃ (F : Nat → Prop) (gv : Way → Value), (∀ g, g < x.sz → some (gv [(0, g)]) = vs[g]?) ∧ (∀ g, F g → g < w.heap.size) ∧ DR w F gv x t (fun g => [(0, g)]) 0
def RdsOk (ρ : Pls) (w : World) (x : Dsh) (f : List Cl → Option x.T) : Prop := ∀ (cs : List Cl) (t : x.T), f cs = some t → ∀ (vs : List Value), F2 (clR ρ) cs vs → RdE w x vs t
theorem RdE.pr {w : World} {a b : Dsh} {vs : List Value} {y : a.T} {z : b.T} (ha : RdE w a (vs.take a.sz) y) (hb : RdE w b (vs.drop a.sz) z) : RdE w (.pr a b) vs (y, z) := by
 obtain ⟨Fa, ga, a1, a2, a3⟩ := ha
 obtain ⟨Fb, gb, b1, b2, b3⟩ := hb
 let gv : Way → Value := fun q => match q.getLast? with | none => undef | some (_, g) => if g < a.sz then ga q else gb (q.dropLast ++ [(0, g - a.sz)])
 have hgv : ∀ (q : Way) (g : Nat), gv (q ++ [(0, g)]) = if g < a.sz then ga (q ++ [(0, g)]) else gb (q ++ [(0, g - a.sz)]) := fun q g => by
  show (match (q ++ [(0, g)]).getLast? with | none => _ | some (_, g) => _) = _
  rw [List.getLast?_append, List.dropLast_concat]; rfl
 refine ⟨fun g => Fa g ∨ Fb g, gv, fun g hg => ?_, fun g hg => hg.elim (a2 g) (b2 g), DR.map a y _ _ 0 (fun q g _ hg => ?_) (DR.foot (fun _ => .inl) a y _ 0 a3), ?_⟩
 ·have := hgv [] g
  rw [List.nil_append] at this
  rw [this]
  have hg' : g < a.sz + b.sz := hg
  split
  ·rename_i hlt
   rw [a1 g hlt, List.getElem?_take, if_pos hlt]
  ·rename_i hlt
   rw [List.nil_append, b1 (g - a.sz) (by omega), List.getElem?_drop]
   congr 1; omega
 ·rw [hgv, if_pos (by omega)]
 ·have := DR.shift b z _ 0 a.sz (DR.foot (F' := fun g => Fa g ∨ Fb g) (fun _ => .inr) b z _ 0 b3)
  refine DR.map b z _ _ _ (fun q g h1 _ => ?_) this
  rw [hgv, if_neg (by omega)]
theorem RdE.sl0 {w : World} {x : Dsh} {l : List x.T} (e : TypeId) {v : Value} {F : Nat → Prop} {gv : Way → Value} (k1 : gv [] = v) (k2 : ∀ g, F g → g < w.heap.size) (k3 : DR w F gv (.sl e x) l (fun _ => []) 0) : RdE w (.sl e x) [v] l := by
 let gv' : Way → Value := fun q => gv q.dropLast
 have hg : ∀ (q : Way) (g : Nat), gv' (q ++ [(0, g)]) = gv q := fun q g => by show gv _ = _; rw [List.dropLast_concat]
 refine ⟨F, gv', fun g hgl => ?_, k2, DR.map (.sl e x) l (fun _ => []) _ 0 (fun q g _ _ => by rw [hg, List.append_nil]) k3⟩
 rw [show g = 0 from Nat.lt_one_iff.1 hgl]
 exact congrArg some ((hg [] 0).trans k1)
theorem RdE.root {w : World} {x : Dsh} {l : List x.T} {e : TypeId} {v : Value} (h : RdE w (.sl e x) [v] l) (e' : TypeId) : ∃ p : Pl, v = .slice p.A p.n p.cap ∧ ∀ ρ', objR ρ' w p ⟨.dp, e', x.sz, l.length, .d x l⟩ := by
 obtain ⟨F, gv, h1, h2, h3⟩ := h
 have h4 := DR.map (.sl e' x) l (fun g => [(0, g)]) (fun _ => []) 0 (gv' := fun q => gv (q ++ [(0, 0)])) (fun q g _ hg => by rw [show g = 0 from Nat.lt_one_iff.1 (by simpa [Dsh.sz] using hg), List.append_nil]) h3.retype
 obtain ⟨A, cap, k1, k2⟩ := h4
 have e1 := h1 0 Nat.one_pos
 have hv' : v = .slice A l.length cap := by
  simp only [List.getElem?_cons_zero, Option.some.injEq] at e1
  rw [← e1]; exact k1
 exact ⟨⟨A, l.length, cap, x.sz, F, fun q => gv (q ++ [(0, 0)])⟩, hv', fun ρ' => ⟨⟨rfl, rfl, rfl, rfl⟩, k1, h2, A, cap, k1, k2⟩⟩
theorem RdE.by {w : World} {B : Nat} {v : Value} {t : List UInt8} (e : TypeId) (h : Sl w B v (t.map bU)) : RdE w (.by e) [v] t := by
 obtain ⟨_, A, c, rfl, k1, k2, k3, k4⟩ := h
 have hB : ∀ g, g < B → g < w.heap.size ∨ True := fun _ _ => .inr True.intro
 rw [List.length_map] at k1 ⊢
 exact ⟨fun g => ∃ ad, A = some ad ∧ 0 < t.length ∧ ad.block = g, fun _ => .slice A t.length c, fun g hg => by rw [show g = 0 from Nat.lt_one_iff.1 hg]; rfl,
  fun g ⟨ad, ha, hl, hg⟩ => by rw [← hg]; have := World.block_lt_of_cell? _ _ (k4 ad ha 0 (bU t[0]) (by rw [List.getElem?_map, List.getElem?_eq_getElem hl]; rfl)).2; rwa [block_add] at this,
  A, c, rfl, k1, k2, k3, fun ad ha hl => ⟨ad, ha, hl, rfl⟩, fun ad ha j u hu => (k4 ad ha j u hu).2⟩
theorem RdE.wo {w : World} {B : Nat} {v : Value} {t : List UInt32} (e : TypeId) (h : Sl w B v (t.map w32)) : RdE w (.wo e) [v] t := by
 obtain ⟨_, A, c, rfl, k1, k2, k3, k4⟩ := h
 rw [List.length_map] at k1 ⊢
 exact ⟨fun g => ∃ ad, A = some ad ∧ 0 < t.length ∧ ad.block = g, fun _ => .slice A t.length c, fun g hg => by rw [show g = 0 from Nat.lt_one_iff.1 hg]; rfl,
  fun g ⟨ad, ha, hl, hg⟩ => by rw [← hg]; have := World.block_lt_of_cell? _ _ (k4 ad ha 0 (w32 t[0]) (by rw [List.getElem?_map, List.getElem?_eq_getElem hl]; rfl)).2; rwa [block_add] at this,
  A, c, rfl, k1, k2, k3, fun ad ha hl => ⟨ad, ha, hl, rfl⟩, fun ad ha j u hu => (k4 ad ha j u hu).2⟩
theorem RdE.s1 {w : World} {x : Dsh} {v : Value} {t : x.T} (h : ∀ gv : Way → Value, (∀ q, gv q = v) → DR w (fun _ => False) gv x t (fun g => [(0, g)]) 0) (hx : x.sz = 1) : RdE w x [v] t :=
 ⟨fun _ => False, fun _ => v, fun g hg => by rw [show g = 0 from Nat.lt_one_iff.1 (hx ▸ hg)]; rfl, fun g hg => hg.elim, h _ fun _ => rfl⟩
section
variable {ρ : Pls} {w : World} {H : Hp}
theorem one0 {v : Value} : ∀ g, g < 1 → some v = [v][g]? := fun g hg => by rw [show g = 0 from Nat.lt_one_iff.1 hg]; rfl
theorem dU8_ok : RdsOk ρ w .u8 dU8 := fun cs t h vs hv => by
 unfold dU8 at h
 split at h
 ·injection h with h; subst h
  obtain ⟨v, vs, rfl, h1, h2⟩ := hv.uncons
  obtain rfl := h2.unnil
  exact ⟨fun _ => False, fun _ => v, one0, fun g hg => hg.elim, h1⟩
 ·cases h
theorem dU32_ok : RdsOk ρ w .u32 dU32 := fun cs t h vs hv => by
 unfold dU32 at h
 split at h
 ·injection h with h; subst h
  obtain ⟨v, vs, rfl, h1, h2⟩ := hv.uncons
  obtain rfl := h2.unnil
  exact ⟨fun _ => False, fun _ => v, one0, fun g hg => hg.elim, h1⟩
 ·cases h
theorem dI64_ok : RdsOk ρ w .i64 dI64 := fun cs t h vs hv => by
 unfold dI64 at h
 split at h
 ·injection h with h; subst h
  obtain ⟨v, vs, rfl, h1, h2⟩ := hv.uncons
  obtain rfl := h2.unnil
  exact ⟨fun _ => False, fun _ => v, one0, fun g hg => hg.elim, h1⟩
 ·cases h
theorem dBy_ok (hp : HpR ρ w H) (e : TypeId) : RdsOk ρ w (.by e) (dBy H) := fun cs (t : List UInt8) h vs hv => by
 unfold dBy at h
 split at h
 ·obtain ⟨v, vs, rfl, h1, h2⟩ := hv.uncons
  obtain rfl := h2.unnil
  exact RdE.by e (viewB_ok hp h h1)
 ·cases h
theorem dWo_ok (hp : HpR ρ w H) (e : TypeId) : RdsOk ρ w (.wo e) (dWo H) := fun cs (t : List UInt32) h vs hv => by
 unfold dWo at h
 split at h
 ·rename_i c0
  obtain ⟨v, vs, rfl, h1, h2⟩ := hv.uncons
  obtain rfl := h2.unnil
  obtain ⟨p, hI⟩ := aW_ok hp (x := .c c0) h h1 e
  exact RdE.wo e (hI.sl (fun _ _ h => csR_w.1 h) (by simp))
 ·cases h
theorem dPr_ok {a b : Dsh} {f : List Cl → Option a.T} {f' : List Cl → Option b.T} (ha : RdsOk ρ w a f) (hb : RdsOk ρ w b f') : RdsOk ρ w (.pr a b) (dPr f f' a.sz) := fun cs (t : a.T × b.T) h vs hv => by
 unfold dPr at h
 split at h
 ·rename_i y z h1 h2
  injection h with h; subst h
  exact RdE.pr (ha _ y h1 _ (hv.take _)) (hb _ z h2 _ (hv.drop _))
 ·cases h
theorem rowCl_ok (hp : HpR ρ w H) {x : Dsh} {c : Cl} {n : Nat} {cl : List Cl} (h : rowCl H x.sz c = some (n, cl)) {v : Value} (hv : clR ρ c v) :
  ∃ A cap vs, v = .slice A n cap ∧ n ≤ cap ∧ cap ≤ maxLen ∧ (A = none → cap = 0) ∧ F2 (clR ρ) cl vs ∧ At w A vs ∧ vs.length = n * x.sz := by
 unfold rowCl at h
 split at h
 ·rename_i i
  split at h
  ·rename_i o hl
   split at h
   ·rename_i hsz hc
    injection h with h; simp only [Prod.mk.injEq] at h; obtain ⟨rfl, rfl⟩ := h
    obtain ⟨hlS, hi, hkd⟩ := liveR_ok hl
    have hkd' : (∃ b, o.kd = .ro b) ∨ o.kd = .row ∨ o.kd = .dp := hkd.elim .inl (fun h => .inr (.inl h))
    obtain ⟨⟨e1, e2, e3⟩, vs, hcs, hAt⟩ := (hp i o hi).read (nd hkd')
    obtain ⟨s1, s2, s3⟩ := (hp i o hi).slc hkd'
    have hosz : o.sz = x.sz := Nat.eq_of_beq_eq_true hsz
    refine ⟨_, _, vs, by rw [show v = _ from hv, e2], by rw [← e2]; exact s1, s2, s3, by rw [hc] at hcs; exact hcs, hAt, by rw [hcs.len, e3, hosz]⟩
   ·cases h
  ·cases h
 ·cases h
theorem dSl_ok (hp : HpR ρ w H) (e : TypeId) {x : Dsh} {f : List Cl → Option x.T} (hx : RdsOk ρ w x f) : RdsOk ρ w (.sl e x) (dSl H x f) := fun cs (t : List x.T) h vs hv => by
 unfold dSl at h
 split at h
 ·rename_i c0
  obtain ⟨v, vs, rfl, h1, h2⟩ := hv.uncons
  obtain rfl := h2.unnil
  have key : ∃ (F : Nat → Prop) (gv : Way → Value), gv [] = v ∧ (∀ g, F g → g < w.heap.size) ∧ DR w F gv (.sl e x) t (fun _ => []) 0 := by
   split at h
   ·rename_i r hr
    injection h with h; subst h
    obtain ⟨p, rfl, hpo⟩ := aD0_ok hp hr h1 e
    obtain ⟨k1, k2, k3, k4⟩ := hpo ρ
    exact ⟨p.foot, p.gv, k2, k3, k4⟩
   ·split at h
    ·rename_i n cl hrow
     obtain ⟨A, cap, vs, rfl, s1, s2, s3, hcs', hAt, hvl⟩ := rowCl_ok hp hrow h1
     obtain ⟨c1, c2⟩ := chunks_ok (fun _ _ => True) h
     subst c1
     exact DR.mk (w := w) (l := t) (A := A) (cap := cap) e s1 s2 s3 vs hAt hvl (fun k y hy => by
      obtain ⟨F, gv, d1, d2, d3⟩ := hx _ y (c2 k y hy) _ ((hcs'.drop (k * x.sz)).take x.sz)
      refine ⟨F, gv, fun g hg => ?_, d2, d3⟩
      rw [d1 g hg, List.getElem?_take, if_pos hg, List.getElem?_drop])
    ·cases h
  obtain ⟨F, gv, k1, k2, k3⟩ := key
  exact RdE.sl0 e k1 k2 k3
 ·cases h
theorem dcs_ok (hp : HpR ρ w H) : ∀ (x : Dsh), RdsOk ρ w x (dcs H x)
 | .u8 => dU8_ok
 | .u32 => dU32_ok
 | .i64 => dI64_ok
 | .by e => dBy_ok hp e
 | .wo e => dWo_ok hp e
 | .sl e x => dSl_ok hp e (dcs_ok hp x)
 | .pr a b => dPr_ok (dcs_ok hp a) (dcs_ok hp b)
end
theorem aD_ok {ρ : Pls} {w : World} {x : Dsh} {H : Hp} (hp : HpR ρ w H) {y : AV} {l : List x.T} (h : aD x H y = some l) {v : Value} (hv : avR ρ y v) (e : TypeId) :
  ∃ p : Pl, v = .slice p.A p.n p.cap ∧ ∀ ρ', objR ρ' w p ⟨.dp, e, x.sz, l.length, .d x l⟩ := by
 cases y with
 | c c =>
  have hc : dcs H (.sl 0 x) [c] = some l := h
  exact (dcs_ok hp (.sl 0 x) [c] l hc [v] (F2.cons hv F2.nil)).root e
 | _ => cases h
abbrev rD (e : TypeId) (x : Dsh) : Rd (List x.T) := ⟨aD x, fun k _ => kH k, fun _ l => [⟨.dp, e, x.sz, l.length, .d x l⟩], fun _ => True, fun hp h hv => by
 obtain ⟨p, s, o⟩ := aD_ok hp h hv e
 exact ⟨True.intro, Rd.p1 rfl s o⟩⟩
structure RdC (α : Type) where
 r : Rd α
 cl : Nat → α → Cl
 eq : ∀ k a, r.op k a = .c (cl k a)
abbrev cB (e : TypeId) : RdC (List UInt8) := ⟨rB e, fun k _ => .wh k, fun _ _ => rfl⟩
abbrev cW (e : TypeId) : RdC (List UInt32) := ⟨rW e, fun k _ => .wh k, fun _ _ => rfl⟩
abbrev cU8 : RdC UInt8 := ⟨rU8, fun _ n => .s (.u8 n), fun _ _ => rfl⟩
abbrev lN : RdL Unit := ⟨0, fun _ x => match x with | [] => some () | _ => none, fun _ _ => [], fun _ _ => [], fun {ρ w H x a v} _ h hv => by
 cases x with
 | nil => exact ⟨[], fun _ => ⟨rfl, rfl⟩, fun _ _ _ => ⟨F2.nil, hv.1, fun j x y hx => by simp at hx⟩⟩
 | cons y ys => cases h⟩
theorem Pat.left {ps qs : List Pl} {k : Nat} {ρ' : Pls} (h : Pat (ps ++ qs) k ρ') : Pat ps k ρ' := fun j p hj => h j p (by rw [List.getElem?_append_left (List.getElem?_eq_some_iff.1 hj).1]; exact hj)
theorem Pat.right {ps qs : List Pl} {k m : Nat} {ρ' : Pls} (h : Pat (ps ++ qs) k ρ') (hm : m = ps.length) : Pat qs (k + m) ρ' := fun j p hj => by
 rw [Nat.add_assoc]
 exact h _ p (by rw [List.getElem?_append_right (by omega), hm, Nat.add_sub_cancel_left]; exact hj)
abbrev lC {α β : Type} (c : RdC α) (l : RdL β) : RdL (α × β) := ⟨l.n + 1, fun H x => match x with | y :: ys => (match c.r.rd H (.c y) with | some a => (match l.rd H ys with | some b => some (a, b) | none => none) | none => none) | [] => none,
 fun k p => c.cl k p.1 :: l.op (k + (c.r.os 0 p.1).length) p.2, fun k p => c.r.os k p.1 ++ l.os (k + (c.r.os 0 p.1).length) p.2, fun {ρ w H x a v} hp h hv => by
  cases x with
  | nil => cases h
  | cons y ys =>
   dsimp only at h
   split at h
   ·rename_i a1 h1
    split at h
    ·rename_i b1 h2
     injection h with h; subst h
     cases v with
     | nil => have := hv.1; simp at this
     | cons u us =>
      have hu : clR ρ y u := hv.2 0 y u rfl rfl
      have hus : F2 (clR ρ) ys us := ⟨by have := hv.1; simpa using this, fun j x y hx hy => hv.2 (j + 1) x y (by simpa using hx) (by simpa using hy)⟩
      obtain ⟨_, ps, g1, k1⟩ := c.r.ok hp h1 (show avR ρ (.c y) u from hu)
      obtain ⟨qs, g2, k2⟩ := l.ok hp h2 hus
      refine ⟨ps ++ qs, fun k => ⟨by simp [(g1 k).1, (g2 _).1], allRo_append (g1 k).2 (g2 _).2⟩, fun k ρ' hk => ?_⟩
      obtain ⟨e1, e2⟩ := k1 k ρ' (Pat.left hk)
      obtain ⟨e3, e4⟩ := k2 _ ρ' (Pat.right hk (g1 0).1)
      rw [c.eq] at e2
      exact ⟨F2.append e1 e3, F2.cons e2 e4⟩
    ·cases h
   ·cases h⟩
theorem aGc_inv {ρ : Pls} {n : Nat} {x : AV} {y : List Cl} (hy : aGc n x = some y) {v : Value} (hv : avR ρ x v) : ∃ vs : List Value, F2 (clR ρ) y vs ∧ vs.length = n ∧ v = .agg vs.toArray := by
 obtain ⟨vs, h1, rfl, h3⟩ := aGc_ok hy hv
 refine ⟨vs, ⟨?_, fun j x u hx hu => ?_⟩, h1, rfl⟩
 ·unfold aGc at hy
  split at hy
  ·split at hy
   ·rename_i hm
    simp only [Bool.and_eq_true] at hm
    injection hy with hy; subst hy
    rw [h1, ← Nat.eq_of_beq_eq_true hm.2]
   ·cases hy
  ·cases hy
 ·have := h3 j (by rw [← h1]; exact (List.getElem?_eq_some_iff.1 hu).1)
  rw [List.getD_eq_getElem?_getD, hx, List.getD_eq_getElem?_getD, hu] at this
  exact this
abbrev rSt {α : Type} (l : RdL α) : Rd α := ⟨fun H x => match aGc l.n x with | some y => l.rd H y | none => none, fun k a => .g l.n (.c (l.op k a)), l.os, fun _ => True, fun {ρ w H x a v} hp h hv => by
 split at h
 ·rename_i y hy
  obtain ⟨vs, h1, h2, rfl⟩ := aGc_inv hy hv
  obtain ⟨ps, g1, k1⟩ := l.ok hp h h1
  exact ⟨True.intro, ps, g1, fun k ρ' hk => ⟨(k1 k ρ' hk).1, vs, (k1 k ρ' hk).2, h2, rfl⟩⟩
 ·cases h⟩
def ptC (H : Hp) (n i : Nat) : Option (List Cl) := match H[i]? with
 | some o => (match o.kd, o.sz, Nat.beq o.n n && Nat.ble n 1000000, o.cs with
  | .blk, 1, true, .c l => some l
  | .ro _, 1, true, .c l => some l
  | _, _, _, _ => none)
 | none => none
theorem ptC_ok {ρ : Pls} {w : World} {H : Hp} (hp : HpR ρ w H) {n i : Nat} {l : List Cl} (h : ptC H n i = some l) : n ≤ 1000000 ∧ (ρ i).n * (ρ i).sz = n ∧ ∃ vs, F2 (clR ρ) l vs ∧ At w (ρ i).A vs ∧ vs.length = n := by
 unfold ptC at h
 split at h
 ·rename_i o ho
  have fin : o.kd ≠ .dead → o.sz = 1 → (Nat.beq o.n n && Nat.ble n 1000000) = true → o.cs = .c l → n ≤ 1000000 ∧ (ρ i).n * (ρ i).sz = n ∧ ∃ vs, F2 (clR ρ) l vs ∧ At w (ρ i).A vs ∧ vs.length = n := fun h1 h2 h3 h4 => by
   simp only [Bool.and_eq_true] at h3
   obtain ⟨⟨e1, e2, e3⟩, vs, hc, hA⟩ := (hp i o ho).read h1
   have hn := Nat.eq_of_beq_eq_true h3.1
   refine ⟨Nat.le_of_ble_eq_true h3.2, by rw [e1, e2, h2, hn, Nat.mul_one], vs, by rw [h4] at hc; exact hc, hA, by rw [hc.len, e3, h2, hn, Nat.mul_one]⟩
  split at h
  ·rename_i h1 h2 h3 h4; injection h with h; subst h; exact fin (by rw [h1]; simp) h2 h3 h4
  ·rename_i h1 h2 h3 h4; injection h with h; subst h; exact fin (by rw [h1]; simp) h2 h3 h4
  ·cases h
 ·cases h
theorem pt_obj {ρ' : Pls} {w : World} {e : TypeId} {n : Nat} {l : List Cl} {vs : List Value} {A : Option Addr} (h1 : F2 (clR ρ') l vs) (h2 : At w A vs) (h3 : vs.length = n) (h4 : n ≤ 1000000) (h5 : A ≠ none) : objR ρ' w (pl4 A n n 1) ⟨.ro false, e, 1, n, .c l⟩ :=
 ⟨⟨rfl, rfl, by show l.length = n * 1; rw [h1.1]; omega⟩, ⟨Nat.le_refl _, by show n ≤ maxLen; unfold maxLen; omega, fun h => absurd h h5⟩, vs, h1, h2⟩
abbrev rPt {α : Type} (e : TypeId) (l : RdL α) : Rd α := ⟨fun H x => match x with | .c (.pt i 0) => (match ptC H l.n i with | some y => l.rd H y | none => none) | _ => none,
 fun k a => .c (.pt (k + (l.os 0 a).length) 0), fun k a => l.os k a ++ [⟨.ro false, e, 1, l.n, .c (l.op k a)⟩], fun _ => True, fun {ρ w H x a v} hp h hv => by
 split at h
 ·rename_i i
  split at h
  ·rename_i y hy
   obtain ⟨g0, g1, vs, g2, g3, g4⟩ := ptC_ok hp hy
   obtain ⟨h0, ad, hA, rfl⟩ := hv
   obtain ⟨ps, k1, k2⟩ := l.ok hp h g2
   rw [hA] at g3
   refine ⟨True.intro, ps ++ [pl4 (some ad) l.n l.n 1], fun k => ⟨by simp [(k1 k).1], allRo_append (k1 k).2 rfl⟩, fun k ρ' hk => ?_⟩
   obtain ⟨e1, e2⟩ := k2 k ρ' (Pat.left hk)
   have e3 := Pat.right hk (k1 0).1 0 _ rfl
   refine ⟨F2.append e1 (F2.cons (pt_obj e2 g3 g4 g0 (by simp)) F2.nil), ?_⟩
   rw [Nat.add_zero] at e3
   refine ⟨?_, ad, ?_, rfl⟩
   ·rw [e3]; show 0 < l.n * 1; omega
   ·rw [e3]
  ·cases h
 ·cases h⟩
abbrev rCl {α : Type} (f : FuncId) (e : TypeId) (l : RdL α) : Rd α := ⟨fun H x => match x with | .c (.fp f' i 0) => (match Nat.beq f' f, ptC H l.n i with | true, some y => l.rd H y | _, _ => none) | _ => none,
 fun k a => .c (.fp f (k + (l.os 0 a).length) 0), fun k a => l.os k a ++ [⟨.ro false, e, 1, l.n, .c (l.op k a)⟩], fun _ => True, fun {ρ w H x a v} hp h hv => by
 split at h
 ·rename_i f' i
  split at h
  ·rename_i y hf hy
   obtain rfl := Nat.eq_of_beq_eq_true hf
   obtain ⟨g0, g1, vs, g2, g3, g4⟩ := ptC_ok hp hy
   obtain ⟨h0, ad, hA, rfl⟩ := hv
   obtain ⟨ps, k1, k2⟩ := l.ok hp h g2
   rw [hA] at g3
   refine ⟨True.intro, ps ++ [pl4 (some ad) l.n l.n 1], fun k => ⟨by simp [(k1 k).1], allRo_append (k1 k).2 rfl⟩, fun k ρ' hk => ?_⟩
   obtain ⟨e1, e2⟩ := k2 k ρ' (Pat.left hk)
   have e3 := Pat.right hk (k1 0).1 0 _ rfl
   refine ⟨F2.append e1 (F2.cons (pt_obj e2 g3 g4 g0 (by simp)) F2.nil), ?_⟩
   rw [Nat.add_zero] at e3
   refine ⟨?_, ad, ?_, rfl⟩
   ·rw [e3]; show 0 < l.n * 1; omega
   ·rw [e3]
  ·cases h
 ·cases h⟩
def HO (P : Program) (I : World → Prop) (f : FuncId) (F : Ct) (az : List AV) (os : Hp) : Prop :=
 ∀ (args : List AV) (H : Hp) (g : List Prop) (av : AV) (objs : List Oj), F args H = some (g, av, objs) → allP g → ∀ (ρ : Pls) (w : World) (vals : List Value), I w → HpR ρ w H → F2 (avR ρ) args vals →
  ∀ (ps : List Pl) (v0 : List Value), os.length = ps.length → allRo os = true → (∀ ρ' : Pls, Pat ps 0 ρ' → F2 (fun o p => objR ρ' w p o) os ps ∧ F2 (avR ρ') az v0) →
   Calls P f (v0 ++ vals).toArray w (Ret fun v w' => Ext w w' ∧ ∃ ps, Left ρ w H av objs v w' ps)
section
variable {P : Program} {I : World → Prop} {f : FuncId} {az : List AV} {os : Hp} {T : Tab}
theorem HO_c {α : Type} (r : Rd α) {K : α → Ct} (h : ∀ a, r.pr a → HO P I f (K a) (az ++ [r.op os.length a]) (os ++ r.os os.length a)) : HO P I f (ctc r.rd fun _ => K) az os := by
 intro args H g av objs hF hg ρ w vals hI hp ha ps v0 l0 g0 k0
 obtain ⟨x, xs, a, rfl, hx, hF⟩ := ctc_inv hF
 obtain ⟨v, vs, rfl, hv, ha⟩ := F2.inv ha
 obtain ⟨hpr, qs, g1, k1⟩ := r.ok hp hx hv
 have := h a hpr xs H g av objs hF hg ρ w vs hI hp ha (ps ++ qs) (v0 ++ [v]) (by simp [l0, (g1 _).1]) (allRo_append g0 (g1 _).2) (fun ρ' hk => by
  have e := Pat.right hk l0
  rw [Nat.zero_add] at e
  obtain ⟨e1, e2⟩ := k0 ρ' (Pat.left hk)
  obtain ⟨e3, e4⟩ := k1 _ ρ' e
  exact ⟨F2.append e1 e3, F2.append e2 (F2.cons e4 F2.nil)⟩)
 rw [List.append_assoc] at this
 exact this
theorem HO_0 (hT : TabOk P T) (R : S) (rs : List ResultVar) (keep : List Nat) (n : Nat) {fn : Func} {c : Code} {gs : Prop} {x : AV} {os' : List Oj} (hf : P.funcs[f]? = some fn) (hW : ∀ w, I w → gs → W P n (noB (fun _ => undef)) w c ⟨args0 0 az, [], os⟩ (fun e s => (e = .ret ∨ e = .normal) ∧ s = R))
  (hb : fn.body = some c := by rfl) (hn : fn.ntmps = n := by rfl) (hres : fn.results = rs.toArray := by rfl) (hr : retS T R rs keep = some (x, os') := by kernel_rfl) (hl : Nat.ble az.length n = true := by kernel_rfl) :
  HO P I f (ct0 fun H => ([gs], shA H.length x, shH H.length os')) az os := by
 intro args H g av objs hF hg ρ w vals hI hp ha ps v0 l0 g0 k0
 obtain ⟨rfl, rfl, rfl, rfl⟩ := ct0_inv hF
 obtain rfl := F2.inv0 ha
 rw [List.append_nil]
 obtain ⟨f0, hv⟩ := k0 (plL ps) (fun j p hj => by rw [Nat.zero_add]; unfold plL; rw [hj])
 have hR0 := rel0 (gv := fun _ => undef) (n := n) (w := w) (gl := []) (ρ := plL ps) (fun i o ho => by
  obtain ⟨p, hp, hr⟩ := f0.at ho
  show objR _ _ (plL ps i) o
  unfold plL; rw [hp]; exact hr) (allRo_ok g0) hv GlR.nil (by rw [← hv.1]; exact Nat.le_of_ble_eq_true hl)
 refine calls_W hf hb hn hR0 (hW w hI hg) ?_
 rintro e s' ⟨he, rfl⟩
 exact ⟨he, fun a' w' hr' => retS_ok hT hr' (rs := rs) hres hr⟩
theorem fnok {F : Ct} {fn : Func} (hf : P.funcs[f]? = some fn) (h : HO P I f F [] []) (h1 : ((fn.name == "runtime.NumGoroutine") = false) := by kernel_rfl) (h2 : fn.body.isNone = false := by kernel_rfl) : FnOk P I f F :=
 ⟨fun args H g av objs hF hg ρ w vals hI hp ha => h args H g av objs hF hg ρ w vals hI hp ha [] [] rfl rfl (fun _ _ => ⟨F2.nil, F2.nil⟩), fn, hf, h1, h2⟩
end
end Go.Sx
end
section
namespace Go.Proofs.Ytobfglafchoipaa
open Go.RowKit Go.Ch Go.Sx
def tabL_npa : List (TypeId × Ti) := [(5, ⟨.int .u8, 1, 1, true, some [.int .u8]⟩),
 (9, ⟨.str, 1, 16, true, some [.str]⟩),
 (22, ⟨.sl 5, 1, 24, false, some [.nils]⟩),
 (27, ⟨.sl 47, 1, 24, false, some [.nils]⟩),
 (44, ⟨.sl 92, 1, 24, false, some [.nils]⟩),
 (46, ⟨.st [(44, 0), (5, 1), (22, 2)], 3, 56, false, some [.nils, .int .u8, .nils]⟩),
 (47, ⟨.sl 46, 1, 24, false, some [.nils]⟩),
 (92, ⟨.int .u32, 1, 4, true, some [.int .u32]⟩)]
def tab_npa : Tab := fun t => (tabL_npa).lookup t
theorem tabE_npa : (tabL_npa.map fun p => tiOf Try.prog p.1) = tabL_npa.map fun p => some p.2 := by kernel_rfl
theorem tabO_npa : TabOk Try.prog tab_npa := tab_of tabE_npa
def sPlain_j1 (n : Nat) (a0 : List UInt8) (i9_2 : Int) (k_l1 : (List UInt8) → Bool → Int → Option (List UInt8)) (l3_22 : List UInt8) (p4_11 : Bool) : Option (List UInt8) :=
 gd (okI .i64 (i9_2 + 1)) <|
 k_l1 l3_22 p4_11 (i9_2 + 1)
def sPlain_j3 (n : Nat) (a0 : List UInt8) (i9_2 : Int) (l3_23 : List UInt8) (k_l1 : (List UInt8) → Bool → Int → Option (List UInt8)) (b6_17 : UInt8) : Option (List UInt8) :=
 gd (rmB (l3_23.length + 1) 1) <|
 sPlain_j1 n a0 i9_2 k_l1 (l3_23 ++ [b6_17]) false
def sPlain_j2 (n : Nat) (a0 : List UInt8) (i9_2 : Int) (k_l1 : (List UInt8) → Bool → Int → Option (List UInt8)) (l3_23 : List UInt8) : Option (List UInt8) :=
 bif (decide ((65 : UInt8) ≤ (a0.getD i9_2.toNat 0))) then
 bif (decide ((a0.getD i9_2.toNat 0) ≤ (90 : UInt8))) then
 sPlain_j3 n a0 i9_2 l3_23 k_l1 ((a0.getD i9_2.toNat 0) + (32 : UInt8))
 else
 sPlain_j3 n a0 i9_2 l3_23 k_l1 (a0.getD i9_2.toNat 0)
 else
 sPlain_j3 n a0 i9_2 l3_23 k_l1 (a0.getD i9_2.toNat 0)
def sPlain_l1 (n : Nat) (a0 : List UInt8) : Nat → List UInt8 → Bool → Int → Option (List UInt8)
 | 0, _, _, _ => none
 | fu_l1 + 1, l3_17, p4_9, i9_2 =>
 bif (decide (i9_2 < ((a0.length : Nat) : Int))) then
 gd (0 ≤ i9_2) <|
 gd (i9_2 < ((a0.length : Nat) : Int)) <|
 bif ((a0.getD i9_2.toNat 0) == 32) then
 sPlain_j1 n a0 i9_2 (sPlain_l1 n a0 fu_l1) l3_17 true
 else
 bif p4_9 then
 bif (decide ((0 : Int) < ((l3_17.length : Nat) : Int))) then
 gd (rmB (l3_17.length + 1) 1) <|
 sPlain_j2 n a0 i9_2 (sPlain_l1 n a0 fu_l1) (l3_17 ++ [32])
 else
 sPlain_j2 n a0 i9_2 (sPlain_l1 n a0 fu_l1) l3_17
 else
 sPlain_j2 n a0 i9_2 (sPlain_l1 n a0 fu_l1) l3_17
 else
 some l3_17
def sPlain (n : Nat) (a0 : List UInt8) : Option (List UInt8) :=
 sPlain_l1 n a0 n [] false 0
def light_l2 (n : Nat) (a0 : List (List (List UInt32 × (UInt8 × List UInt8)))) (i3_2 : Int) (k_l1 : Int → Option (Bool)) : Nat → Int → Option (Bool)
 | 0, _ => none
 | fu_l2 + 1, i4_8 =>
 gd (0 ≤ i3_2) <|
 gd (i3_2 < ((a0.length : Nat) : Int)) <|
 bif (decide (i4_8 < (((a0.getD i3_2.toNat []).length : Nat) : Int))) then
 gd (0 ≤ i3_2) <|
 gd (i3_2 < ((a0.length : Nat) : Int)) <|
 gd (0 ≤ i4_8) <|
 gd (i4_8 < (((a0.getD i3_2.toNat []).length : Nat) : Int)) <|
 bif (decide ((200 : Int) < (((((a0.getD i3_2.toNat []).getD i4_8.toNat ([], (0, []))).2.2).length : Nat) : Int))) then
 some false
 else
 gd (0 ≤ i3_2) <|
 gd (i3_2 < ((a0.length : Nat) : Int)) <|
 gd (0 ≤ i4_8) <|
 gd (i4_8 < (((a0.getD i3_2.toNat []).length : Nat) : Int)) <|
 bif (decide ((30 : Int) < (((((a0.getD i3_2.toNat []).getD i4_8.toNat ([], (0, []))).1).length : Nat) : Int))) then
 some false
 else
 gd (okI .i64 (i4_8 + 1)) <|
 (light_l2 n a0 i3_2 k_l1 fu_l2) (i4_8 + 1)
 else
 gd (okI .i64 (i3_2 + 1)) <|
 k_l1 (i3_2 + 1)
def light_l1 (n : Nat) (a0 : List (List (List UInt32 × (UInt8 × List UInt8)))) : Nat → Int → Option (Bool)
 | 0, _ => none
 | fu_l1 + 1, i3_2 =>
 bif (decide (i3_2 < ((a0.length : Nat) : Int))) then
 gd (0 ≤ i3_2) <|
 gd (i3_2 < ((a0.length : Nat) : Int)) <|
 bif (decide ((10 : Int) < (((a0.getD i3_2.toNat []).length : Nat) : Int))) then
 some false
 else
 light_l2 n a0 i3_2 (light_l1 n a0 fu_l1) n 0
 else
 some true
def light (n : Nat) (a0 : List (List (List UInt32 × (UInt8 × List UInt8)))) : Option (Bool) :=
 bif (decide ((20 : Int) < ((a0.length : Nat) : Int))) then
 some false
 else
 light_l1 n a0 n 0
def slEq_l1 (n : Nat) (a0 : List UInt32) (a1 : List UInt32) : Nat → Int → Option (Bool)
 | 0, _ => none
 | fu_l1 + 1, i13_2 =>
 bif (decide (i13_2 < ((a0.length : Nat) : Int))) then
 gd (0 ≤ i13_2) <|
 gd (i13_2 < ((a0.length : Nat) : Int)) <|
 gd (0 ≤ i13_2) <|
 gd (i13_2 < ((a1.length : Nat) : Int)) <|
 bif ((a0.getD i13_2.toNat 0) != (a1.getD i13_2.toNat 0)) then
 some false
 else
 gd (okI .i64 (i13_2 + 1)) <|
 (slEq_l1 n a0 a1 fu_l1) (i13_2 + 1)
 else
 some true
def slEq (n : Nat) (a0 : List UInt32) (a1 : List UInt32) : Option (Bool) :=
 bif (((a0.length : Nat) : Int) != ((a1.length : Nat) : Int)) then
 some false
 else
 slEq_l1 n a0 a1 n 0
def byEq (n : Nat) (a0 : List UInt8) (a1 : List UInt8) : Option (Bool) :=
 some (a0 == a1)
def like (n : Nat) (a0_0 : List UInt32) (a0_1 : UInt8) (a0_2 : List UInt8) (a1_0 : List UInt32) (a1_1 : UInt8) (a1_2 : List UInt8) : Option (Bool) :=
 (slEq n a0_0 a1_0).bind fun r9 =>
 bif r9 then
  (sPlain n a0_2).bind fun r13 =>
  (sPlain n a1_2).bind fun r16 =>
  (byEq n r13 r16).bind fun r17 =>
  some r17
 else
  some false
def sPlain_j1_E (a0 : List UInt8) (i9_2 : Int) (l3_22 : List UInt8) (p4_11 : Bool) : S := ⟨[(3, kH 0), (4, kB p4_11), (7, kH 1), (8, kI ((a0.length : Nat) : Int)), (9, kI i9_2)], [], [nb 5 l3_22, ob 5 a0]⟩
abbrev sPlain_j1_P (n : Nat) (a0 : List UInt8) (i9_2 : Int) (k_l1 : (List UInt8) → Bool → Int → Option (List UInt8)) (r : List UInt8) : S → Prop := fun s => ∃ (l3_22 : List UInt8), ∃ (p4_11 : Bool), s = sPlain_j1_E a0 i9_2 l3_22 p4_11 ∧ sPlain_j1 n a0 i9_2 k_l1 l3_22 p4_11 = some r
def sPlain_j3_E (a0 : List UInt8) (i9_2 : Int) (l3_23 : List UInt8) (b6_17 : UInt8) : S := ⟨[(3, kH 0), (4, kB false), (6, kU b6_17), (7, kH 1), (8, kI ((a0.length : Nat) : Int)), (9, kI i9_2)], [], [nb 5 l3_23, ob 5 a0]⟩
abbrev sPlain_j3_P (n : Nat) (a0 : List UInt8) (i9_2 : Int) (l3_23 : List UInt8) (k_l1 : (List UInt8) → Bool → Int → Option (List UInt8)) (r : List UInt8) : S → Prop := fun s => ∃ (b6_17 : UInt8), s = sPlain_j3_E a0 i9_2 l3_23 b6_17 ∧ sPlain_j3 n a0 i9_2 l3_23 k_l1 b6_17 = some r
def sPlain_j2_E (a0 : List UInt8) (i9_2 : Int) (l3_23 : List UInt8) : S := ⟨[(3, kH 0), (6, kU (a0.getD i9_2.toNat 0)), (7, kH 1), (8, kI ((a0.length : Nat) : Int)), (9, kI i9_2)], [], [nb 5 l3_23, ob 5 a0]⟩
abbrev sPlain_j2_P (n : Nat) (a0 : List UInt8) (i9_2 : Int) (k_l1 : (List UInt8) → Bool → Int → Option (List UInt8)) (r : List UInt8) : S → Prop := fun s => ∃ (l3_23 : List UInt8), s = sPlain_j2_E a0 i9_2 l3_23 ∧ sPlain_j2 n a0 i9_2 k_l1 l3_23 = some r
def sPlain_l1_E (a0 : List UInt8) (l3_17 : List UInt8) (p4_9 : Bool) (i9_2 : Int) : S := ⟨[(3, kH 0), (4, kB p4_9), (7, kH 1), (8, kI ((a0.length : Nat) : Int)), (9, kI i9_2)], [], [nb 5 l3_17, ob 5 a0]⟩
abbrev sPlain_l1_P (n : Nat) (a0 : List UInt8) (r : List UInt8) (fu : Nat) : S → Prop := fun s => ∃ (l3_17 : List UInt8), ∃ (p4_9 : Bool), ∃ (i9_2 : Int), s = sPlain_l1_E a0 l3_17 p4_9 i9_2 ∧ sPlain_l1 n a0 fu l3_17 p4_9 i9_2 = some r
def sPlain_R (r : List UInt8) : S := ⟨[(2, kH 0)], [], [nb 5 r]⟩
def sPlain_ct (n : Nat) (r : List UInt8) : Ct := ctc (rB 5).rd fun _ l0 => ct0 fun H => ([sPlain n l0 = some r], shA H.length (kH 0), shH H.length [nb 5 r])
theorem sPlain_ok (n : Nat) (r : List UInt8) : FnOk Try.prog Tr 11 (sPlain_ct n r) := by
 refine fnok Try.func11 ?_
 refine HO_c (rB 5) fun l0 _ => HO_0 tabO_npa (sPlain_R r) [.tmp 2] [0] 40 Try.func11 fun w hG h => ?_
 unfold sPlain at h
 have hT := tabO_npa
 refine Vrs hT [0] ⟨[(0, kH 0)], [], [ob 5 l0]⟩ ?_
 refine Vrs hT [0] ⟨[(0, kH 0), (3, .c (.nils))], [], [ob 5 l0]⟩ ?_
 refine Vrs hT [0] ⟨[(0, kH 0), (3, .c (.nils)), (4, kB false)], [], [ob 5 l0]⟩ ?_
 refine W_seq ?_
 refine Vrs hT [0] ⟨[(3, .c (.nils)), (4, kB false), (7, kH 0), (8, kI ((l0.length : Nat) : Int)), (9, kI 0)], [], [ob 5 l0]⟩ ?_
 refine W_block ?_
 refine Vc [.nil 3 5 1 (.b [])] [1, 0] (sPlain_l1_E l0 [] false 0) (W_lp ((sPlain_l1_P n l0 r)) n ⟨_, _, _, rfl, h⟩ ?_)
 rintro fu_l1 _ ⟨l3_17, p4_9, i9_2, rfl, h⟩
 cases fu_l1 with
 | zero => cases h
 | succ fu_l1 =>
  refine ⟨fu_l1, rfl, ?_⟩
  rw [sPlain_l1] at h
  refine Vrs hT [0, 1] ⟨[(3, kH 0), (4, kB p4_9), (7, kH 1), (8, kI ((l0.length : Nat) : Int)), (9, kI i9_2), (10, kB (decide (i9_2 < ((l0.length : Nat) : Int))))], [], [nb 5 l3_17, ob 5 l0]⟩ ?_
  refine W_seq ?_
  refine Vi ((decide (i9_2 < ((l0.length : Nat) : Int)))) (fun g11 => ?_) (fun g11 => ?_)
  ·replace h := bif_t h g11
   refine Vc [] [0, 1] ⟨[(3, kH 0), (4, kB p4_9), (7, kH 1), (8, kI ((l0.length : Nat) : Int)), (9, kI i9_2)], [], [nb 5 l3_17, ob 5 l0]⟩ (W_skip ?_)
   refine W_join (sPlain_j1_P n l0 i9_2 (sPlain_l1 n l0 fu_l1) r) ?_ ?_
   ·rintro _ ⟨l3_22, p4_11, rfl, h⟩
    unfold sPlain_j1 at h
    obtain ⟨g1, h⟩ := gd_some h
    refine Vg hT fN [] [] [0, 1] (sPlain_l1_E l0 l3_22 p4_11 (i9_2 + 1)) (aP g1 aN) ?_
    exact ⟨_, _, _, rfl, h⟩
   ·refine W_block ?_
    obtain ⟨g2, g3, h⟩ := gd2 h
    refine Vgs hT fN [] [] [0, 1] ⟨[(3, kH 0), (4, kB p4_9), (6, kU (l0.getD i9_2.toNat 0)), (7, kH 1), (8, kI ((l0.length : Nat) : Int)), (9, kI i9_2)], [], [nb 5 l3_17, ob 5 l0]⟩ (aP g2 (aP g3 aN)) ?_
    refine W_join (sPlain_j2_P n l0 i9_2 (sPlain_l1 n l0 fu_l1) r) ?_ ?_
    ·rintro _ ⟨l3_23, rfl, h⟩
     unfold sPlain_j2 at h
     refine Vrs hT [0, 1] ⟨[(3, kH 0), (4, kB false), (6, kU (l0.getD i9_2.toNat 0)), (7, kH 1), (8, kI ((l0.length : Nat) : Int)), (9, kI i9_2)], [], [nb 5 l3_23, ob 5 l0]⟩ ?_
     refine W_join (sPlain_j3_P n l0 i9_2 l3_23 (sPlain_l1 n l0 fu_l1) r) ?_ ?_
     ·rintro _ ⟨b6_17, rfl, h⟩
      unfold sPlain_j3 at h
      obtain ⟨g4, h⟩ := gd_some h
      refine Vg hT fN [] [] [3, 1] (sPlain_j1_E l0 i9_2 (l3_23 ++ [b6_17]) false) (aP g4 aN) ?_
      exact ⟨_, _, rfl, h⟩
     ·refine W_seq ?_
      rcases Bool.eq_false_or_eq_true (decide ((65 : UInt8) ≤ (l0.getD i9_2.toNat 0))) with g5 | g5
      ·replace h := bif_t h g5
       refine Vg hT fN [(2, true)] [] [0, 1] ⟨[(3, kH 0), (4, kB false), (6, kU (l0.getD i9_2.toNat 0)), (7, kH 1), (8, kI ((l0.length : Nat) : Int)), (9, kI i9_2), (31, kB (decide ((l0.getD i9_2.toNat 0) ≤ (90 : UInt8))))], [], [nb 5 l3_23, ob 5 l0]⟩ (aP g5 aN) ?_
       refine Vi ((decide ((l0.getD i9_2.toNat 0) ≤ (90 : UInt8)))) (fun g6 => ?_) (fun g6 => ?_)
       ·replace h := bif_t h g6
        refine Vr hT [0, 1] (sPlain_j3_E l0 i9_2 l3_23 ((l0.getD i9_2.toNat 0) + (32 : UInt8))) ?_
        exact ⟨_, rfl, h⟩
       ·replace h := bif_f h g6
        refine Vc [] [0, 1] (sPlain_j3_E l0 i9_2 l3_23 (l0.getD i9_2.toNat 0)) (W_skip ?_)
        exact ⟨_, rfl, h⟩
      ·replace h := bif_f h g5
       refine Vg hT fN [(2, false)] [] [0, 1] ⟨[(3, kH 0), (4, kB false), (6, kU (l0.getD i9_2.toNat 0)), (7, kH 1), (8, kI ((l0.length : Nat) : Int)), (9, kI i9_2), (31, kB false)], [], [nb 5 l3_23, ob 5 l0]⟩ (aP g5 aN) ?_
       refine Vi (false) (fun hb => by cases hb) (fun _ => ?_)
       refine Vc [] [0, 1] (sPlain_j3_E l0 i9_2 l3_23 (l0.getD i9_2.toNat 0)) (W_skip ?_)
       exact ⟨_, rfl, h⟩
    ·refine W_block ?_
     refine Vrs hT [0, 1] ⟨[(3, kH 0), (4, kB p4_9), (6, kU (l0.getD i9_2.toNat 0)), (7, kH 1), (8, kI ((l0.length : Nat) : Int)), (9, kI i9_2), (13, kB ((l0.getD i9_2.toNat 0) == 32))], [], [nb 5 l3_17, ob 5 l0]⟩ ?_
     refine Vi (((l0.getD i9_2.toNat 0) == 32)) (fun g10 => ?_) (fun g10 => ?_)
     ·replace h := bif_t h g10
      refine Vrs hT [0, 1] ⟨[(3, kH 0), (4, kB true), (7, kH 1), (8, kI ((l0.length : Nat) : Int)), (9, kI i9_2)], [], [nb 5 l3_17, ob 5 l0]⟩ ?_
      refine Vc [] [0, 1] (sPlain_j1_E l0 i9_2 l3_17 true) (W_exit ?_)
      exact ⟨_, _, rfl, h⟩
     ·replace h := bif_f h g10
      refine W_seq ?_
      rcases Bool.eq_false_or_eq_true p4_9 with g7 | g7
      ·replace h := bif_t h g7
       refine Vg hT fN [(1, true)] [] [0, 1] ⟨[(3, kH 0), (6, kU (l0.getD i9_2.toNat 0)), (7, kH 1), (8, kI ((l0.length : Nat) : Int)), (9, kI i9_2), (16, kB (decide ((0 : Int) < ((l3_17.length : Nat) : Int))))], [], [nb 5 l3_17, ob 5 l0]⟩ (aP g7 aN) ?_
       refine Vi ((decide ((0 : Int) < ((l3_17.length : Nat) : Int)))) (fun g9 => ?_) (fun g9 => ?_)
       ·replace h := bif_t h g9
        obtain ⟨g8, h⟩ := gd_some h
        refine Vg hT fN [] [] [3, 1] (sPlain_j2_E l0 i9_2 (l3_17 ++ [32])) (aP g8 aN) ?_
        exact ⟨_, rfl, h⟩
       ·replace h := bif_f h g9
        refine Vc [] [0, 1] (sPlain_j2_E l0 i9_2 l3_17) (W_skip ?_)
        exact ⟨_, rfl, h⟩
      ·replace h := bif_f h g7
       refine Vg hT fN [(1, false)] [] [0, 1] ⟨[(3, kH 0), (6, kU (l0.getD i9_2.toNat 0)), (7, kH 1), (8, kI ((l0.length : Nat) : Int)), (9, kI i9_2), (16, kB false)], [], [nb 5 l3_17, ob 5 l0]⟩ (aP g7 aN) ?_
       refine Vi (false) (fun hb => by cases hb) (fun _ => ?_)
       refine Vc [] [0, 1] (sPlain_j2_E l0 i9_2 l3_17) (W_skip ?_)
       exact ⟨_, rfl, h⟩
  ·replace h := bif_f h g11
   refine Vc [] [0] ⟨[(3, kH 0)], [], [nb 5 l3_17]⟩ (W_exit ?_)
   refine Vrs hT [0] ⟨[(2, kH 0)], [], [nb 5 l3_17]⟩ ?_
   refine Vc [] [0] (sPlain_R l3_17) (W_ret ?_)
   exact ⟨.inl rfl, by cases h; rfl⟩
def light_l2_E (a0 : List (List (List UInt32 × (UInt8 × List UInt8)))) (i3_2 : Int) (i4_8 : Int) : S := ⟨[(0, kH 0), (3, kI i3_2), (4, kI i4_8)], [], [⟨.dp, 47, 1, a0.length, .d (.sl 46 (.pr (.wo 92) (.pr .u8 (.by 5)))) a0⟩]⟩
abbrev light_l2_P (n : Nat) (a0 : List (List (List UInt32 × (UInt8 × List UInt8)))) (i3_2 : Int) (k_l1 : Int → Option (Bool)) (r : Bool) (fu : Nat) : S → Prop := fun s => ∃ (i4_8 : Int), s = light_l2_E a0 i3_2 i4_8 ∧ light_l2 n a0 i3_2 k_l1 fu i4_8 = some r
def light_l1_E (a0 : List (List (List UInt32 × (UInt8 × List UInt8)))) (i3_2 : Int) : S := ⟨[(0, kH 0), (3, kI i3_2)], [], [⟨.dp, 47, 1, a0.length, .d (.sl 46 (.pr (.wo 92) (.pr .u8 (.by 5)))) a0⟩]⟩
abbrev light_l1_P (n : Nat) (a0 : List (List (List UInt32 × (UInt8 × List UInt8)))) (r : Bool) (fu : Nat) : S → Prop := fun s => ∃ (i3_2 : Int), s = light_l1_E a0 i3_2 ∧ light_l1 n a0 fu i3_2 = some r
def light_R (r : Bool) : S := ⟨[(2, kB r)], [], []⟩
def light_ct (n : Nat) (r : Bool) : Ct := ctc (rD 47 (.sl 46 (.pr (.wo 92) (.pr .u8 (.by 5))))).rd fun _ l0 => ct0 fun H => ([light n l0 = some r], shA H.length (kB r), shH H.length [])
theorem light_ok (n : Nat) (r : Bool) : FnOk Try.prog Tr 13 (light_ct n r) := by
 refine fnok Try.func13 ?_
 refine HO_c (rD 47 (.sl 46 (.pr (.wo 92) (.pr .u8 (.by 5))))) fun (l0 : List (List (List UInt32 × (UInt8 × List UInt8)))) _ => HO_0 tabO_npa (light_R r) [.tmp 2] [] 51 Try.func13 fun w hG h => ?_
 unfold light at h
 have hT := tabO_npa
 refine Vrs hT [0] ⟨[(0, kH 0)], [], [⟨.dp, 47, 1, l0.length, .d (.sl 46 (.pr (.wo 92) (.pr .u8 (.by 5)))) l0⟩]⟩ ?_
 refine W_seq ?_
 refine Vrs hT [0] ⟨[(0, kH 0), (7, kB (decide ((20 : Int) < ((l0.length : Nat) : Int))))], [], [⟨.dp, 47, 1, l0.length, .d (.sl 46 (.pr (.wo 92) (.pr .u8 (.by 5)))) l0⟩]⟩ ?_
 refine Vi ((decide ((20 : Int) < ((l0.length : Nat) : Int)))) (fun g20 => ?_) (fun g20 => ?_)
 ·replace h := bif_t h g20
  refine Vrs hT [] ⟨[(2, kB false)], [], []⟩ ?_
  refine Vc [] [] (light_R false) (W_ret ?_)
  exact ⟨.inl rfl, by cases h; rfl⟩
 ·replace h := bif_f h g20
  refine W_skip ?_
  refine W_seq ?_
  refine Vrs hT [0] ⟨[(0, kH 0), (3, kI 0)], [], [⟨.dp, 47, 1, l0.length, .d (.sl 46 (.pr (.wo 92) (.pr .u8 (.by 5)))) l0⟩]⟩ ?_
  refine W_block ?_
  refine Vc [] [0] (light_l1_E l0 0) (W_lp ((light_l1_P n l0 r)) n ⟨_, rfl, h⟩ ?_)
  rintro fu_l1 _ ⟨i3_2, rfl, h⟩
  cases fu_l1 with
  | zero => cases h
  | succ fu_l1 =>
   refine ⟨fu_l1, rfl, ?_⟩
   rw [light_l1] at h
   refine W_seq ?_
   refine Vrs hT [0] ⟨[(0, kH 0), (3, kI i3_2), (11, kB (decide (i3_2 < ((l0.length : Nat) : Int))))], [], [⟨.dp, 47, 1, l0.length, .d (.sl 46 (.pr (.wo 92) (.pr .u8 (.by 5)))) l0⟩]⟩ ?_
   refine Vi ((decide (i3_2 < ((l0.length : Nat) : Int)))) (fun g19 => ?_) (fun g19 => ?_)
   ·replace h := bif_t h g19
    refine W_skip ?_
    refine W_seq ?_
    refine W_block ?_
    refine W_seq ?_
    obtain ⟨g1, g2, h⟩ := gd2 h
    refine Vgs hT fN [] [] [0] ⟨[(0, kH 0), (3, kI i3_2), (19, kB (decide ((10 : Int) < (((l0.getD i3_2.toNat []).length : Nat) : Int))))], [], [⟨.dp, 47, 1, l0.length, .d (.sl 46 (.pr (.wo 92) (.pr .u8 (.by 5)))) l0⟩]⟩ (aP g1 (aP g2 aN)) ?_
    refine Vi ((decide ((10 : Int) < (((l0.getD i3_2.toNat []).length : Nat) : Int)))) (fun g18 => ?_) (fun g18 => ?_)
    ·replace h := bif_t h g18
     refine Vrs hT [] ⟨[(2, kB false)], [], []⟩ ?_
     refine Vc [] [] (light_R false) (W_ret ?_)
     exact ⟨.inl rfl, by cases h; rfl⟩
    ·replace h := bif_f h g18
     refine W_skip ?_
     refine Vrs hT [0] ⟨[(0, kH 0), (3, kI i3_2), (4, kI 0)], [], [⟨.dp, 47, 1, l0.length, .d (.sl 46 (.pr (.wo 92) (.pr .u8 (.by 5)))) l0⟩]⟩ ?_
     refine W_block ?_
     refine Vc [] [0] (light_l2_E l0 i3_2 0) (W_lp ((light_l2_P n l0 i3_2 (light_l1 n l0 fu_l1) r)) n ⟨_, rfl, h⟩ ?_)
     rintro fu_l2 _ ⟨i4_8, rfl, h⟩
     cases fu_l2 with
     | zero => cases h
     | succ fu_l2 =>
      refine ⟨fu_l2, rfl, ?_⟩
      rw [light_l2] at h
      refine W_seq ?_
      obtain ⟨g3, g4, h⟩ := gd2 h
      refine Vgs hT fN [] [] [0] ⟨[(0, kH 0), (3, kI i3_2), (4, kI i4_8), (26, kB (decide (i4_8 < (((l0.getD i3_2.toNat []).length : Nat) : Int))))], [], [⟨.dp, 47, 1, l0.length, .d (.sl 46 (.pr (.wo 92) (.pr .u8 (.by 5)))) l0⟩]⟩ (aP g3 (aP g4 aN)) ?_
      refine Vi ((decide (i4_8 < (((l0.getD i3_2.toNat []).length : Nat) : Int)))) (fun g17 => ?_) (fun g17 => ?_)
      ·replace h := bif_t h g17
       refine Vc [] [0] ⟨[(0, kH 0), (3, kI i3_2), (4, kI i4_8)], [], [⟨.dp, 47, 1, l0.length, .d (.sl 46 (.pr (.wo 92) (.pr .u8 (.by 5)))) l0⟩]⟩ (W_skip ?_)
       refine W_seq ?_
       refine W_block ?_
       refine W_seq ?_
       obtain ⟨g5, g6, g7, g8, h⟩ := gd4 h
       rcases Bool.eq_false_or_eq_true (decide ((200 : Int) < (((((l0.getD i3_2.toNat []).getD i4_8.toNat ([], (0, []))).2.2).length : Nat) : Int))) with g9 | g9
       ·replace h := bif_t h g9
        refine Vg hT fN [(10, true)] [] [0] ⟨[(0, kH 0), (3, kI i3_2), (4, kI i4_8), (50, kB true)], [], [⟨.dp, 47, 1, l0.length, .d (.sl 46 (.pr (.wo 92) (.pr .u8 (.by 5)))) l0⟩]⟩ (aP g5 (aP g6 (aP g7 (aP g8 (aP g9 aN))))) ?_
        refine Vi (true) (fun _ => ?_) (fun hb => by cases hb)
        refine Vrs hT [] ⟨[(2, kB false)], [], []⟩ ?_
        refine Vc [] [] (light_R false) (W_ret ?_)
        exact ⟨.inl rfl, by cases h; rfl⟩
       ·replace h := bif_f h g9
        obtain ⟨g10, g11, g12, g13, h⟩ := gd4 h
        refine Vg hT fN [(10, false)] [] [0] ⟨[(0, kH 0), (3, kI i3_2), (4, kI i4_8), (50, kB (decide ((30 : Int) < (((((l0.getD i3_2.toNat []).getD i4_8.toNat ([], (0, []))).1).length : Nat) : Int))))], [], [⟨.dp, 47, 1, l0.length, .d (.sl 46 (.pr (.wo 92) (.pr .u8 (.by 5)))) l0⟩]⟩ (aP g5 (aP g6 (aP g7 (aP g8 (aP g9 (aP g10 (aP g11 (aP g12 (aP g13 aN))))))))) ?_
        refine Vi ((decide ((30 : Int) < (((((l0.getD i3_2.toNat []).getD i4_8.toNat ([], (0, []))).1).length : Nat) : Int)))) (fun g15 => ?_) (fun g15 => ?_)
        ·replace h := bif_t h g15
         refine Vrs hT [] ⟨[(2, kB false)], [], []⟩ ?_
         refine Vc [] [] (light_R false) (W_ret ?_)
         exact ⟨.inl rfl, by cases h; rfl⟩
        ·replace h := bif_f h g15
         refine W_skip ?_
         obtain ⟨g14, h⟩ := gd_some h
         refine Vg hT fN [] [] [0] (light_l2_E l0 i3_2 (i4_8 + 1)) (aP g14 aN) ?_
         exact ⟨_, rfl, h⟩
      ·replace h := bif_f h g17
       refine Vc [] [0] ⟨[(0, kH 0), (3, kI i3_2)], [], [⟨.dp, 47, 1, l0.length, .d (.sl 46 (.pr (.wo 92) (.pr .u8 (.by 5)))) l0⟩]⟩ (W_exit ?_)
       obtain ⟨g16, h⟩ := gd_some h
       refine Vg hT fN [] [] [0] (light_l1_E l0 (i3_2 + 1)) (aP g16 aN) ?_
       exact ⟨_, rfl, h⟩
   ·replace h := bif_f h g19
    refine Vc [] [] ⟨[], [], []⟩ (W_exit ?_)
    refine Vrs hT [] ⟨[(2, kB true)], [], []⟩ ?_
    refine Vc [] [] (light_R true) (W_ret ?_)
    exact ⟨.inl rfl, by cases h; rfl⟩
def slEq_l1_E (a0 : List UInt32) (a1 : List UInt32) (i13_2 : Int) : S := ⟨[(0, kH 0), (1, kH 1), (12, kI ((a0.length : Nat) : Int)), (13, kI i13_2)], [], [ow 92 a0, ow 92 a1]⟩
abbrev slEq_l1_P (n : Nat) (a0 : List UInt32) (a1 : List UInt32) (r : Bool) (fu : Nat) : S → Prop := fun s => ∃ (i13_2 : Int), s = slEq_l1_E a0 a1 i13_2 ∧ slEq_l1 n a0 a1 fu i13_2 = some r
def slEq_R (r : Bool) : S := ⟨[(4, kB r)], [], []⟩
def slEq_ct (n : Nat) (r : Bool) : Ct := ctc (rW 92).rd fun _ l0 => ctc (rW 92).rd fun _ l1 => ct0 fun H => ([slEq n l0 l1 = some r], shA H.length (kB r), shH H.length [])
theorem slEq_ok (n : Nat) (r : Bool) : FnOk Try.prog Tr 61 (slEq_ct n r) := by
 refine fnok Try.func61 ?_
 refine HO_c (rW 92) fun l0 _ => HO_c (rW 92) fun l1 _ => HO_0 tabO_npa (slEq_R r) [.tmp 4] [] 26 Try.func61 fun w hG h => ?_
 unfold slEq at h
 have hT := tabO_npa
 refine Vrs hT [0, 1] ⟨[(0, kH 0), (1, kH 1)], [], [ow 92 l0, ow 92 l1]⟩ ?_
 refine W_seq ?_
 refine Vrs hT [0, 1] ⟨[(0, kH 0), (1, kH 1), (10, kB (((l0.length : Nat) : Int) != ((l1.length : Nat) : Int)))], [], [ow 92 l0, ow 92 l1]⟩ ?_
 refine Vi ((((l0.length : Nat) : Int) != ((l1.length : Nat) : Int))) (fun g8 => ?_) (fun g8 => ?_)
 ·replace h := bif_t h g8
  refine Vrs hT [] ⟨[(4, kB false)], [], []⟩ ?_
  refine Vc [] [] (slEq_R false) (W_ret ?_)
  exact ⟨.inl rfl, by cases h; rfl⟩
 ·replace h := bif_f h g8
  refine W_skip ?_
  refine W_seq ?_
  refine Vrs hT [0, 1] ⟨[(0, kH 0), (1, kH 1), (12, kI ((l0.length : Nat) : Int)), (13, kI 0)], [], [ow 92 l0, ow 92 l1]⟩ ?_
  refine W_block ?_
  refine Vc [] [0, 1] (slEq_l1_E l0 l1 0) (W_lp ((slEq_l1_P n l0 l1 r)) n ⟨_, rfl, h⟩ ?_)
  rintro fu_l1 _ ⟨i13_2, rfl, h⟩
  cases fu_l1 with
  | zero => cases h
  | succ fu_l1 =>
   refine ⟨fu_l1, rfl, ?_⟩
   rw [slEq_l1] at h
   refine Vrs hT [0, 1] ⟨[(0, kH 0), (1, kH 1), (12, kI ((l0.length : Nat) : Int)), (13, kI i13_2), (14, kB (decide (i13_2 < ((l0.length : Nat) : Int))))], [], [ow 92 l0, ow 92 l1]⟩ ?_
   refine W_seq ?_
   refine Vi ((decide (i13_2 < ((l0.length : Nat) : Int)))) (fun g7 => ?_) (fun g7 => ?_)
   ·replace h := bif_t h g7
    refine W_skip ?_
    refine W_seq ?_
    refine W_block ?_
    refine Vrs hT [0, 1] ⟨[(0, kH 0), (1, kH 1), (5, kI i13_2), (12, kI ((l0.length : Nat) : Int)), (13, kI i13_2)], [], [ow 92 l0, ow 92 l1]⟩ ?_
    obtain ⟨g1, g2, g3, g4, h⟩ := gd4 h
    refine Vds hT fN 8 [] [(0, false), (1, false), (12, false), (13, false), (19, false), (23, false)] [] [0, 1] ⟨[(0, kH 0), (1, kH 1), (12, kI ((l0.length : Nat) : Int)), (13, kI i13_2), (24, kB ((l0.getD i13_2.toNat 0) != (l1.getD i13_2.toNat 0)))], [], [ow 92 l0, ow 92 l1]⟩ (aP g1 (aP g2 (aP g3 (aP g4 aN)))) ?_
    refine Vi (((l0.getD i13_2.toNat 0) != (l1.getD i13_2.toNat 0))) (fun g6 => ?_) (fun g6 => ?_)
    ·replace h := bif_t h g6
     refine Vrs hT [] ⟨[(4, kB false)], [], []⟩ ?_
     refine Vc [] [] (slEq_R false) (W_ret ?_)
     exact ⟨.inl rfl, by cases h; rfl⟩
    ·replace h := bif_f h g6
     refine W_skip ?_
     obtain ⟨g5, h⟩ := gd_some h
     refine Vg hT fN [] [] [0, 1] (slEq_l1_E l0 l1 (i13_2 + 1)) (aP g5 aN) ?_
     exact ⟨_, rfl, h⟩
   ·replace h := bif_f h g7
    refine Vc [] [] ⟨[], [], []⟩ (W_exit ?_)
    refine Vrs hT [] ⟨[(4, kB true)], [], []⟩ ?_
    refine Vc [] [] (slEq_R true) (W_ret ?_)
    exact ⟨.inl rfl, by cases h; rfl⟩
def byEq_R (r : Bool) : S := ⟨[(4, kB r)], [], []⟩
def byEq_ct (n : Nat) (r : Bool) : Ct := ctc (rB 5).rd fun _ l0 => ctc (rB 5).rd fun _ l1 => ct0 fun H => ([byEq n l0 l1 = some r], shA H.length (kB r), shH H.length [])
theorem byEq_ok (n : Nat) (r : Bool) : FnOk Try.prog Tr 62 (byEq_ct n r) := by
 refine fnok Try.func62 ?_
 refine HO_c (rB 5) fun l0 _ => HO_c (rB 5) fun l1 _ => HO_0 tabO_npa (byEq_R r) [.tmp 4] [] 10 Try.func62 fun w hG h => ?_
 unfold byEq at h
 have hT := tabO_npa
 refine Vrs hT [0, 1] ⟨[(0, kH 0), (1, kH 1)], [], [ob 5 l0, ob 5 l1]⟩ ?_
 refine Vrs hT [] ⟨[(4, kB (l0 == l1))], [], []⟩ ?_
 refine Vc [] [] (byEq_R (l0 == l1)) (W_ret ?_)
 exact ⟨.inl rfl, by cases h; rfl⟩
def like_R (r : Bool) : S := ⟨[(4, kB r)], [], []⟩
def like_ct (n : Nat) (r : Bool) : Ct := ctc (rSt (lC (cW 92) (lC cU8 (lC (cB 5) lN)))).rd fun _ y0 => ctc (rSt (lC (cW 92) (lC cU8 (lC (cB 5) lN)))).rd fun _ y1 => ct0 fun H => ([like n y0.1 y0.2.1 y0.2.2.1 y1.1 y1.2.1 y1.2.2.1 = some r], shA H.length (kB r), shH H.length [])
theorem like_ok (n : Nat) (r : Bool) : FnOk Try.prog Tr 39 (like_ct n r) := by
 refine fnok Try.func39 ?_
 refine HO_c (rSt (lC (cW 92) (lC cU8 (lC (cB 5) lN)))) fun p0 _ => ?_
 obtain ⟨l0_0, l0_1, l0_2, _⟩ := p0
 refine HO_c (rSt (lC (cW 92) (lC cU8 (lC (cB 5) lN)))) fun p1 _ => ?_
 obtain ⟨l1_0, l1_1, l1_2, _⟩ := p1
 refine HO_0 tabO_npa (like_R r) [.tmp 4] [] 19 Try.func39 fun w hG h => ?_
 have h : like n l0_0 l0_1 l0_2 l1_0 l1_1 l1_2 = some r := h
 unfold like at h
 have hT := tabO_npa
 refine Vrs hT [4, 0, 1, 5, 2, 3] ⟨[(2, kP 0 0), (3, kP 3 0)], [], [⟨.blk, 46, 1, 3, .c [.wh 1, .s (.u8 l0_1), .wh 2]⟩, ow 92 l0_0, ob 5 l0_2, ⟨.blk, 46, 1, 3, .c [.wh 4, .s (.u8 l1_1), .wh 5]⟩, ow 92 l1_0, ob 5 l1_2]⟩ ?_
 refine W_seq ?_
 obtain ⟨r9, g1, h⟩ := bind_some' h
 rcases Bool.eq_false_or_eq_true r9 with g2 | g2
 ·replace h := bif_t h g2
  obtain ⟨r13, g3, h⟩ := bind_some' h
  obtain ⟨r16, g4, h⟩ := bind_some' h
  obtain ⟨r17, g5, h⟩ := bind_some' h
  refine Vd hT (fT 4 (slEq_ok n r9) (fT 8 (sPlain_ok n r13) (fT 11 (sPlain_ok n r16) (fT 12 (byEq_ok n r17) fN)))) 12 [(5, true)] [(10, false), (13, true), (16, true)] [] [] ⟨[(4, kB r17)], [], []⟩ (aP g1 (aP g2 (aP g3 (aP g4 (aP g5 aN))))) ?_
  refine Vc [] [] (like_R r17) (W_ret ?_)
  exact ⟨.inl rfl, by cases h; rfl⟩
 ·replace h := bif_f h g2
  refine Vd hT (fT 4 (slEq_ok n r9) fN) 12 [(5, false)] [(10, false), (13, false), (16, false)] [] [] ⟨[(4, kB false)], [], []⟩ (aP g1 (aP g2 aN)) ?_
  refine Vc [] [] (like_R false) (W_ret ?_)
  exact ⟨.inl rfl, by cases h; rfl⟩
end Go.Proofs.Ytobfglafchoipaa
end
section
namespace Go.Proofs.Ytobfglafchoipaa
open Go.RowKit Go.Ch Go.Sx
def tabL_npb : List (TypeId × Ti) := [(4, ⟨.bool, 1, 1, true, some [.bool]⟩),
 (5, ⟨.int .u8, 1, 1, true, some [.int .u8]⟩),
 (9, ⟨.str, 1, 16, true, some [.str]⟩),
 (22, ⟨.sl 5, 1, 24, false, some [.nils]⟩),
 (27, ⟨.sl 47, 1, 24, false, some [.nils]⟩),
 (44, ⟨.sl 92, 1, 24, false, some [.nils]⟩),
 (46, ⟨.st [(44, 0), (5, 1), (22, 2)], 3, 56, false, some [.nils, .int .u8, .nils]⟩),
 (47, ⟨.sl 46, 1, 24, false, some [.nils]⟩),
 (92, ⟨.int .u32, 1, 4, true, some [.int .u32]⟩)]
def tab_npb : Tab := fun t => (tabL_npb).lookup t
theorem tabE_npb : (tabL_npb.map fun p => tiOf Try.prog p.1) = tabL_npb.map fun p => some p.2 := by kernel_rfl
theorem tabO_npb : TabOk Try.prog tab_npb := tab_of tabE_npb
def cv1 (n : Nat) (a0_0 : List UInt32) (a0_1 : UInt8) (a0_2 : List UInt8) (a1_0 : List UInt32) (a1_1 : UInt8) (a1_2 : List UInt8) : Option (Bool) :=
 gd (0 + 3 ≤ 3) <|
 (like n a1_0 a1_1 a1_2 a0_0 a0_1 a0_2).bind fun r6 =>
 some r6
def cvIx_l1 (n : Nat) (a0 : List (List UInt32 × (UInt8 × List UInt8))) (a1_0 : List UInt32) (a1_1 : UInt8) (a1_2 : List UInt8) : Nat → Int → Option (Int)
 | 0, _ => none
 | fu_l1 + 1, i8_2 =>
  bif (decide (i8_2 < ((a0.length : Nat) : Int))) then
   gd (0 ≤ i8_2) <|
   gd (i8_2 < ((a0.length : Nat) : Int)) <|
   (cv1 n ((a0.getD i8_2.toNat ([], (0, []))).1) ((a0.getD i8_2.toNat ([], (0, []))).2.1) ((a0.getD i8_2.toNat ([], (0, []))).2.2) a1_0 a1_1 a1_2).bind fun r16_3 =>
   bif r16_3 then
    some i8_2
   else
    gd (okI .i64 (i8_2 + 1)) <|
    (cvIx_l1 n a0 a1_0 a1_1 a1_2 fu_l1) (i8_2 + 1)
  else
   some (-1)
def cvIx (n : Nat) (a0 : List (List UInt32 × (UInt8 × List UInt8))) (a1_0 : List UInt32) (a1_1 : UInt8) (a1_2 : List UInt8) : Option (Int) :=
 cvIx_l1 n a0 a1_0 a1_1 a1_2 n 0
def cvCF (n : Nat) (a0 : List (List UInt32 × (UInt8 × List UInt8))) (a1_0 : List UInt32) (a1_1 : UInt8) (a1_2 : List UInt8) : Option (Bool) :=
 (cvIx n a0 a1_0 a1_1 a1_2).bind fun r7 =>
 some (decide ((0 : Int) ≤ r7))
def covers_l1 (n : Nat) (a0 : List (List UInt32 × (UInt8 × List UInt8))) (a1 : List (List UInt32 × (UInt8 × List UInt8))) : Nat → Int → Option (Bool)
 | 0, _ => none
 | fu_l1 + 1, i9_2 =>
  bif (decide (i9_2 < ((a0.length : Nat) : Int))) then
   gd (0 ≤ i9_2) <|
   gd (i9_2 < ((a0.length : Nat) : Int)) <|
   (cvCF n a1 ((a0.getD i9_2.toNat ([], (0, []))).1) ((a0.getD i9_2.toNat ([], (0, []))).2.1) ((a0.getD i9_2.toNat ([], (0, []))).2.2)).bind fun r15_3 =>
   bif (!r15_3) then
    some false
   else
    gd (okI .i64 (i9_2 + 1)) <|
    (covers_l1 n a0 a1 fu_l1) (i9_2 + 1)
  else
   some true
def covers (n : Nat) (a0 : List (List UInt32 × (UInt8 × List UInt8))) (a1 : List (List UInt32 × (UInt8 × List UInt8))) : Option (Bool) :=
 covers_l1 n a0 a1 n 0
def sAlike_l1 (n : Nat) (a0 : List (List (List UInt32 × (UInt8 × List UInt8)))) (a1 : List (List (List UInt32 × (UInt8 × List UInt8)))) : Nat → Int → Option (Bool)
 | 0, _ => none
 | fu_l1 + 1, i13_2 =>
  bif (decide (i13_2 < ((a0.length : Nat) : Int))) then
   gd (0 ≤ i13_2) <|
   gd (i13_2 < ((a0.length : Nat) : Int)) <|
   gd (0 ≤ i13_2) <|
   gd (i13_2 < ((a1.length : Nat) : Int)) <|
   (covers n (a0.getD i13_2.toNat []) (a1.getD i13_2.toNat [])).bind fun r24_3 =>
   bif (!r24_3) then
    some false
   else
    gd (0 ≤ i13_2) <|
    gd (i13_2 < ((a1.length : Nat) : Int)) <|
    gd (0 ≤ i13_2) <|
    gd (i13_2 < ((a0.length : Nat) : Int)) <|
    (covers n (a1.getD i13_2.toNat []) (a0.getD i13_2.toNat [])).bind fun r35_3 =>
    bif (!r35_3) then
     some false
    else
     gd (okI .i64 (i13_2 + 1)) <|
     (sAlike_l1 n a0 a1 fu_l1) (i13_2 + 1)
  else
   some true
def sAlike (n : Nat) (a0 : List (List (List UInt32 × (UInt8 × List UInt8)))) (a1 : List (List (List UInt32 × (UInt8 × List UInt8)))) : Option (Bool) :=
 bif (((a0.length : Nat) : Int) != ((a1.length : Nat) : Int)) then
 some false
 else
 sAlike_l1 n a0 a1 n 0
def sWithin (n : Nat) (a0 : List (List (List UInt32 × (UInt8 × List UInt8)))) (a1 : List (List (List UInt32 × (UInt8 × List UInt8)))) : Option (Bool) :=
 bif (decide (((a1.length : Nat) : Int) ≤ ((a0.length : Nat) : Int))) then
  gd (0 ≤ ((a1.length : Nat) : Int)) <|
  gd (((a1.length : Nat) : Int) ≤ ((a0.length : Nat) : Int)) <|
  (sAlike n ((a0.drop 0).take (((a1.length : Nat) : Int).toNat)) a1).bind fun r16 =>
  some r16
 else
  some false
def lup (n : Nat) : Option (Bool) :=
 (sPlain n [32, 32, 65, 98, 32, 32, 67, 32]).bind fun r3 =>
 bif (r3 == ([97, 98, 32, 99] : List UInt8)) then
  (sWithin n ([([([], (0, [97]))] : List (List UInt32 × (UInt8 × List UInt8)))] : List (List (List UInt32 × (UInt8 × List UInt8)))) ([] : List (List (List UInt32 × (UInt8 × List UInt8))))).bind fun r12 =>
  bif r12 then
   (sWithin n ([] : List (List (List UInt32 × (UInt8 × List UInt8)))) ([([([], (0, [97]))] : List (List UInt32 × (UInt8 × List UInt8)))] : List (List (List UInt32 × (UInt8 × List UInt8))))).bind fun r20 =>
   some (!r20)
  else
   some false
 else
  some false
def lOrder (n : Nat) (a0 : List (List (List UInt32 × (UInt8 × List UInt8)))) (a1 : List (List (List UInt32 × (UInt8 × List UInt8)))) (a2 : List (List (List UInt32 × (UInt8 × List UInt8)))) : Option (Bool) :=
 (lup n).bind fun r8 =>
 (light n a0).bind fun r10 =>
 bif (!r10) then
  some r8
 else
  (light n a1).bind fun r14 =>
  bif (!r14) then
   some r8
  else
   (light n a2).bind fun r19 =>
   bif (!r19) then
    some r8
   else
    (sAlike n a0 a0).bind fun r25 =>
    bif (!r25) then
     some false
    else
     (sWithin n a0 a0).bind fun r30 =>
     bif (!r30) then
      some false
     else
      (sAlike n a0 a1).bind fun r36 =>
      (sAlike n a1 a0).bind fun r39 =>
      bif (!(r36 == r39)) then
       some false
      else
       (sAlike n a0 a1).bind fun r44 =>
       bif r44 then
        (sAlike n a1 a2).bind fun r48 =>
        bif r48 then
         (sAlike n a0 a2).bind fun r53 =>
         bif (!r53) then
          some false
         else
          (sWithin n a0 a1).bind fun r58 =>
          bif r58 then
           (sWithin n a1 a2).bind fun r62 =>
           bif r62 then
            (sWithin n a0 a2).bind fun r67 =>
            bif (!r67) then
             some false
            else
             bif r8 then
              (sWithin n a0 a1).bind fun r74 =>
              bif r74 then
               (sWithin n a1 a0).bind fun r78 =>
               (sAlike n a0 a1).bind fun r82 =>
               some (r78 == r82)
              else
               (sAlike n a0 a1).bind fun r82 =>
               some (false == r82)
             else
              some false
           else
            bif r8 then
             (sWithin n a0 a1).bind fun r74 =>
             bif r74 then
              (sWithin n a1 a0).bind fun r78 =>
              (sAlike n a0 a1).bind fun r82 =>
              some (r78 == r82)
             else
              (sAlike n a0 a1).bind fun r82 =>
              some (false == r82)
            else
             some false
          else
           bif r8 then
            (sWithin n a0 a1).bind fun r74 =>
            bif r74 then
             (sWithin n a1 a0).bind fun r78 =>
             (sAlike n a0 a1).bind fun r82 =>
             some (r78 == r82)
            else
             (sAlike n a0 a1).bind fun r82 =>
             some (false == r82)
           else
            some false
        else
         (sWithin n a0 a1).bind fun r58 =>
         bif r58 then
          (sWithin n a1 a2).bind fun r62 =>
          bif r62 then
           (sWithin n a0 a2).bind fun r67 =>
           bif (!r67) then
            some false
           else
            bif r8 then
             (sWithin n a0 a1).bind fun r74 =>
             bif r74 then
              (sWithin n a1 a0).bind fun r78 =>
              (sAlike n a0 a1).bind fun r82 =>
              some (r78 == r82)
             else
              (sAlike n a0 a1).bind fun r82 =>
              some (false == r82)
            else
             some false
          else
           bif r8 then
            (sWithin n a0 a1).bind fun r74 =>
            bif r74 then
             (sWithin n a1 a0).bind fun r78 =>
             (sAlike n a0 a1).bind fun r82 =>
             some (r78 == r82)
            else
             (sAlike n a0 a1).bind fun r82 =>
             some (false == r82)
           else
            some false
         else
          bif r8 then
           (sWithin n a0 a1).bind fun r74 =>
           bif r74 then
            (sWithin n a1 a0).bind fun r78 =>
            (sAlike n a0 a1).bind fun r82 =>
            some (r78 == r82)
           else
            (sAlike n a0 a1).bind fun r82 =>
            some (false == r82)
          else
           some false
       else
        (sWithin n a0 a1).bind fun r58 =>
        bif r58 then
         (sWithin n a1 a2).bind fun r62 =>
         bif r62 then
          (sWithin n a0 a2).bind fun r67 =>
          bif (!r67) then
           some false
          else
           bif r8 then
            (sWithin n a0 a1).bind fun r74 =>
            bif r74 then
             (sWithin n a1 a0).bind fun r78 =>
             (sAlike n a0 a1).bind fun r82 =>
             some (r78 == r82)
            else
             (sAlike n a0 a1).bind fun r82 =>
             some (false == r82)
           else
            some false
         else
          bif r8 then
           (sWithin n a0 a1).bind fun r74 =>
           bif r74 then
            (sWithin n a1 a0).bind fun r78 =>
            (sAlike n a0 a1).bind fun r82 =>
            some (r78 == r82)
           else
            (sAlike n a0 a1).bind fun r82 =>
            some (false == r82)
          else
           some false
        else
         bif r8 then
          (sWithin n a0 a1).bind fun r74 =>
          bif r74 then
           (sWithin n a1 a0).bind fun r78 =>
           (sAlike n a0 a1).bind fun r82 =>
           some (r78 == r82)
          else
           (sAlike n a0 a1).bind fun r82 =>
           some (false == r82)
         else
          some false
def cv1_R (r : Bool) : S := ⟨[(3, kB r)], [], []⟩
def cv1_ct (n : Nat) (r : Bool) : Ct := ctc (rSt (lC (cW 92) (lC cU8 (lC (cB 5) lN)))).rd fun _ y0 => ctc (rPt 46 (lC (cW 92) (lC cU8 (lC (cB 5) lN)))).rd fun _ y1 => ct0 fun H => ([cv1 n y0.1 y0.2.1 y0.2.2.1 y1.1 y1.2.1 y1.2.2.1 = some r], shA H.length (kB r), shH H.length [])
theorem cv1_ok (n : Nat) (r : Bool) : FnOk Try.prog Tr 38 (cv1_ct n r) := by
 refine fnok Try.func38 ?_
 refine HO_c (rSt (lC (cW 92) (lC cU8 (lC (cB 5) lN)))) fun p0 _ => ?_
 obtain ⟨l0_0, l0_1, l0_2, _⟩ := p0
 refine HO_c (rPt 46 (lC (cW 92) (lC cU8 (lC (cB 5) lN)))) fun p1 _ => ?_
 obtain ⟨l1_0, l1_1, l1_2, _⟩ := p1
 refine HO_0 tabO_npb (cv1_R r) [.tmp 3] [] 7 Try.func38 fun w hG h => ?_
 have h : cv1 n l0_0 l0_1 l0_2 l1_0 l1_1 l1_2 = some r := h
 unfold cv1 at h
 have hT := tabO_npb
 refine Vrs hT [4, 2, 3, 5, 0, 1] ⟨[(1, kP 0 0), (2, kP 3 0)], [], [⟨(.ro false), 46, 1, 3, .c [.wh 1, .s (.u8 l1_1), .wh 2]⟩, ow 92 l1_0, ob 5 l1_2, ⟨.blk, 46, 1, 3, .c [.wh 4, .s (.u8 l0_1), .wh 5]⟩, ow 92 l0_0, ob 5 l0_2]⟩ ?_
 obtain ⟨g1, h⟩ := gd_some h
 obtain ⟨r6, g2, h⟩ := bind_some' h
 refine Vgs hT (fT 2 (like_ok n r6) fN) [] [] [] ⟨[(3, kB r6)], [], []⟩ (aP g1 (aP g2 aN)) ?_
 refine Vc [] [] (cv1_R r6) (W_ret ?_)
 exact ⟨.inl rfl, by cases h; rfl⟩
def cvIx_l1_E (a0 : List (List UInt32 × (UInt8 × List UInt8))) (a1_0 : List UInt32) (a1_1 : UInt8) (a1_2 : List UInt8) (i8_2 : Int) : S := ⟨[(0, kH 0), (1, .c (.fp 38 1 0)), (7, kI ((a0.length : Nat) : Int)), (8, kI i8_2)], [], [⟨.dp, 46, 3, a0.length, .d (.pr (.wo 92) (.pr .u8 (.by 5))) a0⟩, ⟨(.ro false), 46, 1, 3, .c [.wh 2, .s (.u8 a1_1), .wh 3]⟩, ow 92 a1_0, ob 5 a1_2]⟩
abbrev cvIx_l1_P (n : Nat) (a0 : List (List UInt32 × (UInt8 × List UInt8))) (a1_0 : List UInt32) (a1_1 : UInt8) (a1_2 : List UInt8) (r : Int) (fu : Nat) : S → Prop := fun s => ∃ (i8_2 : Int), s = cvIx_l1_E a0 a1_0 a1_1 a1_2 i8_2 ∧ cvIx_l1 n a0 a1_0 a1_1 a1_2 fu i8_2 = some r
def cvIx_R (r : Int) : S := ⟨[(4, kI r)], [], []⟩
def cvIx_ct (n : Nat) (r : Int) : Ct := ctc (rD 46 (.pr (.wo 92) (.pr .u8 (.by 5)))).rd fun _ l0 => ctc (rCl 38 46 (lC (cW 92) (lC cU8 (lC (cB 5) lN)))).rd fun _ y1 => ct0 fun H => ([cvIx n l0 y1.1 y1.2.1 y1.2.2.1 = some r], shA H.length (kI r), shH H.length [])
theorem cvIx_ok (n : Nat) (r : Int) : FnOk Try.prog Tr 60 (cvIx_ct n r) := by
 refine fnok Try.func60 ?_
 refine HO_c (rD 46 (.pr (.wo 92) (.pr .u8 (.by 5)))) fun (l0 : List (List UInt32 × (UInt8 × List UInt8))) _ => HO_c (rCl 38 46 (lC (cW 92) (lC cU8 (lC (cB 5) lN)))) fun p1 _ => ?_
 obtain ⟨l1_0, l1_1, l1_2, _⟩ := p1
 refine HO_0 tabO_npb (cvIx_R r) [.tmp 4] [] 19 Try.func60 fun w hG h => ?_
 have h : cvIx n l0 l1_0 l1_1 l1_2 = some r := h
 unfold cvIx at h
 have hT := tabO_npb
 refine Vrs hT [0, 3, 1, 2] ⟨[(0, kH 0), (1, .c (.fp 38 1 0))], [], [⟨.dp, 46, 3, l0.length, .d (.pr (.wo 92) (.pr .u8 (.by 5))) l0⟩, ⟨(.ro false), 46, 1, 3, .c [.wh 2, .s (.u8 l1_1), .wh 3]⟩, ow 92 l1_0, ob 5 l1_2]⟩ ?_
 refine W_seq ?_
 refine Vrs hT [0, 1, 2, 3] ⟨[(0, kH 0), (1, .c (.fp 38 1 0)), (7, kI ((l0.length : Nat) : Int)), (8, kI 0)], [], [⟨.dp, 46, 3, l0.length, .d (.pr (.wo 92) (.pr .u8 (.by 5))) l0⟩, ⟨(.ro false), 46, 1, 3, .c [.wh 2, .s (.u8 l1_1), .wh 3]⟩, ow 92 l1_0, ob 5 l1_2]⟩ ?_
 refine W_block ?_
 refine Vc [] [0, 1, 2, 3] (cvIx_l1_E l0 l1_0 l1_1 l1_2 0) (W_lp ((cvIx_l1_P n l0 l1_0 l1_1 l1_2 r)) n ⟨_, rfl, h⟩ ?_)
 rintro fu_l1 _ ⟨i8_2, rfl, h⟩
 cases fu_l1 with
 | zero => cases h
 | succ fu_l1 =>
  refine ⟨fu_l1, rfl, ?_⟩
  rw [cvIx_l1] at h
  refine Vrs hT [0, 1, 2, 3] ⟨[(0, kH 0), (1, .c (.fp 38 1 0)), (7, kI ((l0.length : Nat) : Int)), (8, kI i8_2), (9, kB (decide (i8_2 < ((l0.length : Nat) : Int))))], [], [⟨.dp, 46, 3, l0.length, .d (.pr (.wo 92) (.pr .u8 (.by 5))) l0⟩, ⟨(.ro false), 46, 1, 3, .c [.wh 2, .s (.u8 l1_1), .wh 3]⟩, ow 92 l1_0, ob 5 l1_2]⟩ ?_
  refine W_seq ?_
  refine Vi ((decide (i8_2 < ((l0.length : Nat) : Int)))) (fun g6 => ?_) (fun g6 => ?_)
  ·replace h := bif_t h g6
   refine W_skip ?_
   refine W_seq ?_
   refine W_block ?_
   refine Vrs hT [0, 1, 2, 3] ⟨[(0, kH 0), (1, .c (.fp 38 1 0)), (5, kI i8_2), (7, kI ((l0.length : Nat) : Int)), (8, kI i8_2)], [], [⟨.dp, 46, 3, l0.length, .d (.pr (.wo 92) (.pr .u8 (.by 5))) l0⟩, ⟨(.ro false), 46, 1, 3, .c [.wh 2, .s (.u8 l1_1), .wh 3]⟩, ow 92 l1_0, ob 5 l1_2]⟩ ?_
   obtain ⟨g1, g2, h⟩ := gd2 h
   obtain ⟨r16_3, g3, h⟩ := bind_some' h
   refine Vgs hT (fT 5 (cv1_ok n r16_3) fN) [] [] [0, 1, 2, 3] ⟨[(0, kH 0), (1, .c (.fp 38 1 0)), (5, kI i8_2), (7, kI ((l0.length : Nat) : Int)), (8, kI i8_2), (16, kB r16_3)], [], [⟨.dp, 46, 3, l0.length, .d (.pr (.wo 92) (.pr .u8 (.by 5))) l0⟩, ⟨(.ro false), 46, 1, 3, .c [.wh 2, .s (.u8 l1_1), .wh 3]⟩, ow 92 l1_0, ob 5 l1_2]⟩ (aP g1 (aP g2 (aP g3 aN))) ?_
   refine Vi (r16_3) (fun g5 => ?_) (fun g5 => ?_)
   ·replace h := bif_t h g5
    refine Vrs hT [] ⟨[(4, kI i8_2)], [], []⟩ ?_
    refine Vc [] [] (cvIx_R i8_2) (W_ret ?_)
    exact ⟨.inl rfl, by cases h; rfl⟩
   ·replace h := bif_f h g5
    refine W_skip ?_
    obtain ⟨g4, h⟩ := gd_some h
    refine Vg hT fN [] [] [0, 1, 2, 3] (cvIx_l1_E l0 l1_0 l1_1 l1_2 (i8_2 + 1)) (aP g4 aN) ?_
    exact ⟨_, rfl, h⟩
  ·replace h := bif_f h g6
   refine Vc [] [] ⟨[], [], []⟩ (W_exit ?_)
   refine Vrs hT [] ⟨[(4, kI (-1))], [], []⟩ ?_
   refine Vc [] [] (cvIx_R (-1)) (W_ret ?_)
   exact ⟨.inl rfl, by cases h; rfl⟩
def cvCF_R (r : Bool) : S := ⟨[(4, kB r)], [], []⟩
def cvCF_ct (n : Nat) (r : Bool) : Ct := ctc (rD 46 (.pr (.wo 92) (.pr .u8 (.by 5)))).rd fun _ l0 => ctc (rCl 38 46 (lC (cW 92) (lC cU8 (lC (cB 5) lN)))).rd fun _ y1 => ct0 fun H => ([cvCF n l0 y1.1 y1.2.1 y1.2.2.1 = some r], shA H.length (kB r), shH H.length [])
theorem cvCF_ok (n : Nat) (r : Bool) : FnOk Try.prog Tr 37 (cvCF_ct n r) := by
 refine fnok Try.func37 ?_
 refine HO_c (rD 46 (.pr (.wo 92) (.pr .u8 (.by 5)))) fun (l0 : List (List UInt32 × (UInt8 × List UInt8))) _ => HO_c (rCl 38 46 (lC (cW 92) (lC cU8 (lC (cB 5) lN)))) fun p1 _ => ?_
 obtain ⟨l1_0, l1_1, l1_2, _⟩ := p1
 refine HO_0 tabO_npb (cvCF_R r) [.tmp 4] [] 9 Try.func37 fun w hG h => ?_
 have h : cvCF n l0 l1_0 l1_1 l1_2 = some r := h
 unfold cvCF at h
 have hT := tabO_npb
 refine Vrs hT [0, 3, 1, 2] ⟨[(0, kH 0), (1, .c (.fp 38 1 0))], [], [⟨.dp, 46, 3, l0.length, .d (.pr (.wo 92) (.pr .u8 (.by 5))) l0⟩, ⟨(.ro false), 46, 1, 3, .c [.wh 2, .s (.u8 l1_1), .wh 3]⟩, ow 92 l1_0, ob 5 l1_2]⟩ ?_
 obtain ⟨r7, g1, h⟩ := bind_some' h
 refine Vgs hT (fT 2 (cvIx_ok n r7) fN) [] [] [] ⟨[(4, kB (decide ((0 : Int) ≤ r7)))], [], []⟩ (aP g1 aN) ?_
 refine Vc [] [] (cvCF_R (decide ((0 : Int) ≤ r7))) (W_ret ?_)
 exact ⟨.inl rfl, by cases h; rfl⟩
def covers_l1_E (a0 : List (List UInt32 × (UInt8 × List UInt8))) (a1 : List (List UInt32 × (UInt8 × List UInt8))) (i9_2 : Int) : S := ⟨[(1, kH 0), (7, kH 1), (8, kI ((a0.length : Nat) : Int)), (9, kI i9_2)], [], [⟨.dp, 46, 3, a1.length, .d (.pr (.wo 92) (.pr .u8 (.by 5))) a1⟩, ⟨.dp, 46, 3, a0.length, .d (.pr (.wo 92) (.pr .u8 (.by 5))) a0⟩]⟩
abbrev covers_l1_P (n : Nat) (a0 : List (List UInt32 × (UInt8 × List UInt8))) (a1 : List (List UInt32 × (UInt8 × List UInt8))) (r : Bool) (fu : Nat) : S → Prop := fun s => ∃ (i9_2 : Int), s = covers_l1_E a0 a1 i9_2 ∧ covers_l1 n a0 a1 fu i9_2 = some r
def covers_R (r : Bool) : S := ⟨[(4, kB r)], [], []⟩
def covers_ct (n : Nat) (r : Bool) : Ct := ctc (rD 46 (.pr (.wo 92) (.pr .u8 (.by 5)))).rd fun _ l0 => ctc (rD 46 (.pr (.wo 92) (.pr .u8 (.by 5)))).rd fun _ l1 => ct0 fun H => ([covers n l0 l1 = some r], shA H.length (kB r), shH H.length [])
theorem covers_ok (n : Nat) (r : Bool) : FnOk Try.prog Tr 24 (covers_ct n r) := by
 refine fnok Try.func24 ?_
 refine HO_c (rD 46 (.pr (.wo 92) (.pr .u8 (.by 5)))) fun (l0 : List (List UInt32 × (UInt8 × List UInt8))) _ => HO_c (rD 46 (.pr (.wo 92) (.pr .u8 (.by 5)))) fun (l1 : List (List UInt32 × (UInt8 × List UInt8))) _ => HO_0 tabO_npb (covers_R r) [.tmp 4] [] 18 Try.func24 fun w hG h => ?_
 unfold covers at h
 have hT := tabO_npb
 refine Vrs hT [0, 1] ⟨[(0, kH 0), (1, kH 1)], [], [⟨.dp, 46, 3, l0.length, .d (.pr (.wo 92) (.pr .u8 (.by 5))) l0⟩, ⟨.dp, 46, 3, l1.length, .d (.pr (.wo 92) (.pr .u8 (.by 5))) l1⟩]⟩ ?_
 refine W_seq ?_
 refine Vrs hT [1, 0] ⟨[(1, kH 0), (7, kH 1), (8, kI ((l0.length : Nat) : Int)), (9, kI 0)], [], [⟨.dp, 46, 3, l1.length, .d (.pr (.wo 92) (.pr .u8 (.by 5))) l1⟩, ⟨.dp, 46, 3, l0.length, .d (.pr (.wo 92) (.pr .u8 (.by 5))) l0⟩]⟩ ?_
 refine W_block ?_
 refine Vc [] [0, 1] (covers_l1_E l0 l1 0) (W_lp ((covers_l1_P n l0 l1 r)) n ⟨_, rfl, h⟩ ?_)
 rintro fu_l1 _ ⟨i9_2, rfl, h⟩
 cases fu_l1 with
 | zero => cases h
 | succ fu_l1 =>
  refine ⟨fu_l1, rfl, ?_⟩
  rw [covers_l1] at h
  refine Vrs hT [0, 1] ⟨[(1, kH 0), (7, kH 1), (8, kI ((l0.length : Nat) : Int)), (9, kI i9_2), (10, kB (decide (i9_2 < ((l0.length : Nat) : Int))))], [], [⟨.dp, 46, 3, l1.length, .d (.pr (.wo 92) (.pr .u8 (.by 5))) l1⟩, ⟨.dp, 46, 3, l0.length, .d (.pr (.wo 92) (.pr .u8 (.by 5))) l0⟩]⟩ ?_
  refine W_seq ?_
  refine Vi ((decide (i9_2 < ((l0.length : Nat) : Int)))) (fun g6 => ?_) (fun g6 => ?_)
  ·replace h := bif_t h g6
   refine W_skip ?_
   refine W_seq ?_
   refine W_block ?_
   obtain ⟨g1, g2, h⟩ := gd2 h
   refine Vgs hT fN [] [] [0, 2, 1] ⟨[(1, kH 0), (6, kP 1 0), (7, kH 2), (8, kI ((l0.length : Nat) : Int)), (9, kI i9_2)], [], [⟨.dp, 46, 3, l1.length, .d (.pr (.wo 92) (.pr .u8 (.by 5))) l1⟩, ⟨.blk, 46, 1, 3, .c [.dv 2 [(i9_2.toNat, 0)], .s (.u8 ((l0.getD i9_2.toNat ([], (0, []))).2.1)), .dv 2 [(i9_2.toNat, 2)]]⟩, ⟨.dp, 46, 3, l0.length, .d (.pr (.wo 92) (.pr .u8 (.by 5))) l0⟩]⟩ (aP g1 (aP g2 aN)) ?_
   obtain ⟨r15_3, g3, h⟩ := bind_some' h
   refine Vgs hT (fT 2 (cvCF_ok n r15_3) fN) [] [] [0, 2] ⟨[(1, kH 0), (7, kH 1), (8, kI ((l0.length : Nat) : Int)), (9, kI i9_2), (16, kB (!r15_3))], [], [⟨.dp, 46, 3, l1.length, .d (.pr (.wo 92) (.pr .u8 (.by 5))) l1⟩, ⟨.dp, 46, 3, l0.length, .d (.pr (.wo 92) (.pr .u8 (.by 5))) l0⟩]⟩ (aP g3 aN) ?_
   refine Vi ((!r15_3)) (fun g5 => ?_) (fun g5 => ?_)
   ·replace h := bif_t h g5
    refine Vrs hT [] ⟨[(4, kB false)], [], []⟩ ?_
    refine Vc [] [] (covers_R false) (W_ret ?_)
    exact ⟨.inl rfl, by cases h; rfl⟩
   ·replace h := bif_f h g5
    refine W_skip ?_
    obtain ⟨g4, h⟩ := gd_some h
    refine Vg hT fN [] [] [0, 1] (covers_l1_E l0 l1 (i9_2 + 1)) (aP g4 aN) ?_
    exact ⟨_, rfl, h⟩
  ·replace h := bif_f h g6
   refine Vc [] [] ⟨[], [], []⟩ (W_exit ?_)
   refine Vrs hT [] ⟨[(4, kB true)], [], []⟩ ?_
   refine Vc [] [] (covers_R true) (W_ret ?_)
   exact ⟨.inl rfl, by cases h; rfl⟩
def sAlike_l1_E (a0 : List (List (List UInt32 × (UInt8 × List UInt8)))) (a1 : List (List (List UInt32 × (UInt8 × List UInt8)))) (i13_2 : Int) : S := ⟨[(0, kH 0), (1, kH 1), (12, kI ((a0.length : Nat) : Int)), (13, kI i13_2)], [], [⟨.dp, 47, 1, a0.length, .d (.sl 46 (.pr (.wo 92) (.pr .u8 (.by 5)))) a0⟩, ⟨.dp, 47, 1, a1.length, .d (.sl 46 (.pr (.wo 92) (.pr .u8 (.by 5)))) a1⟩]⟩
abbrev sAlike_l1_P (n : Nat) (a0 : List (List (List UInt32 × (UInt8 × List UInt8)))) (a1 : List (List (List UInt32 × (UInt8 × List UInt8)))) (r : Bool) (fu : Nat) : S → Prop := fun s => ∃ (i13_2 : Int), s = sAlike_l1_E a0 a1 i13_2 ∧ sAlike_l1 n a0 a1 fu i13_2 = some r
def sAlike_R (r : Bool) : S := ⟨[(4, kB r)], [], []⟩
def sAlike_ct (n : Nat) (r : Bool) : Ct := ctc (rD 47 (.sl 46 (.pr (.wo 92) (.pr .u8 (.by 5))))).rd fun _ l0 => ctc (rD 47 (.sl 46 (.pr (.wo 92) (.pr .u8 (.by 5))))).rd fun _ l1 => ct0 fun H => ([sAlike n l0 l1 = some r], shA H.length (kB r), shH H.length [])
theorem sAlike_ok (n : Nat) (r : Bool) : FnOk Try.prog Tr 14 (sAlike_ct n r) := by
 refine fnok Try.func14 ?_
 refine HO_c (rD 47 (.sl 46 (.pr (.wo 92) (.pr .u8 (.by 5))))) fun (l0 : List (List (List UInt32 × (UInt8 × List UInt8)))) _ => HO_c (rD 47 (.sl 46 (.pr (.wo 92) (.pr .u8 (.by 5))))) fun (l1 : List (List (List UInt32 × (UInt8 × List UInt8)))) _ => HO_0 tabO_npb (sAlike_R r) [.tmp 4] [] 39 Try.func14 fun w hG h => ?_
 unfold sAlike at h
 have hT := tabO_npb
 refine Vrs hT [0, 1] ⟨[(0, kH 0), (1, kH 1)], [], [⟨.dp, 47, 1, l0.length, .d (.sl 46 (.pr (.wo 92) (.pr .u8 (.by 5)))) l0⟩, ⟨.dp, 47, 1, l1.length, .d (.sl 46 (.pr (.wo 92) (.pr .u8 (.by 5)))) l1⟩]⟩ ?_
 refine W_seq ?_
 refine Vrs hT [0, 1] ⟨[(0, kH 0), (1, kH 1), (10, kB (((l0.length : Nat) : Int) != ((l1.length : Nat) : Int)))], [], [⟨.dp, 47, 1, l0.length, .d (.sl 46 (.pr (.wo 92) (.pr .u8 (.by 5)))) l0⟩, ⟨.dp, 47, 1, l1.length, .d (.sl 46 (.pr (.wo 92) (.pr .u8 (.by 5)))) l1⟩]⟩ ?_
 refine Vi ((((l0.length : Nat) : Int) != ((l1.length : Nat) : Int))) (fun g15 => ?_) (fun g15 => ?_)
 ·replace h := bif_t h g15
  refine Vrs hT [] ⟨[(4, kB false)], [], []⟩ ?_
  refine Vc [] [] (sAlike_R false) (W_ret ?_)
  exact ⟨.inl rfl, by cases h; rfl⟩
 ·replace h := bif_f h g15
  refine W_skip ?_
  refine W_seq ?_
  refine Vrs hT [0, 1] ⟨[(0, kH 0), (1, kH 1), (12, kI ((l0.length : Nat) : Int)), (13, kI 0)], [], [⟨.dp, 47, 1, l0.length, .d (.sl 46 (.pr (.wo 92) (.pr .u8 (.by 5)))) l0⟩, ⟨.dp, 47, 1, l1.length, .d (.sl 46 (.pr (.wo 92) (.pr .u8 (.by 5)))) l1⟩]⟩ ?_
  refine W_block ?_
  refine Vc [] [0, 1] (sAlike_l1_E l0 l1 0) (W_lp ((sAlike_l1_P n l0 l1 r)) n ⟨_, rfl, h⟩ ?_)
  rintro fu_l1 _ ⟨i13_2, rfl, h⟩
  cases fu_l1 with
  | zero => cases h
  | succ fu_l1 =>
   refine ⟨fu_l1, rfl, ?_⟩
   rw [sAlike_l1] at h
   refine Vrs hT [0, 1] ⟨[(0, kH 0), (1, kH 1), (12, kI ((l0.length : Nat) : Int)), (13, kI i13_2), (14, kB (decide (i13_2 < ((l0.length : Nat) : Int))))], [], [⟨.dp, 47, 1, l0.length, .d (.sl 46 (.pr (.wo 92) (.pr .u8 (.by 5)))) l0⟩, ⟨.dp, 47, 1, l1.length, .d (.sl 46 (.pr (.wo 92) (.pr .u8 (.by 5)))) l1⟩]⟩ ?_
   refine W_seq ?_
   refine Vi ((decide (i13_2 < ((l0.length : Nat) : Int)))) (fun g14 => ?_) (fun g14 => ?_)
   ·replace h := bif_t h g14
    refine W_skip ?_
    refine W_seq ?_
    refine W_block ?_
    refine Vrs hT [0, 1] ⟨[(0, kH 0), (1, kH 1), (5, kI i13_2), (12, kI ((l0.length : Nat) : Int)), (13, kI i13_2)], [], [⟨.dp, 47, 1, l0.length, .d (.sl 46 (.pr (.wo 92) (.pr .u8 (.by 5)))) l0⟩, ⟨.dp, 47, 1, l1.length, .d (.sl 46 (.pr (.wo 92) (.pr .u8 (.by 5)))) l1⟩]⟩ ?_
    refine W_seq ?_
    obtain ⟨g1, g2, g3, g4, h⟩ := gd4 h
    obtain ⟨r24_3, g5, h⟩ := bind_some' h
    rcases Bool.eq_false_or_eq_true (!r24_3) with g6 | g6
    ·replace h := bif_t h g6
     refine Vd hT (fT 8 (covers_ok n r24_3) fN) 20 [(10, true)] [(0, false), (1, false), (12, false), (13, false), (26, false), (35, false)] [] [0, 1] ⟨[(0, kH 0), (1, kH 1), (12, kI ((l0.length : Nat) : Int)), (13, kI i13_2), (37, kB true)], [], [⟨.dp, 47, 1, l0.length, .d (.sl 46 (.pr (.wo 92) (.pr .u8 (.by 5)))) l0⟩, ⟨.dp, 47, 1, l1.length, .d (.sl 46 (.pr (.wo 92) (.pr .u8 (.by 5)))) l1⟩]⟩ (aP g1 (aP g2 (aP g3 (aP g4 (aP g5 (aP g6 aN)))))) ?_
     refine Vi (true) (fun _ => ?_) (fun hb => by cases hb)
     refine Vrs hT [] ⟨[(4, kB false)], [], []⟩ ?_
     refine Vc [] [] (sAlike_R false) (W_ret ?_)
     exact ⟨.inl rfl, by cases h; rfl⟩
    ·replace h := bif_f h g6
     obtain ⟨g7, g8, g9, g10, h⟩ := gd4 h
     obtain ⟨r35_3, g11, h⟩ := bind_some' h
     refine Vd hT (fT 8 (covers_ok n r24_3) (fT 19 (covers_ok n r35_3) fN)) 20 [(10, false)] [(0, false), (1, false), (12, false), (13, false), (26, false), (35, false)] [] [0, 1] ⟨[(0, kH 0), (1, kH 1), (12, kI ((l0.length : Nat) : Int)), (13, kI i13_2), (37, kB (!r35_3))], [], [⟨.dp, 47, 1, l0.length, .d (.sl 46 (.pr (.wo 92) (.pr .u8 (.by 5)))) l0⟩, ⟨.dp, 47, 1, l1.length, .d (.sl 46 (.pr (.wo 92) (.pr .u8 (.by 5)))) l1⟩]⟩ (aP g1 (aP g2 (aP g3 (aP g4 (aP g5 (aP g6 (aP g7 (aP g8 (aP g9 (aP g10 (aP g11 aN))))))))))) ?_
     refine Vi ((!r35_3)) (fun g13 => ?_) (fun g13 => ?_)
     ·replace h := bif_t h g13
      refine Vrs hT [] ⟨[(4, kB false)], [], []⟩ ?_
      refine Vc [] [] (sAlike_R false) (W_ret ?_)
      exact ⟨.inl rfl, by cases h; rfl⟩
     ·replace h := bif_f h g13
      refine W_skip ?_
      obtain ⟨g12, h⟩ := gd_some h
      refine Vg hT fN [] [] [0, 1] (sAlike_l1_E l0 l1 (i13_2 + 1)) (aP g12 aN) ?_
      exact ⟨_, rfl, h⟩
   ·replace h := bif_f h g14
    refine Vc [] [] ⟨[], [], []⟩ (W_exit ?_)
    refine Vrs hT [] ⟨[(4, kB true)], [], []⟩ ?_
    refine Vc [] [] (sAlike_R true) (W_ret ?_)
    exact ⟨.inl rfl, by cases h; rfl⟩
def sWithin_R (r : Bool) : S := ⟨[(4, kB r)], [], []⟩
def sWithin_ct (n : Nat) (r : Bool) : Ct := ctc (rD 47 (.sl 46 (.pr (.wo 92) (.pr .u8 (.by 5))))).rd fun _ l0 => ctc (rD 47 (.sl 46 (.pr (.wo 92) (.pr .u8 (.by 5))))).rd fun _ l1 => ct0 fun H => ([sWithin n l0 l1 = some r], shA H.length (kB r), shH H.length [])
theorem sWithin_ok (n : Nat) (r : Bool) : FnOk Try.prog Tr 16 (sWithin_ct n r) := by
 refine fnok Try.func16 ?_
 refine HO_c (rD 47 (.sl 46 (.pr (.wo 92) (.pr .u8 (.by 5))))) fun (l0 : List (List (List UInt32 × (UInt8 × List UInt8)))) _ => HO_c (rD 47 (.sl 46 (.pr (.wo 92) (.pr .u8 (.by 5))))) fun (l1 : List (List (List UInt32 × (UInt8 × List UInt8)))) _ => HO_0 tabO_npb (sWithin_R r) [.tmp 4] [] 18 Try.func16 fun w hG h => ?_
 unfold sWithin at h
 have hT := tabO_npb
 refine Vrs hT [0, 1] ⟨[(0, kH 0), (1, kH 1)], [], [⟨.dp, 47, 1, l0.length, .d (.sl 46 (.pr (.wo 92) (.pr .u8 (.by 5)))) l0⟩, ⟨.dp, 47, 1, l1.length, .d (.sl 46 (.pr (.wo 92) (.pr .u8 (.by 5)))) l1⟩]⟩ ?_
 refine W_seq ?_
 rcases Bool.eq_false_or_eq_true (decide (((l1.length : Nat) : Int) ≤ ((l0.length : Nat) : Int))) with g1 | g1
 ·replace h := bif_t h g1
  obtain ⟨g2, g3, h⟩ := gd2 h
  obtain ⟨r16, g4, h⟩ := bind_some' h
  refine Vg hT (fT 11 (sAlike_ok n r16) fN) [(5, true)] [] [] ⟨[(4, kB r16)], [], []⟩ (aP g1 (aP g2 (aP g3 (aP g4 aN)))) ?_
  refine Vc [] [] (sWithin_R r16) (W_ret ?_)
  exact ⟨.inl rfl, by cases h; rfl⟩
 ·replace h := bif_f h g1
  refine Vg hT fN [(5, false)] [] [] ⟨[(4, kB false)], [], []⟩ (aP g1 aN) ?_
  refine Vc [] [] (sWithin_R false) (W_ret ?_)
  exact ⟨.inl rfl, by cases h; rfl⟩
def lup_R (r : Bool) : S := ⟨[(0, kB r)], [], []⟩
def lup_ct (n : Nat) (r : Bool) : Ct := ct0 fun H => ([lup n = some r], shA H.length (kB r), shH H.length [])
theorem lup_ok (n : Nat) (r : Bool) : FnOk Try.prog Tr 10 (lup_ct n r) := by
 refine fnok Try.func10 ?_
 refine HO_0 tabO_npb (lup_R r) [.tmp 0] [] 23 Try.func10 fun w hG h => ?_
 unfold lup at h
 have hT := tabO_npb
 refine Vrs hT [] ⟨[], [], []⟩ ?_
 refine W_seq ?_
 obtain ⟨r3, g1, h⟩ := bind_some' h
 rcases Bool.eq_false_or_eq_true (r3 == ([97, 98, 32, 99] : List UInt8)) with g2 | g2
 ·replace h := bif_t h g2
  obtain ⟨r12, g3, h⟩ := bind_some' h
  rcases Bool.eq_false_or_eq_true r12 with g4 | g4
  ·replace h := bif_t h g4
   obtain ⟨r20, g5, h⟩ := bind_some' h
   refine Vg hT (fT 2 (sPlain_ok n r3) (fT 11 (sWithin_ok n r12) (fT 19 (sWithin_ok n r20) fN))) [(5, true), (13, true)] [] [] ⟨[(0, kB (!r20))], [], []⟩ (aP g1 (aP g2 (aP g3 (aP g4 (aP g5 aN))))) ?_
   refine Vc [] [] (lup_R (!r20)) (W_ret ?_)
   exact ⟨.inl rfl, by cases h; rfl⟩
  ·replace h := bif_f h g4
   refine Vg hT (fT 2 (sPlain_ok n r3) (fT 11 (sWithin_ok n r12) fN)) [(5, true), (13, false)] [] [] ⟨[(0, kB false)], [], []⟩ (aP g1 (aP g2 (aP g3 (aP g4 aN)))) ?_
   refine Vc [] [] (lup_R false) (W_ret ?_)
   exact ⟨.inl rfl, by cases h; rfl⟩
 ·replace h := bif_f h g2
  refine Vg hT (fT 2 (sPlain_ok n r3) fN) [(5, false)] [] [] ⟨[(0, kB false)], [], []⟩ (aP g1 (aP g2 aN)) ?_
  refine Vc [] [] (lup_R false) (W_ret ?_)
  exact ⟨.inl rfl, by cases h; rfl⟩
def lOrder_R (r : Bool) : S := ⟨[(6, kB r)], [], []⟩
def lOrder_ct (n : Nat) (r : Bool) : Ct := ctc (rD 47 (.sl 46 (.pr (.wo 92) (.pr .u8 (.by 5))))).rd fun _ l0 => ctc (rD 47 (.sl 46 (.pr (.wo 92) (.pr .u8 (.by 5))))).rd fun _ l1 => ctc (rD 47 (.sl 46 (.pr (.wo 92) (.pr .u8 (.by 5))))).rd fun _ l2 => ct0 fun H => ([lOrder n l0 l1 l2 = some r], shA H.length (kB r), shH H.length [])
theorem lOrder_ok (n : Nat) (r : Bool) : FnOk Try.prog Tr 5 (lOrder_ct n r) := by
 refine fnok Try.func5 ?_
 refine HO_c (rD 47 (.sl 46 (.pr (.wo 92) (.pr .u8 (.by 5))))) fun (l0 : List (List (List UInt32 × (UInt8 × List UInt8)))) _ => HO_c (rD 47 (.sl 46 (.pr (.wo 92) (.pr .u8 (.by 5))))) fun (l1 : List (List (List UInt32 × (UInt8 × List UInt8)))) _ => HO_c (rD 47 (.sl 46 (.pr (.wo 92) (.pr .u8 (.by 5))))) fun (l2 : List (List (List UInt32 × (UInt8 × List UInt8)))) _ => HO_0 tabO_npb (lOrder_R r) [.tmp 6] [] 85 Try.func5 fun w hG h => ?_
 unfold lOrder at h
 have hT := tabO_npb
 refine Vrs hT [0, 1, 2] ⟨[(0, kH 0), (1, kH 1), (2, kH 2)], [], [⟨.dp, 47, 1, l0.length, .d (.sl 46 (.pr (.wo 92) (.pr .u8 (.by 5)))) l0⟩, ⟨.dp, 47, 1, l1.length, .d (.sl 46 (.pr (.wo 92) (.pr .u8 (.by 5)))) l1⟩, ⟨.dp, 47, 1, l2.length, .d (.sl 46 (.pr (.wo 92) (.pr .u8 (.by 5)))) l2⟩]⟩ ?_
 obtain ⟨r8, g1, h⟩ := bind_some' h
 refine Vgs hT (fT 0 (lup_ok n r8) fN) [] [] [0, 1, 2] ⟨[(0, kH 0), (1, kH 1), (2, kH 2), (7, kB r8)], [], [⟨.dp, 47, 1, l0.length, .d (.sl 46 (.pr (.wo 92) (.pr .u8 (.by 5)))) l0⟩, ⟨.dp, 47, 1, l1.length, .d (.sl 46 (.pr (.wo 92) (.pr .u8 (.by 5)))) l1⟩, ⟨.dp, 47, 1, l2.length, .d (.sl 46 (.pr (.wo 92) (.pr .u8 (.by 5)))) l2⟩]⟩ (aP g1 aN) ?_
 refine W_seq ?_
 refine W_seq ?_
 obtain ⟨r10, g2, h⟩ := bind_some' h
 rcases Bool.eq_false_or_eq_true (!r10) with g3 | g3
 ·replace h := bif_t h g3
  refine Vg hT (fT 1 (light_ok n r10) fN) [(3, true)] [] [0, 1, 2] ⟨[(0, kH 0), (1, kH 1), (2, kH 2), (7, kB r8), (21, kB true)], [], [⟨.dp, 47, 1, l0.length, .d (.sl 46 (.pr (.wo 92) (.pr .u8 (.by 5)))) l0⟩, ⟨.dp, 47, 1, l1.length, .d (.sl 46 (.pr (.wo 92) (.pr .u8 (.by 5)))) l1⟩, ⟨.dp, 47, 1, l2.length, .d (.sl 46 (.pr (.wo 92) (.pr .u8 (.by 5)))) l2⟩]⟩ (aP g2 (aP g3 aN)) ?_
  refine Vi (true) (fun _ => ?_) (fun hb => by cases hb)
  refine Vrs hT [] ⟨[(6, kB r8)], [], []⟩ ?_
  refine Vc [] [] (lOrder_R r8) (W_ret ?_)
  exact ⟨.inl rfl, by cases h; rfl⟩
 ·replace h := bif_f h g3
  obtain ⟨r14, g4, h⟩ := bind_some' h
  rcases Bool.eq_false_or_eq_true (!r14) with g5 | g5
  ·replace h := bif_t h g5
   refine Vg hT (fT 1 (light_ok n r10) (fT 5 (light_ok n r14) fN)) [(3, false), (8, true)] [] [0, 1, 2] ⟨[(0, kH 0), (1, kH 1), (2, kH 2), (7, kB r8), (21, kB true)], [], [⟨.dp, 47, 1, l0.length, .d (.sl 46 (.pr (.wo 92) (.pr .u8 (.by 5)))) l0⟩, ⟨.dp, 47, 1, l1.length, .d (.sl 46 (.pr (.wo 92) (.pr .u8 (.by 5)))) l1⟩, ⟨.dp, 47, 1, l2.length, .d (.sl 46 (.pr (.wo 92) (.pr .u8 (.by 5)))) l2⟩]⟩ (aP g2 (aP g3 (aP g4 (aP g5 aN)))) ?_
   refine Vi (true) (fun _ => ?_) (fun hb => by cases hb)
   refine Vrs hT [] ⟨[(6, kB r8)], [], []⟩ ?_
   refine Vc [] [] (lOrder_R r8) (W_ret ?_)
   exact ⟨.inl rfl, by cases h; rfl⟩
  ·replace h := bif_f h g5
   obtain ⟨r19, g6, h⟩ := bind_some' h
   refine Vg hT (fT 1 (light_ok n r10) (fT 5 (light_ok n r14) (fT 10 (light_ok n r19) fN))) [(3, false), (8, false)] [] [0, 1, 2] ⟨[(0, kH 0), (1, kH 1), (2, kH 2), (7, kB r8), (21, kB (!r19))], [], [⟨.dp, 47, 1, l0.length, .d (.sl 46 (.pr (.wo 92) (.pr .u8 (.by 5)))) l0⟩, ⟨.dp, 47, 1, l1.length, .d (.sl 46 (.pr (.wo 92) (.pr .u8 (.by 5)))) l1⟩, ⟨.dp, 47, 1, l2.length, .d (.sl 46 (.pr (.wo 92) (.pr .u8 (.by 5)))) l2⟩]⟩ (aP g2 (aP g3 (aP g4 (aP g5 (aP g6 aN))))) ?_
   refine Vi ((!r19)) (fun g92 => ?_) (fun g92 => ?_)
   ·replace h := bif_t h g92
    refine Vrs hT [] ⟨[(6, kB r8)], [], []⟩ ?_
    refine Vc [] [] (lOrder_R r8) (W_ret ?_)
    exact ⟨.inl rfl, by cases h; rfl⟩
   ·replace h := bif_f h g92
    refine Vc [] [0, 1, 2] ⟨[(0, kH 0), (1, kH 1), (2, kH 2), (7, kB r8)], [], [⟨.dp, 47, 1, l0.length, .d (.sl 46 (.pr (.wo 92) (.pr .u8 (.by 5)))) l0⟩, ⟨.dp, 47, 1, l1.length, .d (.sl 46 (.pr (.wo 92) (.pr .u8 (.by 5)))) l1⟩, ⟨.dp, 47, 1, l2.length, .d (.sl 46 (.pr (.wo 92) (.pr .u8 (.by 5)))) l2⟩]⟩ (W_skip ?_)
    refine W_seq ?_
    refine W_seq ?_
    obtain ⟨r25, g7, h⟩ := bind_some' h
    rcases Bool.eq_false_or_eq_true (!r25) with g8 | g8
    ·replace h := bif_t h g8
     refine Vg hT (fT 2 (sAlike_ok n r25) fN) [(4, true)] [] [0, 1, 2] ⟨[(0, kH 0), (1, kH 1), (2, kH 2), (7, kB r8), (41, kB true)], [], [⟨.dp, 47, 1, l0.length, .d (.sl 46 (.pr (.wo 92) (.pr .u8 (.by 5)))) l0⟩, ⟨.dp, 47, 1, l1.length, .d (.sl 46 (.pr (.wo 92) (.pr .u8 (.by 5)))) l1⟩, ⟨.dp, 47, 1, l2.length, .d (.sl 46 (.pr (.wo 92) (.pr .u8 (.by 5)))) l2⟩]⟩ (aP g7 (aP g8 aN)) ?_
     refine Vi (true) (fun _ => ?_) (fun hb => by cases hb)
     refine Vrs hT [] ⟨[(6, kB false)], [], []⟩ ?_
     refine Vc [] [] (lOrder_R false) (W_ret ?_)
     exact ⟨.inl rfl, by cases h; rfl⟩
    ·replace h := bif_f h g8
     obtain ⟨r30, g9, h⟩ := bind_some' h
     rcases Bool.eq_false_or_eq_true (!r30) with g10 | g10
     ·replace h := bif_t h g10
      refine Vg hT (fT 2 (sAlike_ok n r25) (fT 7 (sWithin_ok n r30) fN)) [(4, false), (10, true)] [] [0, 1, 2] ⟨[(0, kH 0), (1, kH 1), (2, kH 2), (7, kB r8), (41, kB true)], [], [⟨.dp, 47, 1, l0.length, .d (.sl 46 (.pr (.wo 92) (.pr .u8 (.by 5)))) l0⟩, ⟨.dp, 47, 1, l1.length, .d (.sl 46 (.pr (.wo 92) (.pr .u8 (.by 5)))) l1⟩, ⟨.dp, 47, 1, l2.length, .d (.sl 46 (.pr (.wo 92) (.pr .u8 (.by 5)))) l2⟩]⟩ (aP g7 (aP g8 (aP g9 (aP g10 aN)))) ?_
      refine Vi (true) (fun _ => ?_) (fun hb => by cases hb)
      refine Vrs hT [] ⟨[(6, kB false)], [], []⟩ ?_
      refine Vc [] [] (lOrder_R false) (W_ret ?_)
      exact ⟨.inl rfl, by cases h; rfl⟩
     ·replace h := bif_f h g10
      obtain ⟨r36, g11, h⟩ := bind_some' h
      obtain ⟨r39, g12, h⟩ := bind_some' h
      refine Vg hT (fT 2 (sAlike_ok n r25) (fT 7 (sWithin_ok n r30) (fT 13 (sAlike_ok n r36) (fT 16 (sAlike_ok n r39) fN)))) [(4, false), (10, false)] [] [0, 1, 2] ⟨[(0, kH 0), (1, kH 1), (2, kH 2), (7, kB r8), (41, kB (!(r36 == r39)))], [], [⟨.dp, 47, 1, l0.length, .d (.sl 46 (.pr (.wo 92) (.pr .u8 (.by 5)))) l0⟩, ⟨.dp, 47, 1, l1.length, .d (.sl 46 (.pr (.wo 92) (.pr .u8 (.by 5)))) l1⟩, ⟨.dp, 47, 1, l2.length, .d (.sl 46 (.pr (.wo 92) (.pr .u8 (.by 5)))) l2⟩]⟩ (aP g7 (aP g8 (aP g9 (aP g10 (aP g11 (aP g12 aN)))))) ?_
      refine Vi ((!(r36 == r39))) (fun g91 => ?_) (fun g91 => ?_)
      ·replace h := bif_t h g91
       refine Vrs hT [] ⟨[(6, kB false)], [], []⟩ ?_
       refine Vc [] [] (lOrder_R false) (W_ret ?_)
       exact ⟨.inl rfl, by cases h; rfl⟩
      ·replace h := bif_f h g91
       refine Vc [] [0, 1, 2] ⟨[(0, kH 0), (1, kH 1), (2, kH 2), (7, kB r8)], [], [⟨.dp, 47, 1, l0.length, .d (.sl 46 (.pr (.wo 92) (.pr .u8 (.by 5)))) l0⟩, ⟨.dp, 47, 1, l1.length, .d (.sl 46 (.pr (.wo 92) (.pr .u8 (.by 5)))) l1⟩, ⟨.dp, 47, 1, l2.length, .d (.sl 46 (.pr (.wo 92) (.pr .u8 (.by 5)))) l2⟩]⟩ (W_skip ?_)
       refine W_seq ?_
       refine W_seq ?_
       obtain ⟨r44, g13, h⟩ := bind_some' h
       rcases Bool.eq_false_or_eq_true r44 with g14 | g14
       ·replace h := bif_t h g14
        obtain ⟨r48, g15, h⟩ := bind_some' h
        rcases Bool.eq_false_or_eq_true r48 with g16 | g16
        ·replace h := bif_t h g16
         obtain ⟨r53, g17, h⟩ := bind_some' h
         refine Vg hT (fT 2 (sAlike_ok n r44) (fT 6 (sAlike_ok n r48) (fT 11 (sAlike_ok n r53) fN))) [(3, true), (8, true)] [] [0, 1, 2] ⟨[(0, kH 0), (1, kH 1), (2, kH 2), (7, kB r8), (55, kB (!r53))], [], [⟨.dp, 47, 1, l0.length, .d (.sl 46 (.pr (.wo 92) (.pr .u8 (.by 5)))) l0⟩, ⟨.dp, 47, 1, l1.length, .d (.sl 46 (.pr (.wo 92) (.pr .u8 (.by 5)))) l1⟩, ⟨.dp, 47, 1, l2.length, .d (.sl 46 (.pr (.wo 92) (.pr .u8 (.by 5)))) l2⟩]⟩ (aP g13 (aP g14 (aP g15 (aP g16 (aP g17 aN))))) ?_
         refine Vi ((!r53)) (fun g42 => ?_) (fun g42 => ?_)
         ·replace h := bif_t h g42
          refine Vrs hT [] ⟨[(6, kB false)], [], []⟩ ?_
          refine Vc [] [] (lOrder_R false) (W_ret ?_)
          exact ⟨.inl rfl, by cases h; rfl⟩
         ·replace h := bif_f h g42
          refine Vc [] [0, 1, 2] ⟨[(0, kH 0), (1, kH 1), (2, kH 2), (7, kB r8)], [], [⟨.dp, 47, 1, l0.length, .d (.sl 46 (.pr (.wo 92) (.pr .u8 (.by 5)))) l0⟩, ⟨.dp, 47, 1, l1.length, .d (.sl 46 (.pr (.wo 92) (.pr .u8 (.by 5)))) l1⟩, ⟨.dp, 47, 1, l2.length, .d (.sl 46 (.pr (.wo 92) (.pr .u8 (.by 5)))) l2⟩]⟩ (W_skip ?_)
          refine W_seq ?_
          refine W_seq ?_
          obtain ⟨r58, g18, h⟩ := bind_some' h
          rcases Bool.eq_false_or_eq_true r58 with g19 | g19
          ·replace h := bif_t h g19
           obtain ⟨r62, g20, h⟩ := bind_some' h
           rcases Bool.eq_false_or_eq_true r62 with g21 | g21
           ·replace h := bif_t h g21
            obtain ⟨r67, g22, h⟩ := bind_some' h
            refine Vg hT (fT 2 (sWithin_ok n r58) (fT 6 (sWithin_ok n r62) (fT 11 (sWithin_ok n r67) fN))) [(3, true), (8, true)] [] [0, 1] ⟨[(0, kH 0), (1, kH 1), (7, kB r8), (69, kB (!r67))], [], [⟨.dp, 47, 1, l0.length, .d (.sl 46 (.pr (.wo 92) (.pr .u8 (.by 5)))) l0⟩, ⟨.dp, 47, 1, l1.length, .d (.sl 46 (.pr (.wo 92) (.pr .u8 (.by 5)))) l1⟩]⟩ (aP g18 (aP g19 (aP g20 (aP g21 (aP g22 aN))))) ?_
            refine Vi ((!r67)) (fun g29 => ?_) (fun g29 => ?_)
            ·replace h := bif_t h g29
             refine Vrs hT [] ⟨[(6, kB false)], [], []⟩ ?_
             refine Vc [] [] (lOrder_R false) (W_ret ?_)
             exact ⟨.inl rfl, by cases h; rfl⟩
            ·replace h := bif_f h g29
             refine Vc [] [0, 1] ⟨[(0, kH 0), (1, kH 1), (7, kB r8)], [], [⟨.dp, 47, 1, l0.length, .d (.sl 46 (.pr (.wo 92) (.pr .u8 (.by 5)))) l0⟩, ⟨.dp, 47, 1, l1.length, .d (.sl 46 (.pr (.wo 92) (.pr .u8 (.by 5)))) l1⟩]⟩ (W_skip ?_)
             refine W_seq ?_
             rcases Bool.eq_false_or_eq_true r8 with g23 | g23
             ·replace h := bif_t h g23
              obtain ⟨r74, g24, h⟩ := bind_some' h
              rcases Bool.eq_false_or_eq_true r74 with g25 | g25
              ·replace h := bif_t h g25
               obtain ⟨r78, g26, h⟩ := bind_some' h
               obtain ⟨r82, g27, h⟩ := bind_some' h
               refine Vg hT (fT 4 (sWithin_ok n r74) (fT 8 (sWithin_ok n r78) (fT 12 (sAlike_ok n r82) fN))) [(1, true), (5, true)] [] [] ⟨[(6, kB (r78 == r82))], [], []⟩ (aP g23 (aP g24 (aP g25 (aP g26 (aP g27 aN))))) ?_
               refine Vc [] [] (lOrder_R (r78 == r82)) (W_ret ?_)
               exact ⟨.inl rfl, by cases h; rfl⟩
              ·replace h := bif_f h g25
               obtain ⟨r82, g28, h⟩ := bind_some' h
               refine Vg hT (fT 4 (sWithin_ok n r74) (fT 12 (sAlike_ok n r82) fN)) [(1, true), (5, false)] [] [] ⟨[(6, kB (false == r82))], [], []⟩ (aP g23 (aP g24 (aP g25 (aP g28 aN)))) ?_
               refine Vc [] [] (lOrder_R (false == r82)) (W_ret ?_)
               exact ⟨.inl rfl, by cases h; rfl⟩
             ·replace h := bif_f h g23
              refine Vg hT fN [(1, false)] [] [] ⟨[(6, kB false)], [], []⟩ (aP g23 aN) ?_
              refine Vc [] [] (lOrder_R false) (W_ret ?_)
              exact ⟨.inl rfl, by cases h; rfl⟩
           ·replace h := bif_f h g21
            refine Vg hT (fT 2 (sWithin_ok n r58) (fT 6 (sWithin_ok n r62) fN)) [(3, true), (8, false)] [] [0, 1] ⟨[(0, kH 0), (1, kH 1), (7, kB r8), (69, kB false)], [], [⟨.dp, 47, 1, l0.length, .d (.sl 46 (.pr (.wo 92) (.pr .u8 (.by 5)))) l0⟩, ⟨.dp, 47, 1, l1.length, .d (.sl 46 (.pr (.wo 92) (.pr .u8 (.by 5)))) l1⟩]⟩ (aP g18 (aP g19 (aP g20 (aP g21 aN)))) ?_
            refine Vi (false) (fun hb => by cases hb) (fun _ => ?_)
            refine Vc [] [0, 1] ⟨[(0, kH 0), (1, kH 1), (7, kB r8)], [], [⟨.dp, 47, 1, l0.length, .d (.sl 46 (.pr (.wo 92) (.pr .u8 (.by 5)))) l0⟩, ⟨.dp, 47, 1, l1.length, .d (.sl 46 (.pr (.wo 92) (.pr .u8 (.by 5)))) l1⟩]⟩ (W_skip ?_)
            refine W_seq ?_
            rcases Bool.eq_false_or_eq_true r8 with g30 | g30
            ·replace h := bif_t h g30
             obtain ⟨r74, g31, h⟩ := bind_some' h
             rcases Bool.eq_false_or_eq_true r74 with g32 | g32
             ·replace h := bif_t h g32
              obtain ⟨r78, g33, h⟩ := bind_some' h
              obtain ⟨r82, g34, h⟩ := bind_some' h
              refine Vg hT (fT 4 (sWithin_ok n r74) (fT 8 (sWithin_ok n r78) (fT 12 (sAlike_ok n r82) fN))) [(1, true), (5, true)] [] [] ⟨[(6, kB (r78 == r82))], [], []⟩ (aP g30 (aP g31 (aP g32 (aP g33 (aP g34 aN))))) ?_
              refine Vc [] [] (lOrder_R (r78 == r82)) (W_ret ?_)
              exact ⟨.inl rfl, by cases h; rfl⟩
             ·replace h := bif_f h g32
              obtain ⟨r82, g35, h⟩ := bind_some' h
              refine Vg hT (fT 4 (sWithin_ok n r74) (fT 12 (sAlike_ok n r82) fN)) [(1, true), (5, false)] [] [] ⟨[(6, kB (false == r82))], [], []⟩ (aP g30 (aP g31 (aP g32 (aP g35 aN)))) ?_
              refine Vc [] [] (lOrder_R (false == r82)) (W_ret ?_)
              exact ⟨.inl rfl, by cases h; rfl⟩
            ·replace h := bif_f h g30
             refine Vg hT fN [(1, false)] [] [] ⟨[(6, kB false)], [], []⟩ (aP g30 aN) ?_
             refine Vc [] [] (lOrder_R false) (W_ret ?_)
             exact ⟨.inl rfl, by cases h; rfl⟩
          ·replace h := bif_f h g19
           refine Vg hT (fT 2 (sWithin_ok n r58) fN) [(3, false)] [] [0, 1] ⟨[(0, kH 0), (1, kH 1), (7, kB r8), (69, kB false)], [], [⟨.dp, 47, 1, l0.length, .d (.sl 46 (.pr (.wo 92) (.pr .u8 (.by 5)))) l0⟩, ⟨.dp, 47, 1, l1.length, .d (.sl 46 (.pr (.wo 92) (.pr .u8 (.by 5)))) l1⟩]⟩ (aP g18 (aP g19 aN)) ?_
           refine Vi (false) (fun hb => by cases hb) (fun _ => ?_)
           refine Vc [] [0, 1] ⟨[(0, kH 0), (1, kH 1), (7, kB r8)], [], [⟨.dp, 47, 1, l0.length, .d (.sl 46 (.pr (.wo 92) (.pr .u8 (.by 5)))) l0⟩, ⟨.dp, 47, 1, l1.length, .d (.sl 46 (.pr (.wo 92) (.pr .u8 (.by 5)))) l1⟩]⟩ (W_skip ?_)
           refine W_seq ?_
           rcases Bool.eq_false_or_eq_true r8 with g36 | g36
           ·replace h := bif_t h g36
            obtain ⟨r74, g37, h⟩ := bind_some' h
            rcases Bool.eq_false_or_eq_true r74 with g38 | g38
            ·replace h := bif_t h g38
             obtain ⟨r78, g39, h⟩ := bind_some' h
             obtain ⟨r82, g40, h⟩ := bind_some' h
             refine Vg hT (fT 4 (sWithin_ok n r74) (fT 8 (sWithin_ok n r78) (fT 12 (sAlike_ok n r82) fN))) [(1, true), (5, true)] [] [] ⟨[(6, kB (r78 == r82))], [], []⟩ (aP g36 (aP g37 (aP g38 (aP g39 (aP g40 aN))))) ?_
             refine Vc [] [] (lOrder_R (r78 == r82)) (W_ret ?_)
             exact ⟨.inl rfl, by cases h; rfl⟩
            ·replace h := bif_f h g38
             obtain ⟨r82, g41, h⟩ := bind_some' h
             refine Vg hT (fT 4 (sWithin_ok n r74) (fT 12 (sAlike_ok n r82) fN)) [(1, true), (5, false)] [] [] ⟨[(6, kB (false == r82))], [], []⟩ (aP g36 (aP g37 (aP g38 (aP g41 aN)))) ?_
             refine Vc [] [] (lOrder_R (false == r82)) (W_ret ?_)
             exact ⟨.inl rfl, by cases h; rfl⟩
           ·replace h := bif_f h g36
            refine Vg hT fN [(1, false)] [] [] ⟨[(6, kB false)], [], []⟩ (aP g36 aN) ?_
            refine Vc [] [] (lOrder_R false) (W_ret ?_)
            exact ⟨.inl rfl, by cases h; rfl⟩
        ·replace h := bif_f h g16
         refine Vg hT (fT 2 (sAlike_ok n r44) (fT 6 (sAlike_ok n r48) fN)) [(3, true), (8, false)] [] [0, 1, 2] ⟨[(0, kH 0), (1, kH 1), (2, kH 2), (7, kB r8), (55, kB false)], [], [⟨.dp, 47, 1, l0.length, .d (.sl 46 (.pr (.wo 92) (.pr .u8 (.by 5)))) l0⟩, ⟨.dp, 47, 1, l1.length, .d (.sl 46 (.pr (.wo 92) (.pr .u8 (.by 5)))) l1⟩, ⟨.dp, 47, 1, l2.length, .d (.sl 46 (.pr (.wo 92) (.pr .u8 (.by 5)))) l2⟩]⟩ (aP g13 (aP g14 (aP g15 (aP g16 aN)))) ?_
         refine Vi (false) (fun hb => by cases hb) (fun _ => ?_)
         refine Vc [] [0, 1, 2] ⟨[(0, kH 0), (1, kH 1), (2, kH 2), (7, kB r8)], [], [⟨.dp, 47, 1, l0.length, .d (.sl 46 (.pr (.wo 92) (.pr .u8 (.by 5)))) l0⟩, ⟨.dp, 47, 1, l1.length, .d (.sl 46 (.pr (.wo 92) (.pr .u8 (.by 5)))) l1⟩, ⟨.dp, 47, 1, l2.length, .d (.sl 46 (.pr (.wo 92) (.pr .u8 (.by 5)))) l2⟩]⟩ (W_skip ?_)
         refine W_seq ?_
         refine W_seq ?_
         obtain ⟨r58, g43, h⟩ := bind_some' h
         rcases Bool.eq_false_or_eq_true r58 with g44 | g44
         ·replace h := bif_t h g44
          obtain ⟨r62, g45, h⟩ := bind_some' h
          rcases Bool.eq_false_or_eq_true r62 with g46 | g46
          ·replace h := bif_t h g46
           obtain ⟨r67, g47, h⟩ := bind_some' h
           refine Vg hT (fT 2 (sWithin_ok n r58) (fT 6 (sWithin_ok n r62) (fT 11 (sWithin_ok n r67) fN))) [(3, true), (8, true)] [] [0, 1] ⟨[(0, kH 0), (1, kH 1), (7, kB r8), (69, kB (!r67))], [], [⟨.dp, 47, 1, l0.length, .d (.sl 46 (.pr (.wo 92) (.pr .u8 (.by 5)))) l0⟩, ⟨.dp, 47, 1, l1.length, .d (.sl 46 (.pr (.wo 92) (.pr .u8 (.by 5)))) l1⟩]⟩ (aP g43 (aP g44 (aP g45 (aP g46 (aP g47 aN))))) ?_
           refine Vi ((!r67)) (fun g54 => ?_) (fun g54 => ?_)
           ·replace h := bif_t h g54
            refine Vrs hT [] ⟨[(6, kB false)], [], []⟩ ?_
            refine Vc [] [] (lOrder_R false) (W_ret ?_)
            exact ⟨.inl rfl, by cases h; rfl⟩
           ·replace h := bif_f h g54
            refine Vc [] [0, 1] ⟨[(0, kH 0), (1, kH 1), (7, kB r8)], [], [⟨.dp, 47, 1, l0.length, .d (.sl 46 (.pr (.wo 92) (.pr .u8 (.by 5)))) l0⟩, ⟨.dp, 47, 1, l1.length, .d (.sl 46 (.pr (.wo 92) (.pr .u8 (.by 5)))) l1⟩]⟩ (W_skip ?_)
            refine W_seq ?_
            rcases Bool.eq_false_or_eq_true r8 with g48 | g48
            ·replace h := bif_t h g48
             obtain ⟨r74, g49, h⟩ := bind_some' h
             rcases Bool.eq_false_or_eq_true r74 with g50 | g50
             ·replace h := bif_t h g50
              obtain ⟨r78, g51, h⟩ := bind_some' h
              obtain ⟨r82, g52, h⟩ := bind_some' h
              refine Vg hT (fT 4 (sWithin_ok n r74) (fT 8 (sWithin_ok n r78) (fT 12 (sAlike_ok n r82) fN))) [(1, true), (5, true)] [] [] ⟨[(6, kB (r78 == r82))], [], []⟩ (aP g48 (aP g49 (aP g50 (aP g51 (aP g52 aN))))) ?_
              refine Vc [] [] (lOrder_R (r78 == r82)) (W_ret ?_)
              exact ⟨.inl rfl, by cases h; rfl⟩
             ·replace h := bif_f h g50
              obtain ⟨r82, g53, h⟩ := bind_some' h
              refine Vg hT (fT 4 (sWithin_ok n r74) (fT 12 (sAlike_ok n r82) fN)) [(1, true), (5, false)] [] [] ⟨[(6, kB (false == r82))], [], []⟩ (aP g48 (aP g49 (aP g50 (aP g53 aN)))) ?_
              refine Vc [] [] (lOrder_R (false == r82)) (W_ret ?_)
              exact ⟨.inl rfl, by cases h; rfl⟩
            ·replace h := bif_f h g48
             refine Vg hT fN [(1, false)] [] [] ⟨[(6, kB false)], [], []⟩ (aP g48 aN) ?_
             refine Vc [] [] (lOrder_R false) (W_ret ?_)
             exact ⟨.inl rfl, by cases h; rfl⟩
          ·replace h := bif_f h g46
           refine Vg hT (fT 2 (sWithin_ok n r58) (fT 6 (sWithin_ok n r62) fN)) [(3, true), (8, false)] [] [0, 1] ⟨[(0, kH 0), (1, kH 1), (7, kB r8), (69, kB false)], [], [⟨.dp, 47, 1, l0.length, .d (.sl 46 (.pr (.wo 92) (.pr .u8 (.by 5)))) l0⟩, ⟨.dp, 47, 1, l1.length, .d (.sl 46 (.pr (.wo 92) (.pr .u8 (.by 5)))) l1⟩]⟩ (aP g43 (aP g44 (aP g45 (aP g46 aN)))) ?_
           refine Vi (false) (fun hb => by cases hb) (fun _ => ?_)
           refine Vc [] [0, 1] ⟨[(0, kH 0), (1, kH 1), (7, kB r8)], [], [⟨.dp, 47, 1, l0.length, .d (.sl 46 (.pr (.wo 92) (.pr .u8 (.by 5)))) l0⟩, ⟨.dp, 47, 1, l1.length, .d (.sl 46 (.pr (.wo 92) (.pr .u8 (.by 5)))) l1⟩]⟩ (W_skip ?_)
           refine W_seq ?_
           rcases Bool.eq_false_or_eq_true r8 with g55 | g55
           ·replace h := bif_t h g55
            obtain ⟨r74, g56, h⟩ := bind_some' h
            rcases Bool.eq_false_or_eq_true r74 with g57 | g57
            ·replace h := bif_t h g57
             obtain ⟨r78, g58, h⟩ := bind_some' h
             obtain ⟨r82, g59, h⟩ := bind_some' h
             refine Vg hT (fT 4 (sWithin_ok n r74) (fT 8 (sWithin_ok n r78) (fT 12 (sAlike_ok n r82) fN))) [(1, true), (5, true)] [] [] ⟨[(6, kB (r78 == r82))], [], []⟩ (aP g55 (aP g56 (aP g57 (aP g58 (aP g59 aN))))) ?_
             refine Vc [] [] (lOrder_R (r78 == r82)) (W_ret ?_)
             exact ⟨.inl rfl, by cases h; rfl⟩
            ·replace h := bif_f h g57
             obtain ⟨r82, g60, h⟩ := bind_some' h
             refine Vg hT (fT 4 (sWithin_ok n r74) (fT 12 (sAlike_ok n r82) fN)) [(1, true), (5, false)] [] [] ⟨[(6, kB (false == r82))], [], []⟩ (aP g55 (aP g56 (aP g57 (aP g60 aN)))) ?_
             refine Vc [] [] (lOrder_R (false == r82)) (W_ret ?_)
             exact ⟨.inl rfl, by cases h; rfl⟩
           ·replace h := bif_f h g55
            refine Vg hT fN [(1, false)] [] [] ⟨[(6, kB false)], [], []⟩ (aP g55 aN) ?_
            refine Vc [] [] (lOrder_R false) (W_ret ?_)
            exact ⟨.inl rfl, by cases h; rfl⟩
         ·replace h := bif_f h g44
          refine Vg hT (fT 2 (sWithin_ok n r58) fN) [(3, false)] [] [0, 1] ⟨[(0, kH 0), (1, kH 1), (7, kB r8), (69, kB false)], [], [⟨.dp, 47, 1, l0.length, .d (.sl 46 (.pr (.wo 92) (.pr .u8 (.by 5)))) l0⟩, ⟨.dp, 47, 1, l1.length, .d (.sl 46 (.pr (.wo 92) (.pr .u8 (.by 5)))) l1⟩]⟩ (aP g43 (aP g44 aN)) ?_
          refine Vi (false) (fun hb => by cases hb) (fun _ => ?_)
          refine Vc [] [0, 1] ⟨[(0, kH 0), (1, kH 1), (7, kB r8)], [], [⟨.dp, 47, 1, l0.length, .d (.sl 46 (.pr (.wo 92) (.pr .u8 (.by 5)))) l0⟩, ⟨.dp, 47, 1, l1.length, .d (.sl 46 (.pr (.wo 92) (.pr .u8 (.by 5)))) l1⟩]⟩ (W_skip ?_)
          refine W_seq ?_
          rcases Bool.eq_false_or_eq_true r8 with g61 | g61
          ·replace h := bif_t h g61
           obtain ⟨r74, g62, h⟩ := bind_some' h
           rcases Bool.eq_false_or_eq_true r74 with g63 | g63
           ·replace h := bif_t h g63
            obtain ⟨r78, g64, h⟩ := bind_some' h
            obtain ⟨r82, g65, h⟩ := bind_some' h
            refine Vg hT (fT 4 (sWithin_ok n r74) (fT 8 (sWithin_ok n r78) (fT 12 (sAlike_ok n r82) fN))) [(1, true), (5, true)] [] [] ⟨[(6, kB (r78 == r82))], [], []⟩ (aP g61 (aP g62 (aP g63 (aP g64 (aP g65 aN))))) ?_
            refine Vc [] [] (lOrder_R (r78 == r82)) (W_ret ?_)
            exact ⟨.inl rfl, by cases h; rfl⟩
           ·replace h := bif_f h g63
            obtain ⟨r82, g66, h⟩ := bind_some' h
            refine Vg hT (fT 4 (sWithin_ok n r74) (fT 12 (sAlike_ok n r82) fN)) [(1, true), (5, false)] [] [] ⟨[(6, kB (false == r82))], [], []⟩ (aP g61 (aP g62 (aP g63 (aP g66 aN)))) ?_
            refine Vc [] [] (lOrder_R (false == r82)) (W_ret ?_)
            exact ⟨.inl rfl, by cases h; rfl⟩
          ·replace h := bif_f h g61
           refine Vg hT fN [(1, false)] [] [] ⟨[(6, kB false)], [], []⟩ (aP g61 aN) ?_
           refine Vc [] [] (lOrder_R false) (W_ret ?_)
           exact ⟨.inl rfl, by cases h; rfl⟩
       ·replace h := bif_f h g14
        refine Vg hT (fT 2 (sAlike_ok n r44) fN) [(3, false)] [] [0, 1, 2] ⟨[(0, kH 0), (1, kH 1), (2, kH 2), (7, kB r8), (55, kB false)], [], [⟨.dp, 47, 1, l0.length, .d (.sl 46 (.pr (.wo 92) (.pr .u8 (.by 5)))) l0⟩, ⟨.dp, 47, 1, l1.length, .d (.sl 46 (.pr (.wo 92) (.pr .u8 (.by 5)))) l1⟩, ⟨.dp, 47, 1, l2.length, .d (.sl 46 (.pr (.wo 92) (.pr .u8 (.by 5)))) l2⟩]⟩ (aP g13 (aP g14 aN)) ?_
        refine Vi (false) (fun hb => by cases hb) (fun _ => ?_)
        refine Vc [] [0, 1, 2] ⟨[(0, kH 0), (1, kH 1), (2, kH 2), (7, kB r8)], [], [⟨.dp, 47, 1, l0.length, .d (.sl 46 (.pr (.wo 92) (.pr .u8 (.by 5)))) l0⟩, ⟨.dp, 47, 1, l1.length, .d (.sl 46 (.pr (.wo 92) (.pr .u8 (.by 5)))) l1⟩, ⟨.dp, 47, 1, l2.length, .d (.sl 46 (.pr (.wo 92) (.pr .u8 (.by 5)))) l2⟩]⟩ (W_skip ?_)
        refine W_seq ?_
        refine W_seq ?_
        obtain ⟨r58, g67, h⟩ := bind_some' h
        rcases Bool.eq_false_or_eq_true r58 with g68 | g68
        ·replace h := bif_t h g68
         obtain ⟨r62, g69, h⟩ := bind_some' h
         rcases Bool.eq_false_or_eq_true r62 with g70 | g70
         ·replace h := bif_t h g70
          obtain ⟨r67, g71, h⟩ := bind_some' h
          refine Vg hT (fT 2 (sWithin_ok n r58) (fT 6 (sWithin_ok n r62) (fT 11 (sWithin_ok n r67) fN))) [(3, true), (8, true)] [] [0, 1] ⟨[(0, kH 0), (1, kH 1), (7, kB r8), (69, kB (!r67))], [], [⟨.dp, 47, 1, l0.length, .d (.sl 46 (.pr (.wo 92) (.pr .u8 (.by 5)))) l0⟩, ⟨.dp, 47, 1, l1.length, .d (.sl 46 (.pr (.wo 92) (.pr .u8 (.by 5)))) l1⟩]⟩ (aP g67 (aP g68 (aP g69 (aP g70 (aP g71 aN))))) ?_
          refine Vi ((!r67)) (fun g78 => ?_) (fun g78 => ?_)
          ·replace h := bif_t h g78
           refine Vrs hT [] ⟨[(6, kB false)], [], []⟩ ?_
           refine Vc [] [] (lOrder_R false) (W_ret ?_)
           exact ⟨.inl rfl, by cases h; rfl⟩
          ·replace h := bif_f h g78
           refine Vc [] [0, 1] ⟨[(0, kH 0), (1, kH 1), (7, kB r8)], [], [⟨.dp, 47, 1, l0.length, .d (.sl 46 (.pr (.wo 92) (.pr .u8 (.by 5)))) l0⟩, ⟨.dp, 47, 1, l1.length, .d (.sl 46 (.pr (.wo 92) (.pr .u8 (.by 5)))) l1⟩]⟩ (W_skip ?_)
           refine W_seq ?_
           rcases Bool.eq_false_or_eq_true r8 with g72 | g72
           ·replace h := bif_t h g72
            obtain ⟨r74, g73, h⟩ := bind_some' h
            rcases Bool.eq_false_or_eq_true r74 with g74 | g74
            ·replace h := bif_t h g74
             obtain ⟨r78, g75, h⟩ := bind_some' h
             obtain ⟨r82, g76, h⟩ := bind_some' h
             refine Vg hT (fT 4 (sWithin_ok n r74) (fT 8 (sWithin_ok n r78) (fT 12 (sAlike_ok n r82) fN))) [(1, true), (5, true)] [] [] ⟨[(6, kB (r78 == r82))], [], []⟩ (aP g72 (aP g73 (aP g74 (aP g75 (aP g76 aN))))) ?_
             refine Vc [] [] (lOrder_R (r78 == r82)) (W_ret ?_)
             exact ⟨.inl rfl, by cases h; rfl⟩
            ·replace h := bif_f h g74
             obtain ⟨r82, g77, h⟩ := bind_some' h
             refine Vg hT (fT 4 (sWithin_ok n r74) (fT 12 (sAlike_ok n r82) fN)) [(1, true), (5, false)] [] [] ⟨[(6, kB (false == r82))], [], []⟩ (aP g72 (aP g73 (aP g74 (aP g77 aN)))) ?_
             refine Vc [] [] (lOrder_R (false == r82)) (W_ret ?_)
             exact ⟨.inl rfl, by cases h; rfl⟩
           ·replace h := bif_f h g72
            refine Vg hT fN [(1, false)] [] [] ⟨[(6, kB false)], [], []⟩ (aP g72 aN) ?_
            refine Vc [] [] (lOrder_R false) (W_ret ?_)
            exact ⟨.inl rfl, by cases h; rfl⟩
         ·replace h := bif_f h g70
          refine Vg hT (fT 2 (sWithin_ok n r58) (fT 6 (sWithin_ok n r62) fN)) [(3, true), (8, false)] [] [0, 1] ⟨[(0, kH 0), (1, kH 1), (7, kB r8), (69, kB false)], [], [⟨.dp, 47, 1, l0.length, .d (.sl 46 (.pr (.wo 92) (.pr .u8 (.by 5)))) l0⟩, ⟨.dp, 47, 1, l1.length, .d (.sl 46 (.pr (.wo 92) (.pr .u8 (.by 5)))) l1⟩]⟩ (aP g67 (aP g68 (aP g69 (aP g70 aN)))) ?_
          refine Vi (false) (fun hb => by cases hb) (fun _ => ?_)
          refine Vc [] [0, 1] ⟨[(0, kH 0), (1, kH 1), (7, kB r8)], [], [⟨.dp, 47, 1, l0.length, .d (.sl 46 (.pr (.wo 92) (.pr .u8 (.by 5)))) l0⟩, ⟨.dp, 47, 1, l1.length, .d (.sl 46 (.pr (.wo 92) (.pr .u8 (.by 5)))) l1⟩]⟩ (W_skip ?_)
          refine W_seq ?_
          rcases Bool.eq_false_or_eq_true r8 with g79 | g79
          ·replace h := bif_t h g79
           obtain ⟨r74, g80, h⟩ := bind_some' h
           rcases Bool.eq_false_or_eq_true r74 with g81 | g81
           ·replace h := bif_t h g81
            obtain ⟨r78, g82, h⟩ := bind_some' h
            obtain ⟨r82, g83, h⟩ := bind_some' h
            refine Vg hT (fT 4 (sWithin_ok n r74) (fT 8 (sWithin_ok n r78) (fT 12 (sAlike_ok n r82) fN))) [(1, true), (5, true)] [] [] ⟨[(6, kB (r78 == r82))], [], []⟩ (aP g79 (aP g80 (aP g81 (aP g82 (aP g83 aN))))) ?_
            refine Vc [] [] (lOrder_R (r78 == r82)) (W_ret ?_)
            exact ⟨.inl rfl, by cases h; rfl⟩
           ·replace h := bif_f h g81
            obtain ⟨r82, g84, h⟩ := bind_some' h
            refine Vg hT (fT 4 (sWithin_ok n r74) (fT 12 (sAlike_ok n r82) fN)) [(1, true), (5, false)] [] [] ⟨[(6, kB (false == r82))], [], []⟩ (aP g79 (aP g80 (aP g81 (aP g84 aN)))) ?_
            refine Vc [] [] (lOrder_R (false == r82)) (W_ret ?_)
            exact ⟨.inl rfl, by cases h; rfl⟩
          ·replace h := bif_f h g79
           refine Vg hT fN [(1, false)] [] [] ⟨[(6, kB false)], [], []⟩ (aP g79 aN) ?_
           refine Vc [] [] (lOrder_R false) (W_ret ?_)
           exact ⟨.inl rfl, by cases h; rfl⟩
        ·replace h := bif_f h g68
         refine Vg hT (fT 2 (sWithin_ok n r58) fN) [(3, false)] [] [0, 1] ⟨[(0, kH 0), (1, kH 1), (7, kB r8), (69, kB false)], [], [⟨.dp, 47, 1, l0.length, .d (.sl 46 (.pr (.wo 92) (.pr .u8 (.by 5)))) l0⟩, ⟨.dp, 47, 1, l1.length, .d (.sl 46 (.pr (.wo 92) (.pr .u8 (.by 5)))) l1⟩]⟩ (aP g67 (aP g68 aN)) ?_
         refine Vi (false) (fun hb => by cases hb) (fun _ => ?_)
         refine Vc [] [0, 1] ⟨[(0, kH 0), (1, kH 1), (7, kB r8)], [], [⟨.dp, 47, 1, l0.length, .d (.sl 46 (.pr (.wo 92) (.pr .u8 (.by 5)))) l0⟩, ⟨.dp, 47, 1, l1.length, .d (.sl 46 (.pr (.wo 92) (.pr .u8 (.by 5)))) l1⟩]⟩ (W_skip ?_)
         refine W_seq ?_
         rcases Bool.eq_false_or_eq_true r8 with g85 | g85
         ·replace h := bif_t h g85
          obtain ⟨r74, g86, h⟩ := bind_some' h
          rcases Bool.eq_false_or_eq_true r74 with g87 | g87
          ·replace h := bif_t h g87
           obtain ⟨r78, g88, h⟩ := bind_some' h
           obtain ⟨r82, g89, h⟩ := bind_some' h
           refine Vg hT (fT 4 (sWithin_ok n r74) (fT 8 (sWithin_ok n r78) (fT 12 (sAlike_ok n r82) fN))) [(1, true), (5, true)] [] [] ⟨[(6, kB (r78 == r82))], [], []⟩ (aP g85 (aP g86 (aP g87 (aP g88 (aP g89 aN))))) ?_
           refine Vc [] [] (lOrder_R (r78 == r82)) (W_ret ?_)
           exact ⟨.inl rfl, by cases h; rfl⟩
          ·replace h := bif_f h g87
           obtain ⟨r82, g90, h⟩ := bind_some' h
           refine Vg hT (fT 4 (sWithin_ok n r74) (fT 12 (sAlike_ok n r82) fN)) [(1, true), (5, false)] [] [] ⟨[(6, kB (false == r82))], [], []⟩ (aP g85 (aP g86 (aP g87 (aP g90 aN)))) ?_
           refine Vc [] [] (lOrder_R (false == r82)) (W_ret ?_)
           exact ⟨.inl rfl, by cases h; rfl⟩
         ·replace h := bif_f h g85
          refine Vg hT fN [(1, false)] [] [] ⟨[(6, kB false)], [], []⟩ (aP g85 aN) ?_
          refine Vc [] [] (lOrder_R false) (W_ret ?_)
          exact ⟨.inl rfl, by cases h; rfl⟩
end Go.Proofs.Ytobfglafchoipaa
end
section
namespace Go.Sx
open Go Go.RowKit Go.Ch Go.Proofs.Ytobfglafchoipaa
theorem drop_at {α : Type} {l : List α} {i : Nat} {z : α} (h : i < l.length) : l.drop i = l.getD i z :: l.drop (i + 1) := by
 rw [List.drop_eq_getElem_cons h, List.getD_eq_getElem?_getD, List.getElem?_eq_getElem h]; rfl
def lo8 (x : UInt8) : UInt8 := bif decide ((65 : UInt8) ≤ x) && decide (x ≤ (90 : UInt8)) then x + 32 else x
def plS (out : List UInt8) (bl : Bool) : List UInt8 → List UInt8
 | [] => out
 | x :: xs => bif x == 32 then plS out true xs else plS ((bif bl && decide (0 < out.length) then out ++ [32] else out) ++ [lo8 x]) false xs
def plF (l : List UInt8) : List UInt8 := plS [] false l
theorem rm1 {k : Nat} (h : k ≤ 1000000) : rmB k 1 := by unfold rmB; omega
theorem sP2 (n : Nat) (a : List UInt8) (i : Nat) (K : List UInt8 → Bool → Int → Option (List UInt8)) (out : List UInt8) (ho : out.length ≤ 100000) (hi : i ≤ 100000) :
  sPlain_j2 n a (i : Int) K out = K (out ++ [lo8 (a.getD i 0)]) false ((i + 1 : Nat) : Int) := by
 have h3 : ∀ b, sPlain_j3 n a (i : Int) out K b = K (out ++ [b]) false ((i + 1 : Nat) : Int) := fun b => by
  unfold sPlain_j3 sPlain_j1
  rw [gd_pos (rm1 (by omega)), gd_pos (okI64 (by omega) (by omega))]; rfl
 unfold sPlain_j2 lo8
 simp only [h3, Int.toNat_natCast]
 cases decide ((65 : UInt8) ≤ a.getD i 0) <;> cases decide (a.getD i 0 ≤ (90 : UInt8)) <;> rfl
theorem sP1 (n : Nat) (a : List UInt8) (ha : a.length ≤ 40000) : ∀ (fu i : Nat) (out : List UInt8) (bl : Bool), a.length < i + fu → i ≤ a.length → out.length ≤ 2 * i → sPlain_l1 n a fu out bl (i : Int) = some (plS out bl (a.drop i))
 | 0, i, out, bl, h, h1, h2 => by omega
 | fu + 1, i, out, bl, h, h1, h2 => by
  rw [sPlain_l1]
  by_cases hi : i < a.length
  ·rw [ite_t (decide_eq_true (by omega)), gd_pos (by omega), gd_pos (by omega), drop_at (z := 0) hi, Int.toNat_natCast]
   unfold plS
   cases hx : a.getD i 0 == 32 with
   | true =>
    simp only [cond_true]
    unfold sPlain_j1
    rw [gd_pos (okI64 (by omega) (by omega))]
    exact sP1 n a ha fu (i + 1) out true (by omega) hi (by omega)
   | false =>
    simp only [cond_false]
    cases bl with
    | false =>
     simp only [cond_false, Bool.false_and]
     rw [sP2 n a i _ _ (by omega) (by omega)]
     exact sP1 n a ha fu (i + 1) _ false (by omega) hi (by simp; omega)
    | true =>
     simp only [cond_true, Bool.true_and]
     by_cases ho : 0 < out.length
     ·rw [ite_t (decide_eq_true (by omega)), gd_pos (rm1 (by omega)), sP2 n a i _ _ (by simp; omega) (by omega), decide_eq_true ho]
      exact sP1 n a ha fu (i + 1) _ false (by omega) hi (by simp; omega)
     ·rw [ite_f (decide_eq_false (by omega)), sP2 n a i _ _ (by omega) (by omega), decide_eq_false ho]
      exact sP1 n a ha fu (i + 1) _ false (by omega) hi (by simp; omega)
  ·rw [ite_f (decide_eq_false (by omega)), List.drop_of_length_le (by omega)]; rfl
theorem sPlain_is {n : Nat} {a : List UInt8} (ha : a.length ≤ 40000) (hn : a.length < n) : sPlain n a = some (plF a) := by
 unfold sPlain
 exact sP1 n a ha n 0 [] false (by omega) (by omega) (by simp)
end Go.Sx
end
section
namespace Go.Sx
open Go Go.RowKit Go.Ch Go.Proofs.Ytobfglafchoipaa
abbrev AttrT := List UInt32 × (UInt8 × List UInt8)
theorem ne_at {α : Type} [BEq α] [LawfulBEq α] (z : α) {a b : List α} {i : Nat} (h1 : i < a.length) (h2 : i < b.length) : (a.drop i == b.drop i) = (bif a.getD i z != b.getD i z then false else (a.drop (i + 1) == b.drop (i + 1))) := by
 rw [drop_at (z := z) h1, drop_at (z := z) h2]
 cases h : a.getD i z == b.getD i z with
 | true => rw [List.cons_beq_cons, h, bne, h]; rfl
 | false => rw [List.cons_beq_cons, h, bne, h]; rfl
theorem slE1 (n : Nat) (a b : List UInt32) (hl : a.length = b.length) (ha : a.length ≤ 1000000) : ∀ (fu i : Nat), a.length < i + fu → i ≤ a.length → slEq_l1 n a b fu (i : Int) = some (a.drop i == b.drop i)
 | 0, i, h, h1 => by omega
 | fu + 1, i, h, h1 => by
  rw [slEq_l1]
  by_cases hi : i < a.length
  ·rw [ite_t (decide_eq_true (by omega)), gd_pos (by omega), gd_pos (by omega), gd_pos (by omega), gd_pos (by omega), Int.toNat_natCast, ne_at 0 hi (by omega)]
   cases (a.getD i 0 != b.getD i 0) with
   | true => rfl
   | false =>
    simp only [cond_false]
    rw [gd_pos (okI64 (by omega) (by omega))]
    exact slE1 n a b hl ha fu (i + 1) (by omega) hi
  ·rw [ite_f (decide_eq_false (by omega)), List.drop_of_length_le (by omega), List.drop_of_length_le (by omega)]; rfl
theorem len_ne {α : Type} [BEq α] [LawfulBEq α] {a b : List α} (h : a.length ≠ b.length) : (a == b) = false := by
 rw [beq_eq_false_iff_ne]; intro e; exact h (by rw [e])
theorem slEq_is {n : Nat} {a : List UInt32} (b : List UInt32) (ha : a.length ≤ 1000000) (hn : a.length < n) : slEq n a b = some (a == b) := by
 unfold slEq
 by_cases h : a.length = b.length
 ·rw [ite_f (by simp [h]), show (0 : Int) = ((0 : Nat) : Int) from rfl, slE1 n a b h ha n 0 (by omega) (by omega)]; rfl
 ·rw [ite_t (by simp; omega), len_ne h]
def likeB (x y : AttrT) : Bool := x.1 == y.1 && plF x.2.2 == plF y.2.2
theorem likeB_iff {x y : AttrT} : likeB x y = true ↔ x.1 = y.1 ∧ plF x.2.2 = plF y.2.2 := by unfold likeB; simp
def lgA (x : AttrT) : Prop := x.2.2.length ≤ 200 ∧ x.1.length ≤ 30
def lgS (l : List AttrT) : Prop := l.length ≤ 10 ∧ ∀ x ∈ l, lgA x
def lgN (l : List (List AttrT)) : Prop := l.length ≤ 20 ∧ ∀ x ∈ l, lgS x
theorem getD_in {α : Type} {l : List α} {i : Nat} {z : α} (h : i < l.length) : l.getD i z ∈ l := by rw [List.getD_eq_getElem?_getD, List.getElem?_eq_getElem h]; exact List.getElem_mem h
theorem like_is {n : Nat} (hn : 500 ≤ n) {x y : AttrT} (hx : lgA x) (hy : lgA y) : like n x.1 x.2.1 x.2.2 y.1 y.2.1 y.2.2 = some (likeB x y) := by
 unfold like likeB lgA at *
 rw [slEq_is _ (by omega) (by omega), Option.bind_some]
 cases x.1 == y.1 with
 | false => rfl
 | true =>
  simp only [cond_true, Bool.true_and]
  rw [sPlain_is (by omega) (by omega), Option.bind_some, sPlain_is (by omega) (by omega), Option.bind_some]; rfl
theorem cvI1 {n : Nat} (hn : 500 ≤ n) (l : List AttrT) (hl : lgS l) (x : AttrT) (hx : lgA x) : ∀ (fu i : Nat), l.length < i + fu → i ≤ l.length → ∃ r, cvIx_l1 n l x.1 x.2.1 x.2.2 fu (i : Int) = some r ∧ decide ((0 : Int) ≤ r) = (l.drop i).any (likeB x)
 | 0, i, h, h1 => by omega
 | fu + 1, i, h, h1 => by
  rw [cvIx_l1]
  have hl1 := hl.1
  by_cases hi : i < l.length
  ·rw [ite_t (decide_eq_true (by omega)), gd_pos (by omega), gd_pos (by omega), Int.toNat_natCast, drop_at (z := (([], (0, [])) : AttrT)) hi]
   have hy := hl.2 _ (getD_in (z := (([], (0, [])) : AttrT)) hi)
   generalize l.getD i (([], (0, [])) : AttrT) = y at hy
   unfold cv1
   rw [gd_pos (by omega), like_is hn hx hy, Option.bind_some, Option.bind_some, List.any_cons]
   cases likeB x y with
   | true => exact ⟨(i : Int), rfl, decide_eq_true (by omega)⟩
   | false =>
    simp only [cond_false, Bool.false_or]
    rw [gd_pos (okI64 (by omega) (by omega))]
    exact cvI1 hn l hl x hx fu (i + 1) (by omega) hi
  ·rw [ite_f (decide_eq_false (by omega)), List.drop_of_length_le (by omega)]
   exact ⟨-1, rfl, rfl⟩
theorem cvCF_is {n : Nat} (hn : 500 ≤ n) {l : List AttrT} (hl : lgS l) {x : AttrT} (hx : lgA x) : cvCF n l x.1 x.2.1 x.2.2 = some (l.any (likeB x)) := by
 have hl1 := hl.1
 obtain ⟨r, h1, h2⟩ := cvI1 hn l hl x hx n 0 (by omega) (by omega)
 unfold cvCF cvIx
 rw [show ((0 : Int)) = ((0 : Nat) : Int) from rfl, h1, Option.bind_some]
 rw [List.drop_zero] at h2
 exact congrArg some h2
def covB (a b : List AttrT) : Bool := a.all fun x => b.any (likeB x)
theorem cov1 {n : Nat} (hn : 500 ≤ n) (a b : List AttrT) (ha : lgS a) (hb : lgS b) : ∀ (fu i : Nat), a.length < i + fu → i ≤ a.length → covers_l1 n a b fu (i : Int) = some (covB (a.drop i) b)
 | 0, i, h, h1 => by omega
 | fu + 1, i, h, h1 => by
  rw [covers_l1]
  have ha1 := ha.1
  by_cases hi : i < a.length
  ·rw [ite_t (decide_eq_true (by omega)), gd_pos (by omega), gd_pos (by omega), Int.toNat_natCast, drop_at (z := (([], (0, [])) : AttrT)) hi]
   have hy := ha.2 _ (getD_in (z := (([], (0, [])) : AttrT)) hi)
   generalize a.getD i (([], (0, [])) : AttrT) = y at hy
   rw [cvCF_is hn hb hy, Option.bind_some]
   unfold covB
   rw [List.all_cons]
   cases b.any (likeB y) with
   | false => rfl
   | true =>
    simp only [Bool.not_true, cond_false, Bool.true_and]
    rw [gd_pos (okI64 (by omega) (by omega))]
    exact cov1 hn a b ha hb fu (i + 1) (by omega) hi
  ·rw [ite_f (decide_eq_false (by omega)), List.drop_of_length_le (by omega)]; rfl
theorem covers_is {n : Nat} (hn : 500 ≤ n) {a b : List AttrT} (ha : lgS a) (hb : lgS b) : covers n a b = some (covB a b) := by
 have ha1 := ha.1
 unfold covers
 exact cov1 hn a b ha hb n 0 (by omega) (by omega)
def alkL : List (List AttrT) → List (List AttrT) → Bool
 | a :: xs, b :: bs => (covB a b && covB b a) && alkL xs bs
 | [], [] => true
 | _, _ => false
def alkB (a b : List (List AttrT)) : Bool := decide (a.length = b.length) && alkL a b
def witB (a b : List (List AttrT)) : Bool := decide (b.length ≤ a.length) && alkB (a.take b.length) b
theorem sAl1 {n : Nat} (hn : 500 ≤ n) (a b : List (List AttrT)) (ha : lgN a) (hb : lgN b) (hl : a.length = b.length) : ∀ (fu i : Nat), a.length < i + fu → i ≤ a.length → sAlike_l1 n a b fu (i : Int) = some (alkL (a.drop i) (b.drop i))
 | 0, i, h, h1 => by omega
 | fu + 1, i, h, h1 => by
  rw [sAlike_l1]
  have ha1 := ha.1
  by_cases hi : i < a.length
  ·rw [ite_t (decide_eq_true (by omega)), gd_pos (by omega), gd_pos (by omega), gd_pos (by omega), gd_pos (by omega), Int.toNat_natCast, drop_at (z := ([] : List AttrT)) hi, drop_at (z := ([] : List AttrT)) (show i < b.length by omega)]
   have hy := ha.2 _ (getD_in (z := ([] : List AttrT)) hi)
   have hz := hb.2 _ (getD_in (z := ([] : List AttrT)) (show i < b.length by omega))
   generalize a.getD i ([] : List AttrT) = y at hy
   generalize b.getD i ([] : List AttrT) = z at hz
   rw [covers_is hn hy hz, Option.bind_some]
   unfold alkL
   cases covB y z with
   | false => rfl
   | true =>
    simp only [Bool.not_true, cond_false, Bool.true_and]
    rw [gd_pos (by omega), gd_pos (by omega), gd_pos (by omega), gd_pos (by omega), covers_is hn hz hy, Option.bind_some]
    cases covB z y with
    | false => rfl
    | true =>
     simp only [Bool.not_true, cond_false, Bool.true_and]
     rw [gd_pos (okI64 (by omega) (by omega))]
     exact sAl1 hn a b ha hb hl fu (i + 1) (by omega) hi
  ·rw [ite_f (decide_eq_false (by omega)), List.drop_of_length_le (by omega), List.drop_of_length_le (by omega)]; rfl
theorem sAlike_is {n : Nat} (hn : 500 ≤ n) {a b : List (List AttrT)} (ha : lgN a) (hb : lgN b) : sAlike n a b = some (alkB a b) := by
 have ha1 := ha.1
 unfold sAlike alkB
 by_cases h : a.length = b.length
 ·rw [ite_f (by simp [h]), decide_eq_true h, show (0 : Int) = ((0 : Nat) : Int) from rfl, sAl1 hn a b ha hb h n 0 (by omega) (by omega)]; rfl
 ·rw [ite_t (by simp; omega), decide_eq_false h]; rfl
theorem lgN_take {a : List (List AttrT)} (ha : lgN a) (k : Nat) : lgN (a.take k) := ⟨by have := ha.1; simp; omega, fun x hx => ha.2 x (List.mem_of_mem_take hx)⟩
theorem sWithin_is {n : Nat} (hn : 500 ≤ n) {a b : List (List AttrT)} (ha : lgN a) (hb : lgN b) : sWithin n a b = some (witB a b) := by
 unfold sWithin witB
 by_cases h : b.length ≤ a.length
 ·rw [ite_t (decide_eq_true (by omega)), gd_pos (by omega), gd_pos (by omega), decide_eq_true h, List.drop_zero, Int.toNat_natCast, sAlike_is hn (lgN_take ha _) hb]; rfl
 ·rw [ite_f (decide_eq_false (by omega)), decide_eq_false h]; rfl
def lgAB (x : AttrT) : Bool := decide (x.2.2.length ≤ 200) && decide (x.1.length ≤ 30)
def lgSB (l : List AttrT) : Bool := decide (l.length ≤ 10) && l.all lgAB
def lgNB (l : List (List AttrT)) : Bool := decide (l.length ≤ 20) && l.all lgSB
theorem lgNB_ok {l : List (List AttrT)} (h : lgNB l = true) : lgN l := by
 unfold lgNB lgSB lgAB at h
 simp only [Bool.and_eq_true, decide_eq_true_eq, List.all_eq_true] at h
 exact h
theorem lig2 {n : Nat} (a : List (List AttrT)) (h20 : a.length ≤ 20) (i : Nat) (hi : i < a.length) (h10 : (a.getD i []).length ≤ 10) (K : Int → Option Bool) : ∀ (fu j : Nat), (a.getD i []).length < j + fu → j ≤ (a.getD i []).length →
  light_l2 n a (i : Int) K fu (j : Int) = bif ((a.getD i []).drop j).all lgAB then K ((i + 1 : Nat) : Int) else some false
 | 0, j, h, h1 => by omega
 | fu + 1, j, h, h1 => by
  rw [light_l2, gd_pos (by omega), gd_pos (by omega), Int.toNat_natCast]
  by_cases hj : j < (a.getD i []).length
  ·rw [ite_t (decide_eq_true (by omega)), gd_pos (by omega), gd_pos (by omega), gd_pos (by omega), gd_pos (by omega), Int.toNat_natCast, drop_at (z := (([], (0, [])) : AttrT)) hj, List.all_cons]
   generalize (a.getD i []).getD j (([], (0, [])) : AttrT) = q
   by_cases h2 : q.2.2.length ≤ 200
   ·rw [ite_f (decide_eq_false (by omega)), gd_pos (by omega), gd_pos (by omega), gd_pos (by omega), gd_pos (by omega)]
    by_cases h3 : q.1.length ≤ 30
    ·rw [ite_f (decide_eq_false (by omega)), gd_pos (okI64 (by omega) (by omega))]
     unfold lgAB
     rw [decide_eq_true h2, decide_eq_true h3]
     exact lig2 a h20 i hi h10 K fu (j + 1) (by omega) hj
    ·rw [ite_t (decide_eq_true (by omega))]
     unfold lgAB
     rw [decide_eq_false h3, Bool.and_false, Bool.false_and]; rfl
   ·rw [ite_t (decide_eq_true (by omega))]
    unfold lgAB
    rw [decide_eq_false h2, Bool.false_and, Bool.false_and]; rfl
  ·rw [ite_f (decide_eq_false (by omega)), List.drop_of_length_le (by omega), gd_pos (okI64 (by omega) (by omega))]; rfl
theorem lig1 {n : Nat} (hn : 500 ≤ n) (a : List (List AttrT)) (h20 : a.length ≤ 20) : ∀ (fu i : Nat), a.length < i + fu → i ≤ a.length → light_l1 n a fu (i : Int) = some ((a.drop i).all lgSB)
 | 0, i, h, h1 => by omega
 | fu + 1, i, h, h1 => by
  rw [light_l1]
  by_cases hi : i < a.length
  ·rw [ite_t (decide_eq_true (by omega)), gd_pos (by omega), gd_pos (by omega), Int.toNat_natCast, drop_at (z := ([] : List AttrT)) hi, List.all_cons]
   by_cases h10 : (a.getD i []).length ≤ 10
   ·rw [ite_f (decide_eq_false (by omega)), show (0 : Int) = ((0 : Nat) : Int) from rfl, lig2 a h20 i hi h10 _ n 0 (by omega) (by omega), lig1 hn a h20 fu (i + 1) (by omega) hi, List.drop_zero]
    unfold lgSB
    rw [decide_eq_true h10, Bool.true_and]
    cases (a.getD i []).all lgAB <;> rfl
   ·rw [ite_t (decide_eq_true (by omega))]
    unfold lgSB
    rw [decide_eq_false h10, Bool.false_and, Bool.false_and]
  ·rw [ite_f (decide_eq_false (by omega)), List.drop_of_length_le (by omega)]; rfl
theorem light_is {n : Nat} (hn : 500 ≤ n) (a : List (List AttrT)) : light n a = some (lgNB a) := by
 unfold light lgNB
 by_cases h : a.length ≤ 20
 ·rw [ite_f (decide_eq_false (by omega)), show (0 : Int) = ((0 : Nat) : Int) from rfl, lig1 hn a h n 0 (by omega) (by omega), decide_eq_true h]; rfl
 ·rw [ite_t (decide_eq_true (by omega)), decide_eq_false h]; rfl
end Go.Sx
end
section
namespace Go.Sx
open Go Go.RowKit Go.Ch Go.Proofs.Ytobfglafchoipaa
theorem lup_is : lup 4100 = some true := by decide +kernel
theorem covB_iff {a b : List AttrT} : covB a b = true ↔ ∀ x ∈ a, ∃ y ∈ b, likeB x y = true := by unfold covB; simp [List.all_eq_true, List.any_eq_true]
theorem covB_refl (a : List AttrT) : covB a a = true := covB_iff.2 fun x hx => ⟨x, hx, likeB_iff.2 ⟨rfl, rfl⟩⟩
theorem covB_trans {a b c : List AttrT} (h : covB a b = true) (h' : covB b c = true) : covB a c = true := covB_iff.2 fun x hx => by
 obtain ⟨y, hy, h1⟩ := covB_iff.1 h x hx
 obtain ⟨z, hz, h2⟩ := covB_iff.1 h' y hy
 exact ⟨z, hz, likeB_iff.2 ⟨(likeB_iff.1 h1).1.trans (likeB_iff.1 h2).1, (likeB_iff.1 h1).2.trans (likeB_iff.1 h2).2⟩⟩
theorem alkL_refl : ∀ a, alkL a a = true
 | [] => rfl
 | a :: xs => by unfold alkL; rw [covB_refl, alkL_refl xs]; rfl
theorem alkL_comm : ∀ a b, alkL a b = alkL b a
 | [], [] => rfl
 | [], _ :: _ => rfl
 | _ :: _, [] => rfl
 | a :: xs, b :: bs => by unfold alkL; rw [alkL_comm xs bs, Bool.and_comm (covB a b)]
theorem alkL_trans : ∀ {a b c}, alkL a b = true → alkL b c = true → alkL a c = true
 | [], [], [], _, _ => rfl
 | a :: xs, b :: bs, c :: cs, h, h' => by
  unfold alkL at h h' ⊢
  simp only [Bool.and_eq_true] at h h' ⊢
  exact ⟨⟨covB_trans h.1.1 h'.1.1, covB_trans h'.1.2 h.1.2⟩, alkL_trans h.2 h'.2⟩
 | [], [], _ :: _, _, h => by cases h
 | [], _ :: _, _, h, _ => by cases h
 | _ :: _, [], _, h, _ => by cases h
 | _ :: _, _ :: _, [], _, h => by cases h
theorem alkL_take : ∀ {a b : List (List AttrT)} (k : Nat), alkL a b = true → alkL (a.take k) (b.take k) = true
 | [], [], k, _ => by simp [alkL]
 | a :: xs, b :: bs, 0, _ => rfl
 | a :: xs, b :: bs, k + 1, h => by
  unfold alkL at h
  simp only [Bool.and_eq_true] at h
  simp only [List.take_succ_cons]
  unfold alkL
  simp only [Bool.and_eq_true]
  exact ⟨h.1, alkL_take k h.2⟩
 | [], _ :: _, _, h => by cases h
 | _ :: _, [], _, h => by cases h
theorem alkB_iff {a b : List (List AttrT)} : alkB a b = true ↔ a.length = b.length ∧ alkL a b = true := by unfold alkB; simp
theorem alkB_refl (a : List (List AttrT)) : alkB a a = true := alkB_iff.2 ⟨rfl, alkL_refl a⟩
theorem alkB_comm (a b : List (List AttrT)) : alkB a b = alkB b a := by
 rw [Bool.eq_iff_iff, alkB_iff, alkB_iff, alkL_comm]; exact ⟨fun h => ⟨h.1.symm, h.2⟩, fun h => ⟨h.1.symm, h.2⟩⟩
theorem alkB_trans {a b c : List (List AttrT)} (h : alkB a b = true) (h' : alkB b c = true) : alkB a c = true := alkB_iff.2 ⟨(alkB_iff.1 h).1.trans (alkB_iff.1 h').1, alkL_trans (alkB_iff.1 h).2 (alkB_iff.1 h').2⟩
theorem witB_iff {a b : List (List AttrT)} : witB a b = true ↔ b.length ≤ a.length ∧ alkL (a.take b.length) b = true := by
 unfold witB; rw [Bool.and_eq_true, alkB_iff]; simp; omega
theorem witB_refl (a : List (List AttrT)) : witB a a = true := witB_iff.2 ⟨Nat.le_refl _, by rw [List.take_length]; exact alkL_refl a⟩
theorem witB_trans {a b c : List (List AttrT)} (h : witB a b = true) (h' : witB b c = true) : witB a c = true := by
 obtain ⟨h1, h2⟩ := witB_iff.1 h
 obtain ⟨h3, h4⟩ := witB_iff.1 h'
 refine witB_iff.2 ⟨by omega, ?_⟩
 have := alkL_take c.length h2
 rw [List.take_take, Nat.min_eq_left h3] at this
 exact alkL_trans this h4
theorem witB_both (a b : List (List AttrT)) : (witB a b && witB b a) = alkB a b := by
 rw [Bool.eq_iff_iff, Bool.and_eq_true, witB_iff, witB_iff, alkB_iff]
 constructor
 ·rintro ⟨⟨h1, h2⟩, h3, h4⟩
  rw [List.take_of_length_le (by omega)] at h2
  exact ⟨by omega, h2⟩
 ·rintro ⟨h1, h2⟩
  refine ⟨⟨by omega, ?_⟩, by omega, ?_⟩
  ·rw [List.take_of_length_le (by omega)]; exact h2
  ·rw [List.take_of_length_le (by omega), alkL_comm]; exact h2
theorem lOrder_is (a b c : List (List AttrT)) : lOrder 4100 a b c = some true := by
 have hn : 500 ≤ 4100 := by decide
 unfold lOrder
 rw [lup_is, Option.bind_some, light_is hn, Option.bind_some]
 cases ha : lgNB a with
 | false => rfl
 | true =>
  simp only [Bool.not_true, cond_false]
  rw [light_is hn, Option.bind_some]
  cases hb : lgNB b with
  | false => rfl
  | true =>
   simp only [Bool.not_true, cond_false]
   rw [light_is hn, Option.bind_some]
   cases hc : lgNB c with
   | false => rfl
   | true =>
    have ha := lgNB_ok ha
    have hb := lgNB_ok hb
    have hc := lgNB_ok hc
    have e1 := sAlike_is hn ha ha
    have e2 := sWithin_is hn ha ha
    have e3 := sAlike_is hn ha hb
    have e4 := sAlike_is hn hb ha
    have e5 := sAlike_is hn hb hc
    have e6 := sAlike_is hn ha hc
    have e7 := sWithin_is hn ha hb
    have e8 := sWithin_is hn hb hc
    have e9 := sWithin_is hn ha hc
    have e10 := sWithin_is hn hb ha
    have t1 : alkB a b = true → alkB b c = true → alkB a c = true := alkB_trans
    have t2 : witB a b = true → witB b c = true → witB a c = true := witB_trans
    have t3 := witB_both a b
    rw [alkB_refl] at e1
    rw [witB_refl] at e2
    rw [alkB_comm b a] at e4
    generalize alkB a b = ab at *
    generalize alkB a c = ac at *
    generalize alkB b c = bc at *
    generalize witB a b = wab at *
    generalize witB b a = wba at *
    generalize witB b c = wbc at *
    generalize witB a c = wac at *
    simp only [e1, e2, e3, e4, e5, e6, e7, e8, e9, e10, Option.bind_some, Bool.not_true, cond_false, cond_true, beq_self_eq_true]
    clear e1 e2 e3 e4 e5 e6 e7 e8 e9 e10
    cases ab <;> cases bc <;> cases ac <;> cases wab <;> cases wbc <;> cases wac <;> cases wba <;> first | rfl | (exfalso; revert t1 t2 t3; decide)
end Go.Sx
end
section
namespace Go.Sx
open Go Go.RowKit Go.Ch Go.Proofs.Ytobfglafchoipaa
end Go.Sx
namespace Go.Proofs.Ytobfglafchoipaa
open Go.RowKit Go.Ch Go.Sx
theorem nameOrder_c (w : World) (v0 : Value) (l0 : List (List (List UInt32 × (UInt8 × List UInt8)))) (q0 : Pl) (hq0 : v0 = .slice q0.A q0.n q0.cap) (ho0 : ∀ ρ, objR ρ w q0 ⟨.dp, 47, 1, l0.length, .d (.sl 46 (.pr (.wo 92) (.pr .u8 (.by 5)))) l0⟩) (v1 : Value) (l1 : List (List (List UInt32 × (UInt8 × List UInt8)))) (q1 : Pl) (hq1 : v1 = .slice q1.A q1.n q1.cap) (ho1 : ∀ ρ, objR ρ w q1 ⟨.dp, 47, 1, l1.length, .d (.sl 46 (.pr (.wo 92) (.pr .u8 (.by 5)))) l1⟩) (v2 : Value) (l2 : List (List (List UInt32 × (UInt8 × List UInt8)))) (q2 : Pl) (hq2 : v2 = .slice q2.A q2.n q2.cap) (ho2 : ∀ ρ, objR ρ w q2 ⟨.dp, 47, 1, l2.length, .d (.sl 46 (.pr (.wo 92) (.pr .u8 (.by 5)))) l2⟩) :
  Calls Try.prog 5 #[v0, v1, v2] w (Ret fun v' w' => Ext w w' ∧ v' = .bool true) := by
 exact law_of (lOrder_ok 4100 true) (args := [.c (.wh 0), .c (.wh 1), .c (.wh 2)]) (H := [⟨.dp, 47, 1, l0.length, .d (.sl 46 (.pr (.wo 92) (.pr .u8 (.by 5)))) l0⟩, ⟨.dp, 47, 1, l1.length, .d (.sl 46 (.pr (.wo 92) (.pr .u8 (.by 5)))) l1⟩, ⟨.dp, 47, 1, l2.length, .d (.sl 46 (.pr (.wo 92) (.pr .u8 (.by 5)))) l2⟩]) (ρ := plL [q0, q1, q2]) (vals := [v0, v1, v2]) rfl (allP_cons.2 ⟨(lOrder_is l0 l1 l2), allP_nil⟩) trivial (hpL (ps := [q0, q1, q2]) (F2.cons ho0 (F2.cons ho1 (F2.cons ho2 F2.nil)))) (F2.cons hq0 (F2.cons hq1 (F2.cons hq2 F2.nil)))
end Go.Proofs.Ytobfglafchoipaa
end
section
namespace Go.Sx
open Go Go.ChangeShapes Go.WideShapes Go.RowKit Go.Ch
def bInt (P : Program) (k : IntKind) (t : TypeId) : Bool := match P.underlying t with | some (.int k') => decide (k' = k) | _ => false
def bSlI (P : Program) (k : IntKind) (t : TypeId) : Bool := match P.underlying t with | some (.slice e) => bInt P k e && P.cellsOf e == 1 | _ => false
def bSl (P : Program) (sz : Nat) (f : TypeId → Bool) (t : TypeId) : Bool := match P.underlying t with | some (.slice e) => P.cellsOf e == sz && f e | _ => false
def bF1 (P : Program) (sz : Nat) (f : TypeId → Bool) (fs : List Field) (off : Nat) : Bool := match fs with | [g] => g.offset == off && P.cellsOf g.type == sz && f g.type | _ => false
def bPr (P : Program) (sa : Nat) (f : TypeId → Bool) (g : List Field → Nat → Bool) (fs : List Field) (off : Nat) : Bool := match fs with | h :: r => h.offset == off && P.cellsOf h.type == sa && f h.type && g r (off + sa) | _ => false
def bSt (P : Program) (sz : Nat) (f : List Field → Nat → Bool) (t : TypeId) : Bool := match P.underlying t with | some (.struct fs) => P.cellsOf t == sz && f fs.toList 0 | _ => false
structure Shb where
 t : TypeId → Bool
 f : List Field → Nat → Bool
def shB1 (P : Program) (sz : Nat) (f : TypeId → Bool) : Shb := ⟨f, bF1 P sz f⟩
def shB (P : Program) : Dsh → Shb
 | .u8 => shB1 P 1 (bInt P .u8)
 | .u32 => shB1 P 1 (bInt P .u32)
 | .i64 => shB1 P 1 (bInt P .i64)
 | .by _ => shB1 P 1 (bSlI P .u8)
 | .wo _ => shB1 P 1 (bSlI P .u32)
 | .sl _ x => shB1 P 1 (bSl P x.sz (shB P x).t)
 | .pr a b => ⟨bSt P (a.sz + b.sz) (bPr P a.sz (shB P a).t (shB P b).f), bPr P a.sz (shB P a).t (shB P b).f⟩
section
variable {H : Type} {enc : TypeId × Value → H} {P : Program} {W : World} {base : Nat} {held : Bool}
def OpE (enc : TypeId × Value → H) (P : Program) (W : World) (base : Nat) (held : Bool) (x : Dsh) (t : TypeId) : Prop := ∀ (fuel : Nat) (cs : List Value) (y : DataW H × List MemPlace), DataW.trod enc P W base (fun _ => true) held fuel t cs = some y → ∃ v, RdE W x cs v
theorem op_int {k : IntKind} {t : TypeId} (ht : P.underlying t = some (.int k)) {fuel : Nat} {cs : List Value} {y : DataW H × List MemPlace} (h : DataW.trod enc P W base (fun _ => true) held fuel t cs = some y) : ∃ n, cs = [.int k n] ∧ (Lit.int k n).wf = true := by
 obtain ⟨n, h1, _, h2⟩ := DataW.trod_int ht h
 exact ⟨n, h1, h2⟩
theorem op_u8 {t : TypeId} (ht : P.underlying t = some (.int .u8)) : OpE enc P W base held .u8 t := fun fuel cs y h => by
 obtain ⟨n, rfl, hw⟩ := op_int ht h
 refine ⟨UInt8.ofNat n.toNat, RdE.s1 (fun gv hg => ?_) rfl⟩
 show gv _ = bU _
 rw [hg]
 simp [Lit.wf, IntKind.min, IntKind.max, IntKind.signed, IntKind.bits] at hw
 unfold bU
 congr 1
 simp
 omega
theorem op_u32 {t : TypeId} (ht : P.underlying t = some (.int .u32)) : OpE enc P W base held .u32 t := fun fuel cs y h => by
 obtain ⟨n, rfl, hw⟩ := op_int ht h
 obtain ⟨x, hx⟩ := u32_of_int hw
 exact ⟨x, RdE.s1 (fun gv hg => by show gv _ = w32 _; rw [hg, hx]) rfl⟩
theorem op_i64 {t : TypeId} (ht : P.underlying t = some (.int .i64)) : OpE enc P W base held .i64 t := fun fuel cs y h => by
 obtain ⟨n, rfl, hw⟩ := op_int ht h
 exact ⟨n, RdE.s1 (fun gv hg => by show gv _ = _; rw [hg]) rfl⟩
theorem op_by {t e : TypeId} (e' : TypeId) (ht : P.underlying t = some (.slice e)) (he : P.underlying e = some (.int .u8)) (hc : P.cellsOf e = 1) : OpE enc P W base held (.by e') t := fun fuel cs y h => by
 rcases open_ints ht he hc h with ⟨rfl, _⟩ | ⟨x, l, c, zs, rfl, _, hl, hm, hz, _, hcell, hwz⟩
 ·exact ⟨[], RdE.by e' (sl_of_row (k := .u8) (w := W) (zs := []) (.inl ⟨rfl, rfl, rfl, rfl⟩)).1⟩
 ·obtain ⟨h1, h2⟩ := sl_of_row (k := .u8) (w := W) (zs := zs) (.inr ⟨_, rfl, hl, hm, by simpa using hz, hcell, hwz⟩)
  obtain ⟨l, hl⟩ := bytes_of_ints h2
  exact ⟨l, RdE.by e' (by rw [← hl]; exact h1)⟩
theorem op_wo {t e : TypeId} (e' : TypeId) (ht : P.underlying t = some (.slice e)) (he : P.underlying e = some (.int .u32)) (hc : P.cellsOf e = 1) : OpE enc P W base held (.wo e') t := fun fuel cs y h => by
 rcases open_ints ht he hc h with ⟨rfl, _⟩ | ⟨x, l, c, zs, rfl, _, hl, hm, hz, _, hcell, hwz⟩
 ·exact ⟨[], RdE.wo e' (sl_of_row (k := .u32) (w := W) (zs := []) (.inl ⟨rfl, rfl, rfl, rfl⟩)).1⟩
 ·obtain ⟨h1, h2⟩ := sl_of_row (k := .u32) (w := W) (zs := zs) (.inr ⟨_, rfl, hl, hm, by simpa using hz, hcell, hwz⟩)
  obtain ⟨l, hl, _⟩ := words_of_ints h2
  exact ⟨l, RdE.wo e' (by rw [← hl]; exact h1)⟩
def w2 (W : World) (a : Addr) (off n : Nat) (vs : List Value) : Prop := vs.length = n ∧ ∀ j u, vs[j]? = some u → W.cell? ((a.add off).add j) = some u
theorem w2_of {W : World} {base : Nat} {a : Addr} {off n : Nat} {vs : List Value} (h : W.cells? base (a.add off) n = some vs) : w2 W a off n vs := by
 obtain ⟨_, h1, h2⟩ := World.cells?_some h
 refine ⟨h1, fun j u hu => ?_⟩
 have hj : j < n := by rw [← h1]; exact (List.getElem?_eq_some_iff.1 hu).1
 rw [h2 j hj]; exact hu
theorem op_sl {t e : TypeId} {x : Dsh} (e' : TypeId) (ht : P.underlying t = some (.slice e)) (hc : P.cellsOf e = x.sz) (hx : OpE enc P W base held x e) : OpE enc P W base held (.sl e' x) t := fun fuel cs y h => by
 have hpos := x.sz_pos
 rcases DataW.trod_slice ht h with ⟨rfl, _⟩ | ⟨a, len, cap, elems, rest, n, rfl, rfl, _, hb, hl, hm, hlen, hel, _⟩
 ·refine ⟨([] : List x.T), RdE.sl0 e' (F := fun _ => False) (gv := fun _ => .slice none 0 0) rfl (fun g hg => hg.elim) ⟨none, 0, rfl, Nat.le_refl _, by simp [maxLen], fun _ => rfl, fun ad ha _ => (nomatch ha), fun k y hy => (nomatch hy)⟩⟩
 ·have each : ∀ i, i < len → ∃ vs : List Value, w2 W a (i * x.sz) x.sz vs ∧ ∃ v, RdE W x vs v := fun i hi => by
   have h1 := hel i hi
   rw [List.getElem?_eq_getElem (by omega), hc] at h1
   cases hcs : W.cells? base (a.add (i * x.sz)) x.sz with
   | none => rw [hcs] at h1; cases h1
   | some vs =>
    rw [hcs] at h1
    exact ⟨vs, w2_of hcs, hx n vs _ h1⟩
  have each' : ∀ i, ∃ p : List Value × x.T, i < len → w2 W a (i * x.sz) x.sz p.1 ∧ RdE W x p.1 p.2 := fun i => by
   by_cases hi : i < len
   ·obtain ⟨vs, h1, v, h2⟩ := each i hi
    exact ⟨(vs, v), fun _ => ⟨h1, h2⟩⟩
   ·exact ⟨([], x.df), fun h => absurd h hi⟩
  obtain ⟨pf, hpf⟩ := Classical.axiomOfChoice each'
  let l : List x.T := (List.range len).map fun i => (pf i).2
  have hll : l.length = len := by simp [l]
  let vs : List Value := (List.range (len * x.sz)).map fun j => (pf (j / x.sz)).1.getD (j % x.sz) undef
  have hvl : vs.length = len * x.sz := by simp [vs]
  have hvs : ∀ k g, k < len → g < x.sz → vs[k * x.sz + g]? = (pf k).1[g]? := fun k g hk hg => by
   have h1 : k * x.sz + g < len * x.sz := by
    have := Nat.mul_le_mul_right x.sz (show k + 1 ≤ len by omega)
    rw [Nat.add_mul, Nat.one_mul] at this; omega
   have e1 : (k * x.sz + g) / x.sz = k := by rw [Nat.add_comm, Nat.add_mul_div_right _ _ hpos, Nat.div_eq_of_lt hg, Nat.zero_add]
   have e2 : (k * x.sz + g) % x.sz = g := by rw [Nat.add_comm, Nat.add_mul_mod_self_right, Nat.mod_eq_of_lt hg]
   have hlen2 := ((hpf k hk).1).1
   show ((List.range (len * x.sz)).map fun j => (pf (j / x.sz)).1.getD (j % x.sz) undef)[k * x.sz + g]? = _
   rw [List.getElem?_map, List.getElem?_range h1]
   show some ((pf ((k * x.sz + g) / x.sz)).1.getD ((k * x.sz + g) % x.sz) undef) = _
   rw [e1, e2, List.getD_eq_getElem?_getD, List.getElem?_eq_getElem (by omega)]; rfl
  obtain ⟨F, gv, g1, g2, g3⟩ := DR.mk (w := W) (x := x) (l := l) (A := some a) (cap := cap) e' (by rw [hll]; exact hl) hm (fun h => nomatch h) vs (fun ad had j u hu => by
   injection had with had; subst had
   have hj : j < len * x.sz := by rw [← hvl]; exact (List.getElem?_eq_some_iff.1 hu).1
   have hk : j / x.sz < len := Nat.div_lt_of_lt_mul (by rw [Nat.mul_comm]; exact hj)
   have hg : j % x.sz < x.sz := Nat.mod_lt _ hpos
   have := hvs _ _ hk hg
   rw [Nat.div_add_mod'] at this
   rw [this] at hu
   have h3 := ((hpf _ hk).1).2 _ u hu
   rwa [add_add, Nat.div_add_mod'] at h3) (by rw [hvl, hll]) (fun k y hy => by
   have hk : k < len := by rw [← hll]; exact (List.getElem?_eq_some_iff.1 hy).1
   have hy' : y = (pf k).2 := by
    have : l[k]? = some y := hy
    simp only [l, List.getElem?_map, List.getElem?_range hk, Option.map_some, Option.some.injEq] at this
    exact this.symm
   subst hy'
   obtain ⟨F, gv, d1, d2, d3⟩ := (hpf k hk).2
   exact ⟨F, gv, fun g hg => by rw [d1 g hg, hvs k g hk hg], d2, d3⟩)
  exact ⟨l, RdE.sl0 e' (g1.trans (by rw [hll])) g2 g3⟩
theorem op_struct {t : TypeId} {fs : Array Field} {x : Dsh} (ht : P.underlying t = some (.struct fs)) (hx : ∀ (cs : List Value), cs.length = P.cellsOf t → (∀ f ∈ fs.toList, ∃ n y, DataW.trod enc P W base (fun _ => true) held n f.type ((cs.drop f.offset).take (P.cellsOf f.type)) = some y) → ∃ v, RdE W x cs v) : OpE enc P W base held x t := fun fuel cs y h => by
 obtain ⟨xs, n, _, _, hl, hxl, hel⟩ := DataW.trod_struct ht h
 refine hx cs hl fun f hf => ?_
 obtain ⟨i, hi⟩ := List.mem_iff_getElem?.1 hf
 have h1 := hel i f (by rw [← Array.getElem?_toList]; exact hi)
 have hlt : i < xs.length := by rw [hxl, ← Array.length_toList]; exact (List.getElem?_eq_some_iff.1 hi).1
 rw [List.getElem?_eq_getElem hlt] at h1
 exact ⟨n, _, h1⟩
def OpF (enc : TypeId × Value → H) (P : Program) (W : World) (base : Nat) (held : Bool) (x : Dsh) (fs : List Field) (off : Nat) : Prop := ∀ (cs : List Value), off + x.sz ≤ cs.length → (∀ f ∈ fs, ∃ n y, DataW.trod enc P W base (fun _ => true) held n f.type ((cs.drop f.offset).take (P.cellsOf f.type)) = some y) → ∃ v, RdE W x ((cs.drop off).take x.sz) v
theorem op_f1 {x : Dsh} {f : Field} {off : Nat} (h1 : f.offset = off) (h2 : P.cellsOf f.type = x.sz) (hx : OpE enc P W base held x f.type) : OpF enc P W base held x [f] off := fun cs _ hf => by
 obtain ⟨n, y, h⟩ := hf f (by simp)
 rw [h1, h2] at h
 exact hx n _ y h
theorem op_f2 {a b : Dsh} {f : Field} {fs : List Field} {off : Nat} (h1 : f.offset = off) (h2 : P.cellsOf f.type = a.sz) (ha : OpE enc P W base held a f.type) (hb : OpF enc P W base held b fs (off + a.sz)) : OpF enc P W base held (.pr a b) (f :: fs) off := fun cs hl hf => by
 have hl' : off + (a.sz + b.sz) ≤ cs.length := hl
 obtain ⟨v, hv⟩ := op_f1 h1 h2 ha cs (by omega) (fun g hg => hf g (by simp at hg; simp [hg]))
 obtain ⟨u, hu⟩ := hb cs (by omega) (fun g hg => hf g (by simp [hg]))
 refine ⟨(v, u), RdE.pr ?_ ?_⟩
 ·rw [List.take_take]
  have : min a.sz (Dsh.pr a b).sz = a.sz := by show min a.sz (a.sz + b.sz) = _; omega
  rw [this]; exact hv
 ·rw [List.drop_take, List.drop_drop]
  have : (Dsh.pr a b).sz - a.sz = b.sz := by show a.sz + b.sz - a.sz = _; omega
  rw [this]; exact hu
structure OpOk (enc : TypeId × Value → H) (P : Program) (W : World) (base : Nat) (held : Bool) (x : Dsh) (s : Shb) : Prop where
 t : ∀ t, s.t t = true → OpE enc P W base held x t
 f : ∀ fs off, s.f fs off = true → OpF enc P W base held x fs off
theorem bInt_ok {k : IntKind} {t : TypeId} (h : bInt P k t = true) : P.underlying t = some (.int k) := by
 unfold bInt at h
 split at h
 ·rename_i k' hk; rw [hk, of_decide_eq_true h]
 ·cases h
theorem bSlI_ok {k : IntKind} {t : TypeId} (h : bSlI P k t = true) : ∃ e, P.underlying t = some (.slice e) ∧ P.underlying e = some (.int k) ∧ P.cellsOf e = 1 := by
 unfold bSlI at h
 split at h
 ·rename_i e he
  simp only [Bool.and_eq_true, beq_iff_eq] at h
  exact ⟨e, he, bInt_ok h.1, h.2⟩
 ·cases h
theorem op1 {x : Dsh} {f : TypeId → Bool} (hx : x.sz = 1) (h : ∀ t, f t = true → OpE enc P W base held x t) : OpOk enc P W base held x (shB1 P 1 f) := by
 refine ⟨h, fun fs off hf => ?_⟩
 have hf' : bF1 P 1 f fs off = true := hf
 unfold bF1 at hf'
 split at hf'
 ·simp only [Bool.and_eq_true, beq_iff_eq] at hf'
  exact op_f1 hf'.1.1 (hf'.1.2.trans hx.symm) (h _ hf'.2)
 ·cases hf'
theorem opPr {a b : Dsh} {s s' : Shb} (ha : OpOk enc P W base held a s) (hb : OpOk enc P W base held b s') (fs : List Field) (off : Nat) (h : bPr P a.sz s.t s'.f fs off = true) : OpF enc P W base held (.pr a b) fs off := by
 unfold bPr at h
 split at h
 ·simp only [Bool.and_eq_true, beq_iff_eq] at h
  exact op_f2 h.1.1.1 h.1.1.2 (ha.t _ h.1.2) (hb.f _ _ h.2)
 ·cases h
theorem opP2 {a b : Dsh} {s s' : Shb} (ha : OpOk enc P W base held a s) (hb : OpOk enc P W base held b s') : OpOk enc P W base held (.pr a b) ⟨bSt P (a.sz + b.sz) (bPr P a.sz s.t s'.f), bPr P a.sz s.t s'.f⟩ := by
 refine ⟨fun t h => ?_, fun fs off h => opPr ha hb fs off h⟩
 have h' : bSt P (a.sz + b.sz) (bPr P a.sz s.t s'.f) t = true := h
 unfold bSt at h'
 split at h'
 ·rename_i fs ht
  simp only [Bool.and_eq_true, beq_iff_eq] at h'
  refine op_struct ht fun cs hl hf => ?_
  have := opPr ha hb _ 0 h'.2 cs (by show 0 + (a.sz + b.sz) ≤ _; omega) hf
  rw [List.drop_zero, List.take_of_length_le (by rw [hl, h'.1]; exact Nat.le_refl _)] at this
  exact this
 ·cases h'
theorem op_of : ∀ (x : Dsh), OpOk enc P W base held x (shB P x)
 | .u8 => op1 rfl fun _ h => op_u8 (bInt_ok h)
 | .u32 => op1 rfl fun _ h => op_u32 (bInt_ok h)
 | .i64 => op1 rfl fun _ h => op_i64 (bInt_ok h)
 | .by e => op1 rfl fun _ h => by obtain ⟨_, h1, h2, h3⟩ := bSlI_ok h; exact op_by e h1 h2 h3
 | .wo e => op1 rfl fun _ h => by obtain ⟨_, h1, h2, h3⟩ := bSlI_ok h; exact op_wo e h1 h2 h3
 | .sl e x => op1 rfl fun _ h => by
  unfold bSl at h
  split at h
  ·rename_i ht
   simp only [Bool.and_eq_true, beq_iff_eq] at h
   exact op_sl e ht h.1 ((op_of x).t _ h.2)
  ·cases h
 | .pr a b => opP2 (op_of a) (op_of b)
theorem open_deep {x : Dsh} {e t : TypeId} {v : Value} {d : DataW H} {p : List MemPlace} (hb : (shB P (.sl e x)).t t = true) (hv : v.cells = #[v]) (h : DataW.Trod enc P W base (fun _ => true) held t v d p) :
  ∃ (l : List x.T) (q : Pl), v = .slice q.A q.n q.cap ∧ ∀ ρ, objR ρ W q ⟨.dp, e, x.sz, l.length, .d x l⟩ := by
 obtain ⟨m, hm⟩ := h
 rw [hv] at hm
 obtain ⟨l, hl⟩ := (op_of (enc := enc) (P := P) (W := W) (base := base) (held := held) (.sl e x)).t t hb m _ _ hm
 obtain ⟨q, h1, h2⟩ := hl.root e
 exact ⟨l, q, h1, h2⟩
end
end Go.Sx
end
