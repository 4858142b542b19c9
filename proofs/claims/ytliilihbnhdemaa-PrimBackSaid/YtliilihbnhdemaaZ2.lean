import Derived.Test.YtliilihbnhdemaaZ1
import Derived.Test.YtliilihbnhdemaaProg
import Derived.Shelf.RegionOpenPlain
import Derived.WalkKit
import Derived.Deep.LoopGhost
import Derived.Lib.Walk
import Derived.Sort.WalkB12
import Derived.Lib.SlicesMore
import Derived.Lib.MakeNoZero
import Derived.Laws.Externs
set_option linter.unusedVariables false
set_option linter.unusedSimpArgs false
section
namespace Go.Sx
open Go.RowKit Go.Ch
section
variable {P : Program} {T : Tab} {ft : Nat → FT} {ρ : Pls} {w w' : World} {bs : Bs} {w0 : World} {s s' : S} {a a' : Act} {N : Nat} {ops : Array Oper} {asm : List (Nat × Bool)}
def vA (asm : List (Nat × Bool)) (i : Nat) (r : List Prop × AV) : Option (List Prop × AV) := match asm.lookup i with
 | none => some r
 | some bv => match r with
  | (g, .c (.s (.b e))) => some (g ++ [e = bv], .c (.s (.b bv)))
  | _ => none
def puV (T : Tab) (asm : List (Nat × Bool)) (i : Nat) (o : Oper) (s : S) : Option (List Prop × AV) := match vop T s.H (ev0 s.fr s.gl) o.op with
 | some r => vA asm i r
 | none => none
def puG (T : Tab) (ops : Array Oper) (asm : List (Nat × Bool)) (i : Nat) (o : Oper) (s : S) : Option (List Prop × AV) := match o.guard with
 | none => puV T asm i o s
 | some (j, want) => match (ops[j]?).bind (·.dst) with
  | none => none
  | some dj => match s.fr.lookup dj with
   | some (.c (.s (.b b))) => (match b, want with
    | true, true => puV T asm i o s
    | false, false => puV T asm i o s
    | true, false => some ([], .t [])
    | false, true => some ([], .t []))
   | some (.t []) => some ([], .t [])
   | _ => none
def runP (T : Tab) (N : Nat) (ops : Array Oper) (asm : List (Nat × Bool)) : List Nat → S → Option (List Prop × S)
 | [], s => some ([], s)
 | i :: is, s => match ops[i]? with
  | none => none
  | some o => match dOk N o.dst, puG T ops asm i o s with
   | true, some (g, z) => (match runP T N ops asm is ⟨putF s.fr o.dst z, s.gl, s.H⟩ with
    | some (g2, s2) => some (g ++ g2, s2)
    | none => none)
   | _, _ => none
structure Ed where
 n : Nat
 m : Nat
 t : Nat
 ps : List Nat
 cs : List Co
 live : List Nat
 objs : List Nat
def stE (T : Tab) (ft : Nat → FT) (N : Nat) (ops : Array Oper) (asm : List (Nat × Bool)) (e : Ed) (s : S) : Option (List Prop × S) := match ops[e.m]? with
 | none => none
 | some o => match stG T ft N ops asm e.m o s with
  | none => none
  | some (g1, s1) => match runP T N ops asm e.ps s1 with
   | none => none
   | some (g2, s2) => match after e.cs e.live e.objs s2 with
    | none => none
    | some s3 => some (g1 ++ g2, s3)
def rdL (T : Tab) (ops : Array Oper) (asm : List (Nat × Bool)) (p : Nat) (s : S) : Option (Option (List Prop × AV)) := match ops[p]? with
 | some o => some (puG T ops asm p o s)
 | none => none
def rdR (ops : Array Oper) (g : List Prop) (p : Nat) (s : S) : Option (Option (List Prop × AV)) := match (ops[p]?).bind (·.dst) with
 | some d => (match s.fr.lookup d with | some z => some (some (g, z)) | none => none)
 | none => none
inductive AllE (T : Tab) (ft : Nat → FT) (N : Nat) (ops : Array Oper) (asm : List (Nat × Bool)) (sts : List S) (s : S) : List Ed → Prop
 | nil : AllE T ft N ops asm sts s []
 | cons {e : Ed} {l : List Ed} : (∃ g, stE T ft N ops asm e (sts.getD e.n s) = some (g, sts.getD e.t s) ∧ allP g) → AllE T ft N ops asm sts s l → AllE T ft N ops asm sts s (e :: l)
inductive AllR (T : Tab) (ops : Array Oper) (asm : List (Nat × Bool)) (sts : List S) (s : S) : List (Nat × Nat) → Prop
 | nil : AllR T ops asm sts s []
 | cons {k p : Nat} {l : List (Nat × Nat)} : (∃ g, rdL T ops asm p (sts.getD k s) = rdR ops g p (sts.getD k s) ∧ allP g) → AllR T ops asm sts s l → AllR T ops asm sts s ((k, p) :: l)
def okOps (ops : Array Oper) (N : Nat) (pu : List Nat) : Bool :=
 (List.range ops.size).all fun i => match ops[i]? with
  | none => false
  | some o => okEdges o (fun j => decide (j < i)) && ((match o.op with | .select _ _ => false | _ => true) &&
    (((o.looksAt ops).all fun t => pu.all fun p => match ops[p]? with | some q => q.dst != some t || inC ops i ops.size p | none => true) &&
    (!pu.contains i || (match o.dst with | some d => decide (d < N) | none => false))))
def okNode (ops : Array Oper) (pu : List Nat) (es : List Ed) (rd : List (Nat × Nat)) (k : Nat) (dn : List Nat) : Bool :=
 (List.range ops.size).all fun i => match dn.contains i with
  | true => !pu.contains i || (rd.contains (k, i) || dn.any fun m => !pu.contains m && (decide (m < ops.size) && inC ops m ops.size i))
  | false => (!pu.contains i && es.any fun e => Nat.beq e.n k && Nat.beq e.m i) || (List.range ops.size).any fun j => hasE ops i j && !dn.contains j
def okEdge (pu : List Nat) (nodes : List (List Nat)) (e : Ed) : Bool := match nodes[e.n]?, nodes[e.t]? with
 | some dn, some dt => !pu.contains e.m && (!dn.contains e.m && (e.ps.all (fun p => pu.contains p && !dn.contains p) && (dt.all (fun i => Nat.beq i e.m || (e.ps.contains i || dn.contains i)) && (dn.all (fun i => dt.contains i) && dt.contains e.m))))
 | _, _ => false
def okPlan (ops : Array Oper) (N : Nat) (pu : List Nat) (nodes : List (List Nat)) (ps0 : List Nat) (es : List Ed) (rd : List (Nat × Nat)) (fin : Nat) : Bool :=
 okOps ops N pu && (((List.range nodes.length).all fun k => okNode ops pu es rd k (nodes.getD k [])) && (es.all (okEdge pu nodes) &&
  ((ps0.all fun p => pu.contains p) && (((nodes.getD 0 []).all fun p => pu.contains p) && (decide (0 < nodes.length) &&
   ((List.range nodes.length).all fun k => Nat.beq k fin || (List.range ops.size).any fun i => !(nodes.getD k []).contains i))))))
structure Pln (ops : Array Oper) (N : Nat) (pu : List Nat) (nodes : List (List Nat)) (ps0 : List Nat) (es : List Ed) (rd : List (Nat × Nat)) (fin : Nat) : Prop where
 edges : ∀ (i : Nat) (o : Oper), ops[i]? = some o → okEdges o (fun j => decide (j < i)) = true
 nosel : ∀ (i : Nat) (o : Oper), ops[i]? = some o → ∀ cs b, o.op ≠ .select cs b
 look : ∀ (i : Nat) (o : Oper), ops[i]? = some o → ∀ t ∈ o.looksAt ops, ∀ p, p ∈ pu → ∀ (q : Oper), ops[p]? = some q → q.dst = some t → inC ops i ops.size p = true
 pdst : ∀ (p : Nat) (o : Oper), p ∈ pu → ops[p]? = some o → ∃ d, o.dst = some d ∧ d < N
 nin : ∀ k dn, nodes[k]? = some dn → ∀ i, i < ops.size → i ∈ dn → i ∈ pu → (k, i) ∈ rd ∨ ∃ m ∈ dn, m ∉ pu ∧ m < ops.size ∧ inC ops m ops.size i = true
 nout : ∀ k dn, nodes[k]? = some dn → ∀ i, i < ops.size → i ∉ dn → (i ∉ pu ∧ ∃ e ∈ es, e.n = k ∧ e.m = i) ∨ ∃ j, hasE ops i j = true ∧ j ∉ dn
 edge : ∀ e ∈ es, ∃ dn dt, nodes[e.n]? = some dn ∧ nodes[e.t]? = some dt ∧ e.m ∉ pu ∧ e.m ∉ dn ∧ (∀ p ∈ e.ps, p ∈ pu ∧ p ∉ dn) ∧ (∀ i ∈ dt, i = e.m ∨ i ∈ e.ps ∨ i ∈ dn) ∧ (∀ i ∈ dn, i ∈ dt) ∧ e.m ∈ dt
 start : ∀ p ∈ ps0, p ∈ pu
 zero : ∃ dn, nodes[0]? = some dn ∧ ∀ p ∈ dn, p ∈ pu
 last : ∀ k dn, nodes[k]? = some dn → (∀ i, i < ops.size → i ∈ dn) → k = fin
theorem Pln.of {pu : List Nat} {nodes : List (List Nat)} {ps0 : List Nat} {es : List Ed} {rd : List (Nat × Nat)} {fin : Nat} (h : okPlan ops N pu nodes ps0 es rd fin = true) : Pln ops N pu nodes ps0 es rd fin := by
 unfold okPlan at h
 simp only [Bool.and_eq_true] at h
 obtain ⟨h1, h2, h3, h4, h5, h6, h7⟩ := h
 have H : ∀ (i : Nat) (o : Oper), ops[i]? = some o → _ := fun i o ho => by
  have hi := (Array.getElem?_eq_some_iff.1 ho).1
  have := List.all_eq_true.1 h1 i (List.mem_range.2 hi)
  rw [ho] at this
  simp only [Bool.and_eq_true] at this
  exact this
 have nd : ∀ k dn, nodes[k]? = some dn → k < nodes.length ∧ nodes.getD k [] = dn := fun k dn hk => ⟨(List.getElem?_eq_some_iff.1 hk).1, by rw [List.getD_eq_getElem?_getD, hk]; rfl⟩
 refine ⟨fun i o ho => (H i o ho).1, fun i o ho cs b e => ?_, fun i o ho t ht p hp q hq hd => ?_, fun p o hp ho => ?_, fun k dn hk i hi hin hpu => ?_, fun k dn hk i hi hin => ?_, fun e he => ?_, fun p hp => ?_, ⟨nodes.getD 0 [], ?_, fun p hp => ?_⟩, fun k dn hk hall => ?_⟩
 ·have := (H i o ho).2.1
  rw [e] at this; cases this
 ·have := List.all_eq_true.1 (List.all_eq_true.1 (H i o ho).2.2.1 t ht) p hp
  rw [hq] at this
  simp only [hd, Bool.or_eq_true, bne_self_eq_false, Bool.false_eq_true, false_or] at this
  exact this
 ·have := (H p o ho).2.2.2
  rw [show pu.contains p = true by simpa using hp] at this
  simp only [Bool.not_true, Bool.false_or] at this
  cases hd : o.dst with
  | none => rw [hd] at this; cases this
  | some d => rw [hd] at this; exact ⟨d, rfl, by simpa using this⟩
 ·obtain ⟨hk1, hk2⟩ := nd k dn hk
  have := List.all_eq_true.1 (List.all_eq_true.1 h2 k (List.mem_range.2 hk1)) i (List.mem_range.2 hi)
  rw [hk2, show dn.contains i = true by simpa using hin, show pu.contains i = true by simpa using hpu] at this
  simp only [Bool.not_true, Bool.false_or, Bool.or_eq_true, List.any_eq_true, Bool.and_eq_true, decide_eq_true_eq, Bool.not_eq_true'] at this
  rcases this with h | ⟨m, hm, h1, h2, h3⟩
  ·exact .inl (by simpa using h)
  ·exact .inr ⟨m, hm, by simpa using h1, h2, h3⟩
 ·obtain ⟨hk1, hk2⟩ := nd k dn hk
  have := List.all_eq_true.1 (List.all_eq_true.1 h2 k (List.mem_range.2 hk1)) i (List.mem_range.2 hi)
  rw [hk2, show dn.contains i = false by simpa using hin] at this
  simp only [Bool.or_eq_true, List.any_eq_true, Bool.and_eq_true, Bool.not_eq_true'] at this
  rcases this with ⟨h, e, he, h1, h2⟩ | ⟨j, _, h1, h2⟩
  ·exact .inl ⟨by simpa using h, e, he, Nat.eq_of_beq_eq_true h1, Nat.eq_of_beq_eq_true h2⟩
  ·exact .inr ⟨j, h1, by simpa using h2⟩
 ·have := List.all_eq_true.1 h3 e he
  unfold okEdge at this
  split at this
  ·rename_i dn dt hn ht
   simp only [Bool.and_eq_true, List.all_eq_true, Bool.not_eq_true', Bool.or_eq_true] at this
   obtain ⟨g1, g2, g3, g4, g5, g6⟩ := this
   refine ⟨dn, dt, hn, ht, by simpa using g1, by simpa using g2, fun p hp => ?_, fun i hi => ?_, fun i hi => ?_, by simpa using g6⟩
   ·have := g3 p hp; exact ⟨by simpa using this.1, by simpa using this.2⟩
   ·rcases g4 i hi with h | h | h
    ·exact .inl (Nat.eq_of_beq_eq_true h)
    ·exact .inr (.inl (by simpa using h))
    ·exact .inr (.inr (by simpa using h))
   ·simpa using g5 i hi
  ·cases this
 ·simpa using List.all_eq_true.1 h4 p hp
 ·have h6' : 0 < nodes.length := by simpa using h6
  rw [List.getD_eq_getElem?_getD, List.getElem?_eq_getElem h6']; rfl
 ·simpa using List.all_eq_true.1 h5 p hp
 ·obtain ⟨hk1, hk2⟩ := nd k dn hk
  have := List.all_eq_true.1 h7 k (List.mem_range.2 hk1)
  simp only [Bool.or_eq_true, List.any_eq_true, List.mem_range, Bool.not_eq_true'] at this
  rcases this with h | ⟨i, hi, h⟩
  ·exact Nat.eq_of_beq_eq_true h
  ·rw [hk2] at h
   have := hall i hi
   simp only [List.contains_eq_mem, decide_eq_false_iff_not] at h
   exact absurd this h
theorem Act.same {a a' : Act} (h : a.tmps.size = a'.tmps.size) (hd : a.defers = a'.defers) (ht : ∀ t, a.tmps.getD t undef = a'.tmps.getD t undef) : a = a' := by
 obtain ⟨x, d⟩ := a; obtain ⟨y, d'⟩ := a'
 simp only at h hd ht
 subst hd
 have : x = y := by
  apply Array.ext h
  intro i h1 h2
  have := ht i
  simpa only [Array.getD_eq_getD_getElem?, Array.getElem?_eq_getElem h1, Array.getElem?_eq_getElem h2, Option.getD_some] using this
 rw [this]
end
end Go.Sx
end
section
namespace Go.Sx
open Go.RowKit Go.Ch
abbrev kI (n : Int) : AV := .c (.s (.k .i64 n))
abbrev kB (b : Bool) : AV := .c (.s (.b b))
abbrev kH (i : Nat) : AV := .c (.wh i)
abbrev kU (x : UInt8) : AV := .c (.s (.u8 x))
abbrev kX (x : UInt32) : AV := .c (.s (.u32 x))
abbrev kY (x : UInt64) : AV := .c (.s (.u64 x))
abbrev kE (t : TypeId) (o : Option Int) : AV := .c (.s (.er t .i64 o))
abbrev kP (i off : Nat) : AV := .c (.pt i off)
abbrev ob (e : TypeId) (l : List UInt8) : Oj := ⟨.ro false, e, 1, l.length, .b l⟩
abbrev ow (e : TypeId) (l : List UInt32) : Oj := ⟨.ro false, e, 1, l.length, .w l⟩
abbrev oz (e : TypeId) (l : List Int) : Oj := ⟨.ro false, e, 1, l.length, .z l⟩
abbrev nb (e : TypeId) (l : List UInt8) : Oj := ⟨.row, e, 1, l.length, .b l⟩
abbrev nw (e : TypeId) (l : List UInt32) : Oj := ⟨.row, e, 1, l.length, .w l⟩
abbrev nz (e : TypeId) (l : List Int) : Oj := ⟨.row, e, 1, l.length, .z l⟩
theorem aP {p : Prop} {ps : List Prop} (h : p) (hs : allP ps) : allP (p :: ps) := allP_cons.2 ⟨h, hs⟩
theorem aN : allP [] := allP_nil
section
variable {P : Program} {T : Tab} {ρ : Pls} {w w' : World} {bs : Bs} {w0 : World} {s : S} {a : Act} {N : Nat} {ft : Nat → FT} {Q : Exit → S → Prop}
theorem fT (k : Nat) {J : World → Prop} {f : FuncId} {F : Ct} {l : List (Nat × FuncId × Ct)} (h : FnOk P Tr f F) (hl : ∀ i, FtOk P J (ftL l i)) : ∀ i, FtOk P J (ftL ((k, f, F) :: l) i) := ftL_cons h (fun _ _ => True.intro) hl
theorem fN {J : World → Prop} : ∀ i, FtOk P J (ftL [] i) := ftL_nil
theorem Vr (hT : TabOk P T) {id : Nat} {l : List Oper} (objs : List Nat) (s' : S) (hQ : Q .normal s') (h : reg T (ftL []) N [] [] (s'.fr.map (·.1)) objs l s = some ([], s') := by kernel_rfl) :
  W P N bs w0 (.region id l.toArray false) s Q := W_reg hT ftL_nil [] [] _ objs h allP_nil hQ
theorem Vrs (hT : TabOk P T) {id : Nat} {l : List Oper} {y : Code} (objs : List Nat) (s' : S) (hQ : W P N bs w0 y s' Q) (h : reg T (ftL []) N [] [] (s'.fr.map (·.1)) objs l s = some ([], s') := by kernel_rfl) :
  W P N bs w0 (.seq (.region id l.toArray false) y) s Q := W_seq (Vr hT objs s' hQ h)
theorem Vg (hT : TabOk P T) (hF : ∀ i, FtOk P (Kp bs w0) (ft i)) {id : Nat} {l : List Oper} (asm : List (Nat × Bool)) (cs : List Co) (objs : List Nat) {g : List Prop} (s' : S) (hg : allP g) (hQ : Q .normal s') (h : reg T ft N asm cs (s'.fr.map (·.1)) objs l s = some (g, s') := by kernel_rfl) :
  W P N bs w0 (.region id l.toArray false) s Q := W_reg hT hF asm cs _ objs h hg hQ
theorem Vgs (hT : TabOk P T) (hF : ∀ i, FtOk P (Kp bs w0) (ft i)) {id : Nat} {l : List Oper} {y : Code} (asm : List (Nat × Bool)) (cs : List Co) (objs : List Nat) {g : List Prop} (s' : S) (hg : allP g) (hQ : W P N bs w0 y s' Q) (h : reg T ft N asm cs (s'.fr.map (·.1)) objs l s = some (g, s') := by kernel_rfl) :
  W P N bs w0 (.seq (.region id l.toArray false) y) s Q := W_seq (Vg hT hF asm cs objs s' hg hQ h)
theorem Vd (hT : TabOk P T) (hF : ∀ i, FtOk P (Kp bs w0) (ft i)) {id : Nat} {l : List Oper} (k : Nat) (asm ks : List (Nat × Bool)) (cs : List Co) (objs : List Nat) {g : List Prop} (s' : S) (hg : allP g) (hQ : Q .normal s')
  (hm : P.follows .mixedOrders = true := by kernel_rfl) (hr : (okRegion l.toArray k N && decide (k ≤ l.length)) = true := by kernel_rfl) (h : regD T ft N k asm ks cs (s'.fr.map (·.1)) objs l s = some (g, s') := by kernel_rfl) :
  W P N bs w0 (.region id l.toArray true) s Q := W_regD hT hF hm k asm ks cs _ objs hr h hg hQ
theorem Vds (hT : TabOk P T) (hF : ∀ i, FtOk P (Kp bs w0) (ft i)) {id : Nat} {l : List Oper} {y : Code} (k : Nat) (asm ks : List (Nat × Bool)) (cs : List Co) (objs : List Nat) {g : List Prop} (s' : S) (hg : allP g) (hQ : W P N bs w0 y s' Q)
  (hm : P.follows .mixedOrders = true := by kernel_rfl) (hr : (okRegion l.toArray k N && decide (k ≤ l.length)) = true := by kernel_rfl) (h : regD T ft N k asm ks cs (s'.fr.map (·.1)) objs l s = some (g, s') := by kernel_rfl) :
  W P N bs w0 (.seq (.region id l.toArray true) y) s Q := W_seq (Vd hT hF k asm ks cs objs s' hg hQ hm hr h)
theorem Vc {c : Code} (cs : List Co) (objs : List Nat) (s' : S) (hW : W P N bs w0 c s' Q) (h : after cs (s'.fr.map (·.1)) objs s = some s' := by kernel_rfl) : W P N bs w0 c s Q := W_co cs _ objs h hW
theorem Vi {t : Nat} {x y : Code} (b : Bool) (hx : b = true → W P N bs w0 x s Q) (hy : b = false → W P N bs w0 y s Q) (hb : s.fr.lookup t = some (.c (.s (.b b))) := by kernel_rfl) : W P N bs w0 (.cond (.tmp t) x y) s Q := W_cond hb hx hy
end
theorem gd2 {α : Type} {p q : Prop} [Decidable p] [Decidable q] {x : Option α} {r : α} (h : gd p (gd q x) = some r) : p ∧ q ∧ x = some r := ⟨(gd_some h).1, gd_some (gd_some h).2⟩
theorem gd3 {α : Type} {p q p3 : Prop} [Decidable p] [Decidable q] [Decidable p3] {x : Option α} {r : α} (h : gd p (gd q (gd p3 x)) = some r) : p ∧ q ∧ p3 ∧ x = some r := ⟨(gd_some h).1, gd2 (gd_some h).2⟩
theorem gd4 {α : Type} {p q p3 p4 : Prop} [Decidable p] [Decidable q] [Decidable p3] [Decidable p4] {x : Option α} {r : α} (h : gd p (gd q (gd p3 (gd p4 x))) = some r) : p ∧ q ∧ p3 ∧ p4 ∧ x = some r := ⟨(gd_some h).1, gd3 (gd_some h).2⟩
theorem gd5 {α : Type} {p q p3 p4 p5 : Prop} [Decidable p] [Decidable q] [Decidable p3] [Decidable p4] [Decidable p5] {x : Option α} {r : α} (h : gd p (gd q (gd p3 (gd p4 (gd p5 x)))) = some r) : p ∧ q ∧ p3 ∧ p4 ∧ p5 ∧ x = some r := ⟨(gd_some h).1, gd4 (gd_some h).2⟩
def ct0 (k : Hp → List Prop × AV × List Oj) : Ct := fun args H => match args with | [] => some (k H) | _ => none
def ctc {α : Type} (rd : Hp → AV → Option α) (k : AV → α → Ct) : Ct := fun args H => match args with | x :: xs => (match rd H x with | some a => k x a xs H | none => none) | [] => none
def ctl {α : Type} (rd : Hp → Option α) (k : α → Ct) : Ct := fun args H => match rd H with | some a => k a args H | none => none
theorem ct0_inv {k : Hp → List Prop × AV × List Oj} {args : List AV} {H : Hp} {g : List Prop} {av : AV} {os : List Oj} (h : ct0 k args H = some (g, av, os)) : args = [] ∧ (k H).1 = g ∧ (k H).2.1 = av ∧ (k H).2.2 = os := by
 unfold ct0 at h
 split at h
 ·injection h with h; rw [h]; exact ⟨rfl, rfl, rfl, rfl⟩
 ·cases h
theorem ctc_inv {α : Type} {rd : Hp → AV → Option α} {k : AV → α → Ct} {args : List AV} {H : Hp} {y : List Prop × AV × List Oj} (h : ctc rd k args H = some y) : ∃ x xs a, args = x :: xs ∧ rd H x = some a ∧ k x a xs H = some y := by
 cases args with
 | nil => cases h
 | cons x xs =>
  simp only [ctc] at h
  split at h
  ·rename_i a ha; exact ⟨x, xs, a, rfl, ha, h⟩
  ·cases h
theorem ctl_inv {α : Type} {rd : Hp → Option α} {k : α → Ct} {args : List AV} {H : Hp} {y : List Prop × AV × List Oj} (h : ctl rd k args H = some y) : ∃ a, rd H = some a ∧ k a args H = some y := by
 unfold ctl at h
 split at h
 ·rename_i a ha; exact ⟨a, ha, h⟩
 ·cases h
end Go.Sx
end
section
namespace Go.Sx
open Go.RowKit Go.Ch
structure Rd (α : Type) where
 rd : Hp → AV → Option α
 op : Nat → α → AV
 os : α → List Oj
 pr : α → Prop
 ok : ∀ {ρ : Pls} {w : World} {H : Hp} {x : AV} {a : α} {v : Value}, HpR ρ w H → rd H x = some a → avR ρ x v → pr a ∧ ∃ ps : List Pl, F2 (fun o p => ∀ ρ, objR ρ w p o) (os a) ps ∧ allRo (os a) = true ∧ ∀ (k : Nat) (ρ' : Pls), (∀ j p, ps[j]? = some p → ρ' (k + j) = p) → avR ρ' (op k a) v
structure RdL (α : Type) where
 n : Nat
 rd : Hp → List Cl → Option α
 op : Nat → α → List Cl
 os : α → List Oj
 ok : ∀ {ρ : Pls} {w : World} {H : Hp} {x : List Cl} {a : α} {v : List Value}, HpR ρ w H → rd H x = some a → F2 (clR ρ) x v → ∃ ps : List Pl, F2 (fun o p => ∀ ρ, objR ρ w p o) (os a) ps ∧ allRo (os a) = true ∧ ∀ (k : Nat) (ρ' : Pls), (∀ j p, ps[j]? = some p → ρ' (k + j) = p) → F2 (clR ρ') (op k a) v
theorem allRo_append : ∀ {a b : Hp}, allRo a = true → allRo b = true → allRo (a ++ b) = true
 | [], _, _, hb => hb
 | x :: l, b, ha, hb => by
  simp only [allRo, Bool.and_eq_true, List.cons_append] at ha ⊢
  exact ⟨ha.1, allRo_append ha.2 hb⟩
abbrev rB (e : TypeId) : Rd (List UInt8) := ⟨aB, fun k _ => kH k, fun l => [ob e l], fun _ => True, fun hp h hv => by
 obtain ⟨p, s, o⟩ := aB_ok hp h hv e
 exact ⟨True.intro, [p], F2.cons o F2.nil, rfl, fun k ρ' hk => by have e := hk 0 p rfl; rw [Nat.add_zero] at e; show _ = _; rw [e]; exact s⟩⟩
abbrev rW (e : TypeId) : Rd (List UInt32) := ⟨aW, fun k _ => kH k, fun l => [ow e l], fun _ => True, fun hp h hv => by
 obtain ⟨p, s, o⟩ := aW_ok hp h hv e
 exact ⟨True.intro, [p], F2.cons o F2.nil, rfl, fun k ρ' hk => by have e := hk 0 p rfl; rw [Nat.add_zero] at e; show _ = _; rw [e]; exact s⟩⟩
abbrev rZ (e : TypeId) : Rd (List Int) := ⟨aZ, fun k _ => kH k, fun l => [oz e l], fun _ => True, fun hp h hv => by
 obtain ⟨p, s, o⟩ := aZ_ok hp h hv e
 exact ⟨True.intro, [p], F2.cons o F2.nil, rfl, fun k ρ' hk => by have e := hk 0 p rfl; rw [Nat.add_zero] at e; show _ = _; rw [e]; exact s⟩⟩
abbrev rI : Rd Int := ⟨fun _ => aI, fun _ n => kI n, fun _ => [], fun _ => True, fun _ h hv => ⟨True.intro, [], F2.nil, rfl, fun _ _ _ => aI_ok h hv⟩⟩
abbrev rU8 : Rd UInt8 := ⟨fun _ => aU8, fun _ n => kU n, fun _ => [], fun _ => True, fun _ h hv => ⟨True.intro, [], F2.nil, rfl, fun _ _ _ => aU8_ok h hv⟩⟩
structure RdC (α : Type) where
 r : Rd α
 cl : Nat → α → Cl
 eq : ∀ k a, r.op k a = .c (cl k a)
abbrev cB (e : TypeId) : RdC (List UInt8) := ⟨rB e, fun k _ => .wh k, fun _ _ => rfl⟩
abbrev cI : RdC Int := ⟨rI, fun _ n => .s (.k .i64 n), fun _ _ => rfl⟩
abbrev lN : RdL Unit := ⟨0, fun _ x => match x with | [] => some () | _ => none, fun _ _ => [], fun _ => [], fun {ρ w H x a v} _ h hv => by
 cases x with
 | nil => exact ⟨[], F2.nil, rfl, fun _ _ _ => ⟨hv.1, fun j x y hx => by simp at hx⟩⟩
 | cons y ys => cases h⟩
abbrev lC {α β : Type} (c : RdC α) (l : RdL β) : RdL (α × β) := ⟨l.n + 1, fun H x => match x with | y :: ys => (match c.r.rd H (.c y) with | some a => (match l.rd H ys with | some b => some (a, b) | none => none) | none => none) | [] => none,
 fun k p => c.cl k p.1 :: l.op (k + (c.r.os p.1).length) p.2, fun p => c.r.os p.1 ++ l.os p.2, fun {ρ w H x a v} hp h hv => by
  cases x with
  | nil => cases h
  | cons y ys =>
   dsimp only at h
   split at h
   ·rename_i a1 h1
    split at h
    ·rename_i b1 h2
     injection h with h; subst h
     cases v with
     | nil => have := hv.1; simp at this
     | cons u us =>
      have hu : clR ρ y u := hv.2 0 y u rfl rfl
      have hus : F2 (clR ρ) ys us := ⟨by have := hv.1; simpa using this, fun j x y hx hy => hv.2 (j + 1) x y (by simpa using hx) (by simpa using hy)⟩
      obtain ⟨_, ps, f1, g1, k1⟩ := c.r.ok hp h1 (show avR ρ (.c y) u from hu)
      obtain ⟨qs, f2, g2, k2⟩ := l.ok hp h2 hus
      refine ⟨ps ++ qs, F2.append f1 f2, allRo_append g1 g2, fun k ρ' hk => ?_⟩
      have e1 := k1 k ρ' (fun j p hj => hk j p (by rw [List.getElem?_append_left (List.getElem?_eq_some_iff.1 hj).1]; exact hj))
      rw [c.eq] at e1
      refine F2.cons e1 (k2 _ ρ' fun j p hj => ?_)
      rw [f1.1, Nat.add_assoc]
      exact hk _ p (by rw [List.getElem?_append_right (by omega), Nat.add_sub_cancel_left]; exact hj)
    ·cases h
   ·cases h⟩
abbrev rSt {α : Type} (l : RdL α) : Rd α := ⟨fun H x => match aGc l.n x with | some y => l.rd H y | none => none, fun k a => .g l.n (.c (l.op k a)), l.os, fun _ => True, fun {ρ w H x a v} hp h hv => by
 split at h
 ·rename_i y hy
  have hg : ∃ vs : List Value, F2 (clR ρ) y vs ∧ vs.length = l.n ∧ v = .agg vs.toArray := by
   obtain ⟨vs, h1, rfl, h3⟩ := aGc_ok hy hv
   refine ⟨vs, ⟨?_, fun j x u hx hu => ?_⟩, h1, rfl⟩
   ·unfold aGc at hy
    split at hy
    ·split at hy
     ·rename_i hm
      simp only [Bool.and_eq_true] at hm
      injection hy with hy; subst hy
      rw [h1, ← Nat.eq_of_beq_eq_true hm.2]
     ·cases hy
    ·cases hy
   ·have := h3 j (by rw [← h1]; exact (List.getElem?_eq_some_iff.1 hu).1)
    rw [List.getD_eq_getElem?_getD, hx, List.getD_eq_getElem?_getD, hu] at this
    exact this
  obtain ⟨vs, h1, h2, rfl⟩ := hg
  obtain ⟨ps, f1, g1, k1⟩ := l.ok hp h h1
  exact ⟨True.intro, ps, f1, g1, fun k ρ' hk => ⟨vs, k1 k ρ' hk, h2, rfl⟩⟩
 ·cases h⟩
def HO (P : Program) (I : World → Prop) (f : FuncId) (F : Ct) (az : List AV) (os : Hp) : Prop :=
 ∀ (args : List AV) (H : Hp) (g : List Prop) (av : AV) (objs : List Oj), F args H = some (g, av, objs) → allP g → ∀ (ρ : Pls) (w : World) (vals : List Value), I w → HpR ρ w H → F2 (avR ρ) args vals →
  ∀ (ps : List Pl) (v0 : List Value), F2 (fun o p => ∀ ρ, objR ρ w p o) os ps → allRo os = true → (∀ ρ' : Pls, (∀ j p, ps[j]? = some p → ρ' j = p) → F2 (avR ρ') az v0) →
   Calls P f (v0 ++ vals).toArray w (Ret fun v w' => Ext w w' ∧ ∃ ps, Left ρ w H av objs v w' ps)
section
variable {P : Program} {I : World → Prop} {f : FuncId} {az : List AV} {os : Hp} {T : Tab}
theorem HO_c {α : Type} (r : Rd α) {K : α → Ct} (h : ∀ a, r.pr a → HO P I f (K a) (az ++ [r.op os.length a]) (os ++ r.os a)) : HO P I f (ctc r.rd fun _ => K) az os := by
 intro args H g av objs hF hg ρ w vals hI hp ha ps v0 f0 g0 k0
 obtain ⟨x, xs, a, rfl, hx, hF⟩ := ctc_inv hF
 obtain ⟨v, vs, rfl, hv, ha⟩ := F2.inv ha
 obtain ⟨hpr, qs, f1, g1, k1⟩ := r.ok hp hx hv
 have := h a hpr xs H g av objs hF hg ρ w vs hI hp ha (ps ++ qs) (v0 ++ [v]) (F2.append f0 f1) (allRo_append g0 g1) (fun ρ' hk => F2.append (k0 ρ' fun j p hj => hk j p (by rw [List.getElem?_append_left (List.getElem?_eq_some_iff.1 hj).1]; exact hj)) (F2.cons (k1 _ ρ' fun j p hj => by
  rw [f0.1]
  exact hk _ p (by rw [List.getElem?_append_right (by omega), Nat.add_sub_cancel_left]; exact hj)) F2.nil))
 rw [List.append_assoc] at this
 exact this
theorem HO_0 (hT : TabOk P T) (R : S) (rs : List ResultVar) (keep : List Nat) (n : Nat) {fn : Func} {c : Code} {gs : Prop} {x : AV} {os' : List Oj} (hf : P.funcs[f]? = some fn) (hW : ∀ w, I w → gs → W P n (noB (fun _ => undef)) w c ⟨args0 0 az, [], os⟩ (fun e s => (e = .ret ∨ e = .normal) ∧ s = R))
  (hb : fn.body = some c := by rfl) (hn : fn.ntmps = n := by rfl) (hres : fn.results = rs.toArray := by rfl) (hr : retS T R rs keep = some (x, os') := by kernel_rfl) (hl : Nat.ble az.length n = true := by kernel_rfl) :
  HO P I f (ct0 fun H => ([gs], shA H.length x, shH H.length os')) az os := by
 intro args H g av objs hF hg ρ w vals hI hp ha ps v0 f0 g0 k0
 obtain ⟨rfl, rfl, rfl, rfl⟩ := ct0_inv hF
 obtain rfl := F2.inv0 ha
 rw [List.append_nil]
 have hv := k0 (plL ps) (fun j p hj => by unfold plL; rw [hj])
 have hR0 := rel0 (gv := fun _ => undef) (n := n) (w := w) (gl := []) (hpL f0) (allRo_ok g0) hv GlR.nil (by rw [← hv.1]; exact Nat.le_of_ble_eq_true hl)
 refine calls_W hf hb hn hR0 (hW w hI hg) ?_
 rintro e s' ⟨he, rfl⟩
 exact ⟨he, fun a' w' hr' => retS_ok hT hr' (rs := rs) hres hr⟩
theorem fnok {F : Ct} {fn : Func} (hf : P.funcs[f]? = some fn) (h : HO P I f F [] []) (h1 : ((fn.name == "runtime.NumGoroutine") = false) := by kernel_rfl) (h2 : fn.body.isNone = false := by kernel_rfl) : FnOk P I f F :=
 ⟨fun args H g av objs hF hg ρ w vals hI hp ha => h args H g av objs hF hg ρ w vals hI hp ha [] [] F2.nil rfl (fun _ _ => F2.nil), fn, hf, h1, h2⟩
end
end Go.Sx
end
section
namespace Go.Proofs.Ytliilihbnhdemaa
open Go.RowKit Go.Ch Go.Sx
theorem cloneb_info : (Try.prog.info? 5).map (fun i => (i.zero, i.size, i.bytes)) = some (some (.int .u8 0), 1, 1) := by kernel_rfl
set_option maxHeartbeats 400000 in
set_option maxRecDepth 100000 in
theorem cloneb_c (w : World) (B : Nat) (v : Value) (l : List UInt8) (hv : Sl w B v (l.map bU)) (hl : l.length ≤ 1000000000000) :
  Calls Try.prog 49 #[v] w (Ret fun v' w' => Ext w w' ∧ Own w' w.heap.size 5 v' (l.map bU)) := by
 obtain ⟨i5, hi5, hz5, hs5, hb5⟩ := info_parts cloneb_info
 go_enter Try.func49, Try.ntmps49
 go_wp2_with (first
  | ((with_reducible refine g_at (d := 4) ?_); refine wpl_eq_nil rfl Try.underlying22 hv ?_; intro b4 hb4; try (conv in (Act.put _ _ _) => simp only [Act.put, List.setIfInBounds_toArray, List.set_cons_succ, List.set_cons_zero]))
  | ((with_reducible refine g_at (d := 5) ?_); refine wpl_buildSlice (vs := []) Try.underlying22 hi5 hz5 hs5 rfl (xs := []) rfl rfl rfl (by simp) (by omega) ?_; intro v5 w5 h5 hx5 ha5; try (conv in (Act.put _ _ _) => simp only [Act.put, List.setIfInBounds_toArray, List.set_cons_succ, List.set_cons_zero]))
  | ((with_reducible refine g_at (d := 7) ?_); refine wpl_append (v := v5) rfl rfl Try.underlying22 hi5 hz5 hs5 hb5 rfl h5 (hv.ext hx5) (bU_one l) (by first | omega | (simp <;> omega)) (by omega) hx5.size ?_; intro v7 w7 h7 hg7 ha7 hx7; try (conv in (Act.put _ _ _) => simp only [Act.put, List.setIfInBounds_toArray, List.set_cons_succ, List.set_cons_zero])))
 ·go_ret
  have := hb4 (by assumption)
  exact ⟨_, rfl, Below.refl _ _, by rw [this]; exact World.ownsRow_nil _ _ _ _⟩
 ·go_ret
  exact ⟨_, rfl, hx5.trans hx7, by simpa using h7⟩
def cloneb_ct : Ct := fun args H => match args with
 | [x] => (match aB H x with | some l => some ([l.length ≤ 1000000000000], .c (.wh H.length), [⟨.row, 5, 1, l.length, .b l⟩]) | none => none)
 | _ => none
theorem cloneb_h : FnOk Try.prog Tr 49 cloneb_ct := by
 refine ⟨fun args H g av objs hF hg ρ w vals hG hp ha => ?_, _, Try.func49, by kernel_rfl, by kernel_rfl⟩
 unfold cloneb_ct at hF
 split at hF
 ·split at hF
  ·rename_i x l hl
   simp only [Option.some.injEq, Prod.mk.injEq] at hF
   obtain ⟨rfl, rfl, rfl⟩ := hF
   obtain ⟨v, vals, rfl, k, ha⟩ := F2.inv ha
   obtain rfl := F2.inv0 ha
   obtain ⟨p, hI⟩ := aB_ok hp hl k 5
   have hb : l.length ≤ 1000000000000 := by simpa [allP] using hg
   exact calls_mono (cloneb_c w _ v l (hI.sl (fun _ _ h => csR_b.1 h) (by simp)) hb) fun v w' ⟨hx, hv⟩ => ⟨hx, left_row hv (fun _ => csR_b.2 rfl) (by simp)⟩
  ·cases hF
 ·cases hF
end Go.Proofs.Ytliilihbnhdemaa
end
section
namespace Go.Proofs.Ytliilihbnhdemaa
open Go.RowKit Go.Ch Go.Sx Go.Lib Go.Sort Go.Shelf Go.Proofs
theorem u8_info : (Try.prog.info? 5).map (fun i => (i.zero, i.size, i.bytes)) = some (some (.int .u8 0), 1, 1) := by kernel_rfl
set_option maxHeartbeats 1600000 in
set_option maxRecDepth 1000000 in
theorem rev_arr (blk off cap : Nat) (d : Array UInt8) (w : World) (hH : Holds bU w blk off d) (hsz : d.size ≤ 9223372036854775807) :
  Calls Try.prog 81 #[.slice (some ⟨blk, off, none⟩) d.size cap] w fun e w' => e = .returned (.tuple #[]) ∧ ∃ n, w' = putRow bU (Sort.ahead w n) blk off d.reverse := by
 have mixed : Try.prog.follows .mixedOrders = true := by kernel_rfl
 have t3 : Try.prog.underlying 3 = some (.int .i64) := by kernel_rfl
 have t4 : Try.prog.underlying 4 = some .bool := by kernel_rfl
 have t22 : Try.prog.underlying 22 = some (.slice 5) := by kernel_rfl
 have t5 : Try.prog.underlying 5 = some (.int .u8) := by kernel_rfl
 have a3 : ∀ w, (isAgg 3).run Try.prog w = .ok false w := fun w => run_isAgg_no t3 rfl
 have a4 : ∀ w, (isAgg 4).run Try.prog w = .ok false w := fun w => run_isAgg_no t4 rfl
 have a22 : ∀ w, (isAgg 22).run Try.prog w = .ok false w := fun w => run_isAgg_no t22 rfl
 have a23 : ∀ w, (isAgg 5).run Try.prog w = .ok false w := fun w => run_isAgg_no t5 rfl
 have z3 : ∀ w, (Go.sizeOf 3).run Try.prog w = .ok 1 w := fun w => by kernel_rfl
 have z4 : ∀ w, (Go.sizeOf 4).run Try.prog w = .ok 1 w := fun w => by kernel_rfl
 have z22 : ∀ w, (Go.sizeOf 22).run Try.prog w = .ok 1 w := fun w => by kernel_rfl
 have z23 : ∀ w, (Go.sizeOf 5).run Try.prog w = .ok 1 w := fun w => by kernel_rfl
 go_enter Try.func81, Try.ntmps81
 go_wp2
 go_loopg [2, 3] d.size (fun k s2 s3 wr => ∃ (i jn : Nat) (jz : Int) (dk : Array UInt8) (n : Nat), s2 = .int .i64 i ∧ s3 = .int .i64 jz ∧ ((i : Int) < jz → jz = jn ∧ jn < d.size) ∧ (¬ (i : Int) < jz → ¬ i < jn) ∧ jn - i ≤ k ∧
  dk.size = d.size ∧ wr = putRow bU (Sort.ahead w n) blk off dk ∧ reverseLoop i jn dk = reverseLoop 0 (d.size - 1) d)
 case atStart => exact ⟨0, d.size - 1, (d.size : Int) - 1, d, 0, rfl, rfl, fun h => ⟨by omega, by omega⟩, fun h => by omega, by omega, rfl, (putRow_self bU w blk off d hH).symm, rfl⟩
 case round =>
  obtain ⟨i, jn, jz, dk, n, rfl, rfl, h1, h2, hk, hds, hwr, heq⟩ := hrel
  by_cases hlt : (i : Int) < jz
  ·obtain ⟨rfl, hjn⟩ := h1 hlt
   have hij : i < jn := by omega
   have hHk : Holds bU wr blk off dk := by rw [hwr]; exact holds_putRow bU _ blk off d dk (holds_ahead bU w n blk off d hH) hds
   obtain ⟨ci, fi⟩ := hHk i (by omega)
   obtain ⟨cj, fj⟩ := hHk jn (by omega)
   simp only [bU] at ci cj
   have A : Aside (wr = putRow bU (Sort.ahead w n) blk off dk) := hwr
   clear hwr hHk hH h1 h2
   go_wp2_with fail
   go_region_o
   go_wp2
   go_roundg (jn - 1 - (i + 1))
   case measure => omega
   case rel =>
    rw [reverseLoop, if_pos hij] at heq
    exact ⟨i + 1, jn - 1, (jn : Int) - 1, swp dk i jn, n + 1, by simp, rfl, fun h => ⟨by omega, by omega⟩, fun h => by omega, Nat.le_refl _, by rw [size_swp]; exact hds,
     swap_world bU (by omega) (by omega) A.out (by first | rfl | simp [bU, getElem!_pos, show jn < dk.size by omega]) (by first | rfl | simp [bU, getElem!_pos, show i < dk.size by omega]), heq⟩
  ·have hnot := h2 hlt
   go_wp2
   go_end0
   refine ⟨rfl, n, ?_⟩
   rw [reverseLoop, if_neg hnot] at heq
   rw [← Lib.reverseLoop_reverse, ← heq]
theorem heap_put (w : World) (n blk : Nat) (d : Array UInt8) (k : Nat) : (putRow bU (Sort.ahead w n) blk 0 d).heap[k]? = if blk = k then (w.heap[k]?).map (onCells (putCells bU 0 d)) else w.heap[k]? := by
 show (w.heap.modify blk (onCells (putCells bU 0 d)))[k]? = _
 rw [Array.getElem?_modify]
theorem rev_c (w : World) (B : Nat) (v : Value) (l : List UInt8) (hv : Own w B 5 v (l.map bU)) (hne : l ≠ []) :
  Calls Try.prog 81 #[v] w (Ret fun v' w' => Own w' B 5 v (l.reverse.map bU) ∧ w.grownBy w' v.ownBlock) := by
 obtain ⟨h1, h2⟩ := hv
 rcases h2 with ⟨_, h0⟩ | ⟨g, cap, cur, rfl, hB, hg, hc, hm, hs, ht⟩
 ·rw [List.length_map] at h0
  exact absurd (List.eq_nil_of_length_eq_zero h0) hne
 ·rw [List.length_map] at *
  rw [Nat.mul_one] at ht hs
  have hlen : l.length ≤ cur.size := by omega
  have hH : Holds bU w g 0 l.toArray := by
   intro j hj
   have hj' : j < l.length := by simpa using hj
   have hcj : cur.toList[j]? = some (bU l[j]) := by
    have := congrArg (·[j]?) ht
    simp only [List.getElem?_take, if_pos hj', List.getElem?_map, List.getElem?_eq_getElem hj', Option.map_some] at this
    exact this
   refine ⟨?_, ?_⟩
   ·simp only [World.cell?, hg, Nat.zero_add]
    rw [getElem!_pos l.toArray j hj]
    simpa using hcj
   ·simp only [World.frozen?, hg]
    simp
  have hr := rev_arr g 0 cap l.toArray w hH (by simp; unfold maxLen at hm; omega)
  rw [List.size_toArray] at hr
  refine hr.mono fun e w' ⟨he, n, hw⟩ => ?_
  refine ⟨_, he, ?_, ?_⟩
  ·refine ⟨by simp, .inr ⟨g, cap, putCells bU 0 l.reverse.toArray cur, by simp, hB, ?_, by simpa using hc, hm, ?_, ?_⟩⟩
   ·rw [hw, List.reverse_toArray, heap_put, if_pos rfl, hg]; rfl
   ·simp [putCells, hs]
   ·apply List.ext_getElem?
    intro j
    simp only [List.length_map, List.length_reverse, Nat.mul_one, List.getElem?_take, putCells, Array.getElem?_toList, Array.getElem?_mapIdx, List.getElem?_map]
    by_cases hj : j < l.length
    ·have hjs : j < cur.size := by omega
     have hjr : j < l.reverse.length := by simpa using hj
     rw [if_pos hj, Array.getElem?_eq_getElem hjs, List.getElem?_eq_getElem hjr]
     simp only [Option.map_some, Nat.zero_le, true_and, Nat.zero_add, Nat.sub_zero, List.size_toArray, List.length_reverse, hj, if_true]
     rw [getElem!_pos l.reverse.toArray j (by simpa using hj)]
     simp
    ·rw [if_neg hj, List.getElem?_eq_none (by simpa using hj)]; rfl
  ·refine ⟨by rw [hw]; rfl, by rw [hw]; rfl, by rw [hw]; rfl, by rw [hw]; simp [putRow, mapBlock, Sort.ahead], fun k hk hne => ?_⟩
   rw [hw, List.reverse_toArray, heap_put, if_neg (fun h => hne (by rw [h]; rfl))]
section words
variable {P : Program} {w : World}
theorem run_or8 (t : TypeId) (ex ey : Operand) (x y : UInt8) (w : World) : binRun P .or t ex ey (bU x) (bU y) w = .ok (bU (x ||| y)) w := by
 have e : ∀ x : UInt8, BitVec.ofInt 8 (x.toNat : Int) = x.toBitVec := fun x => by
  rw [BitVec.ofInt_natCast]
  apply BitVec.eq_of_toNat_eq
  simp
 have b : ∀ r : BitVec 8, IntKind.u8.wrap (r.toNat : Int) = (r.toNat : Int) := fun r => by
  have := r.isLt
  rw [IntKind.wrap_u8]; omega
 simp only [binRun, bU, Sem.run_bind, guard_int, Result.andThen_ok]
 simp only [binOp, if_neg (show ¬ (IntKind.u8 ≠ IntKind.u8) by simp), Op.intBits, Sem.run_pure]
 show Result.ok (Value.int .u8 (IntKind.u8.wrap ((BitVec.ofInt 8 (x.toNat : Int) ||| BitVec.ofInt 8 (y.toNat : Int)).toNat : Int))) w = _
 rw [e, e, b]
 rfl
theorem run_gt32 (t : TypeId) (ex ey : Operand) (x y : UInt32) (w : World) : binRun P .gtr t ex ey (w32 x) (w32 y) w = .ok (.bool (decide (y < x))) w := by
 simp only [binRun, w32, Sem.run_bind, guard_int, Result.andThen_ok]
 simp only [binOp, if_neg (show ¬ (IntKind.u32 ≠ IntKind.u32) by simp), Op.intCmp, Sem.run_pure]
 congr 2
 rw [Bool.eq_iff_iff]
 simp [UInt32.lt_iff_toNat_lt]
end words
def grpT : Nat → UInt32 → List UInt8
 | 0, _ => []
 | f + 1, n => if n = 0 then [] else ((n &&& 127).toUInt8 ||| 128) :: grpT f (n >>> 7)
def grp (n : UInt32) : List UInt8 := ((n &&& 127).toUInt8 :: grpT 5 (n >>> 7)).reverse
theorem shr7 (n : UInt32) : (n >>> UInt32.ofNat 7).toNat = n.toNat / 128 := by
 rw [UInt32.toNat_shiftRight, Nat.shiftRight_eq_div_pow]; rfl
theorem shr7' (n : UInt32) : (n >>> 7) = (n >>> UInt32.ofNat 7) := rfl
set_option maxHeartbeats 800000 in
theorem group_c (w : World) (n : UInt32) :
  Calls Try.prog 65 #[w32 n] w (Ret fun v' w' => Ext w w' ∧ Own w' w.heap.size 5 v' ((grp n).map bU)) := by
 obtain ⟨i5, hi5, hz5, hs5, hb5⟩ := info_parts u8_info
 go_enter Try.func65, Try.ntmps65
 go_wp2_with (first
  | ((with_reducible refine g_at (d := 5) ?_); refine wpl_bin rfl rfl (by exact run_and32 _ _ _ n 127 _) ?_; try (conv in (Act.put _ _ _) => simp only [Act.put, List.setIfInBounds_toArray, List.set_cons_succ, List.set_cons_zero]))
  | ((with_reducible refine g_at (d := 6) ?_); refine wpl_conv rfl (by exact conv_wb Try.underlying89 Try.underlying5 _ _) ?_; try (conv in (Act.put _ _ _) => simp only [Act.put, List.setIfInBounds_toArray, List.set_cons_succ, List.set_cons_zero]))
  | ((with_reducible refine g_at (d := 7) ?_); refine wpl_buildSlice (vs := [bU (n &&& 127).toUInt8]) Try.underlying22 hi5 hz5 hs5 rfl (xs := [(.tmp 6)]) rfl rfl rfl (by intro u hu; simp at hu; subst hu; rfl) (by omega) ?_; intro v7 w7 h7 hx7 ha7; try (conv in (Act.put _ _ _) => simp only [Act.put, List.setIfInBounds_toArray, List.set_cons_succ, List.set_cons_zero]))
  | ((with_reducible refine g_at (d := 9) ?_); refine wpl_bin rfl rfl (by exact run_shr32 _ _ _ n .u64 7 (by decide) _) ?_; try (conv in (Act.put _ _ _) => simp only [Act.put, List.setIfInBounds_toArray, List.set_cons_succ, List.set_cons_zero]))
  | ((with_reducible refine g_at (d := 17) ?_); refine wpl_conv rfl (by exact conv_wb Try.underlying89 Try.underlying5 _ _) ?_; try (conv in (Act.put _ _ _) => simp only [Act.put, List.setIfInBounds_toArray, List.set_cons_succ, List.set_cons_zero])))
 generalize ha : (n &&& 127).toUInt8 = a at *
 generalize hm : n >>> UInt32.ofNat 7 = m0
 have hm0 : m0.toNat < 128 ^ 5 := by rw [← hm, shr7]; have := lt32 n; omega
 have hgrp : grp n = (a :: grpT 5 m0).reverse := by unfold grp; rw [ha, shr7', hm]
 have HG := Lib.hid hgrp
 clear hgrp hm ha
 go_loopw [0, 3] (fun nv o wr => ∃ (k : Nat) (m : UInt32) (xs : List UInt8), nv = w32 m ∧ k ≤ 5 ∧ m.toNat < 128 ^ k ∧ xs.length + k = 6 ∧ Own wr w.heap.size 5 o (xs.map bU) ∧ Ext w wr ∧ Hid (xs ++ grpT k m = a :: grpT 5 m0)) (fun nv _ _ => (RowKit.intOf nv).toNat)
 case atStart => exact ⟨5, m0, [a], rfl, Nat.le_refl _, hm0, rfl, h7, hx7, Lib.hid rfl⟩
 case round =>
  obtain ⟨k, m, xs, rfl, hk, hmk, hxl, ho, hx, hxs⟩ := hrel
  by_cases hz : m = 0
  ·have E11 : Hid (∀ t ex ey w, binRun Try.prog .gtr t ex ey (w32 m) (.int .u32 0) w = .ok (.bool false) w) := Lib.hid (fun t ex ey w => (run_gt32 t ex ey m 0 w).trans (by rw [hz]; rfl))
   have HZ := Lib.hid hz
   clear hz
   go_wp2_with (first
    | ((with_reducible refine g_at (d := 11) ?_); refine wpl_bin rfl rfl (by exact E11.out _ _ _ _) ?_; try (conv in (Act.put _ _ _) => simp only [Act.put, List.setIfInBounds_toArray, List.set_cons_succ, List.set_cons_zero]))
    | ((with_reducible refine g_at (d := 22) ?_); refine wpl_call Try.func81 (by kernel_rfl) (by kernel_rfl) rfl (rev_c _ _ _ xs ho (by intro h; rw [h] at hxl; simp at hxl; omega)) ?_; rintro v22 w22 ⟨h22, hg22⟩; try (conv in (Act.put _ _ _) => simp only [Act.put, List.setIfInBounds_toArray, List.set_cons_succ, List.set_cons_zero]))
    | ((with_reducible refine g_at (d := 6) ?_); refine wpl_conv rfl (by exact conv_wb Try.underlying89 Try.underlying5 _ _) ?_; try (conv in (Act.put _ _ _) => simp only [Act.put, List.setIfInBounds_toArray, List.set_cons_succ, List.set_cons_zero]))
    | ((with_reducible refine g_at (d := 17) ?_); refine wpl_conv rfl (by exact conv_wb Try.underlying89 Try.underlying5 _ _) ?_; try (conv in (Act.put _ _ _) => simp only [Act.put, List.setIfInBounds_toArray, List.set_cons_succ, List.set_cons_zero])))
   go_ret
   have hl : xs = a :: grpT 5 m0 := by
    have h := hxs.out
    rw [HZ.out] at h
    have h0 : grpT k 0 = [] := by cases k <;> rfl
    rwa [h0, List.append_nil] at h
   refine ⟨_, rfl, hx.grown hg22 hx.size (fun b hb => (ho.lt b hb).1), ?_⟩
   rw [HG.out, ← hl]; exact h22
  ·have E11 : Hid (∀ t ex ey w, binRun Try.prog .gtr t ex ey (w32 m) (.int .u32 0) w = .ok (.bool true) w) := Lib.hid (fun t ex ey w => (run_gt32 t ex ey m 0 w).trans (by
    rw [decide_eq_true (by
     rw [UInt32.lt_iff_toNat_lt]
     exact Nat.pos_of_ne_zero fun h => hz (UInt32.toNat_inj.1 h))]))
   have HZ := Lib.hid hz
   clear hz
   go_wp2_with (first
    | ((with_reducible refine g_at (d := 11) ?_); refine wpl_bin rfl rfl (by exact E11.out _ _ _ _) ?_; try (conv in (Act.put _ _ _) => simp only [Act.put, List.setIfInBounds_toArray, List.set_cons_succ, List.set_cons_zero]))
    | ((with_reducible refine g_at (d := 16) ?_); refine wpl_bin rfl rfl (by exact run_and32 _ _ _ m 127 _) ?_; try (conv in (Act.put _ _ _) => simp only [Act.put, List.setIfInBounds_toArray, List.set_cons_succ, List.set_cons_zero]))
    | ((with_reducible refine g_at (d := 17) ?_); refine wpl_conv rfl (by exact conv_wb Try.underlying89 Try.underlying5 _ _) ?_; try (conv in (Act.put _ _ _) => simp only [Act.put, List.setIfInBounds_toArray, List.set_cons_succ, List.set_cons_zero]))
    | ((with_reducible refine g_at (d := 18) ?_); refine wpl_bin rfl rfl (by exact run_or8 _ _ _ _ 128 _) ?_; try (conv in (Act.put _ _ _) => simp only [Act.put, List.setIfInBounds_toArray, List.set_cons_succ, List.set_cons_zero]))
    | ((with_reducible refine g_at (d := 19) ?_); refine wpl_buildSlice (vs := [bU ((m &&& 127).toUInt8 ||| 128)]) Try.underlying22 hi5 hz5 hs5 rfl (xs := [(.tmp 18)]) rfl rfl rfl (by intro u hu; simp at hu; subst hu; rfl) (by omega) ?_; intro v19 w19 h19 hx19 ha19; try (conv in (Act.put _ _ _) => simp only [Act.put, List.setIfInBounds_toArray, List.set_cons_succ, List.set_cons_zero]))
    | ((with_reducible refine g_at (d := 20) ?_); refine wpl_append (v := u3) rfl rfl Try.underlying22 hi5 hz5 hs5 hb5 rfl (ho.ext hx19) h19.sl (bU_one [_]) (by first | omega | (simp <;> omega)) (by omega) (Nat.le_trans hx.size hx19.size) ?_; intro v20 w20 h20 hg20 ha20 hx20; try (conv in (Act.put _ _ _) => simp only [Act.put, List.setIfInBounds_toArray, List.set_cons_succ, List.set_cons_zero]))
    | ((with_reducible refine g_at (d := 13) ?_); refine wpl_bin rfl rfl (by exact run_shr32 _ _ _ m .u64 7 (by decide) _) ?_; try (conv in (Act.put _ _ _) => simp only [Act.put, List.setIfInBounds_toArray, List.set_cons_succ, List.set_cons_zero]))
    | ((with_reducible refine g_at (d := 6) ?_); refine wpl_conv rfl (by exact conv_wb Try.underlying89 Try.underlying5 _ _) ?_; try (conv in (Act.put _ _ _) => simp only [Act.put, List.setIfInBounds_toArray, List.set_cons_succ, List.set_cons_zero])))
   go_roundw
   case rel =>
    have hm := HZ.out
    obtain ⟨k, rfl⟩ : ∃ k', k = k' + 1 := ⟨k - 1, by
     cases k with
     | zero => exact absurd (UInt32.toNat_inj.1 (show m.toNat = 0 by simpa using hmk)) hm
     | succ k => rfl⟩
    refine ⟨k, m >>> UInt32.ofNat 7, xs ++ [(m &&& 127).toUInt8 ||| 128], rfl, by omega, ?_, by rw [List.length_append, List.length_singleton]; omega, by rw [List.map_append]; exact h20, (hx.tr hx19).trans hx20, Lib.hid ?_⟩
    ·rw [shr7, Nat.div_lt_iff_lt_mul (by decide)]; rwa [Nat.pow_succ] at hmk
    ·have h := hxs.out
     rw [grpT, if_neg hm, shr7'] at h
     rw [List.append_assoc]; exact h
   case measure =>
    show (((m >>> UInt32.ofNat 7).toNat : Nat) : Int).toNat < ((m.toNat : Nat) : Int).toNat
    rw [shr7, Int.toNat_natCast, Int.toNat_natCast]
    have : m.toNat ≠ 0 := fun h => HZ.out (UInt32.toNat_inj.1 h)
    omega
def group_ct : Ct := fun args H => match args with
 | [.c (.s (.u32 x))] => some ([], .c (.wh H.length), [⟨.row, 5, 1, (grp x).length, .b (grp x)⟩])
 | _ => none
theorem group_h : FnOk Try.prog Tr 65 group_ct := by
 refine ⟨fun args H g av objs hF hg ρ w vals hG hp ha => ?_, _, Try.func65, by kernel_rfl, by kernel_rfl⟩
 unfold group_ct at hF
 split at hF
 ·rename_i x
  simp only [Option.some.injEq, Prod.mk.injEq] at hF
  obtain ⟨rfl, rfl, rfl⟩ := hF
  obtain ⟨v, vals, rfl, k, ha⟩ := F2.inv ha
  obtain rfl := F2.inv0 ha
  have e : v = w32 x := k
  rw [e]
  exact calls_mono (group_c w x) fun v w' ⟨hx, hv⟩ => ⟨hx, left_row hv (fun _ => csR_b.2 rfl) (by simp)⟩
 ·cases hF
end Go.Proofs.Ytliilihbnhdemaa
end
section
namespace Go.Proofs.Ytliilihbnhdemaa
open Go.RowKit Go.Ch Go.Sx
def tabL_pr : List (TypeId × Ti) := [(2, ⟨.int .i64, 1, 8, true, some [.int .i64]⟩),
 (3, ⟨.int .i64, 1, 8, true, some [.int .i64]⟩),
 (5, ⟨.int .u8, 1, 1, true, some [.int .u8]⟩),
 (9, ⟨.str, 1, 16, true, some [.str]⟩),
 (22, ⟨.sl 5, 1, 24, false, some [.nils]⟩),
 (28, ⟨.ifc, 1, 16, true, some [.ifc]⟩),
 (31, ⟨.int .i64, 1, 8, true, some [.int .i64]⟩),
 (34, ⟨.st [(3, 0), (3, 1), (3, 2), (3, 3), (3, 4), (3, 5)], 6, 48, true, some [.int .i64, .int .i64, .int .i64, .int .i64, .int .i64, .int .i64]⟩),
 (60, ⟨.sl 89, 1, 24, false, some [.nils]⟩),
 (76, ⟨.sl 3, 1, 24, false, some [.nils]⟩),
 (89, ⟨.int .u32, 1, 4, true, some [.int .u32]⟩),
 (91, ⟨.int .i8, 1, 1, true, some [.int .i8]⟩),
 (102, ⟨.int .u64, 1, 8, true, some [.int .u64]⟩)]
def tab_pr : Tab := fun t => (tabL_pr).lookup t
theorem tabE_pr : (tabL_pr.map fun p => tiOf Try.prog p.1) = tabL_pr.map fun p => some p.2 := by kernel_rfl
theorem tabO_pr : TabOk Try.prog tab_pr := tab_of tabE_pr
def pspare (n : Nat) (a0 : List UInt8) : Option (Bool) :=
 gd (0 ≤ (0 : Int)) <|
 gd ((0 : Int) < ((a0.length : Nat) : Int)) <|
 bif ((a0.getD 0 0) == 0) then
 gd (0 ≤ (1 : Int)) <|
 gd ((1 : Int) < ((a0.length : Nat) : Int)) <|
 bif (decide ((a0.getD 1 0) < (128 : UInt8))) then
 some true
 else
 gd (0 ≤ (0 : Int)) <|
 gd ((0 : Int) < ((a0.length : Nat) : Int)) <|
 bif ((a0.getD 0 0) == 255) then
 gd (0 ≤ (1 : Int)) <|
 gd ((1 : Int) < ((a0.length : Nat) : Int)) <|
 some (decide ((128 : UInt8) ≤ (a0.getD 1 0)))
 else
 some false
 else
 gd (0 ≤ (0 : Int)) <|
 gd ((0 : Int) < ((a0.length : Nat) : Int)) <|
 bif ((a0.getD 0 0) == 255) then
 gd (0 ≤ (1 : Int)) <|
 gd ((1 : Int) < ((a0.length : Nat) : Int)) <|
 some (decide ((128 : UInt8) ≤ (a0.getD 1 0)))
 else
 some false
def pReadInt_l1 (n : Nat) (a0 : List UInt8) : Nat → Int → Int → Option (Int × Option Int)
 | 0, _, _ => none
 | fu_l1 + 1, i4_2, i34_2 =>
 bif (decide (i34_2 < (((a0.length - 1) : Nat) : Int))) then
 gd (0 ≤ i34_2) <|
 gd (i34_2 < (((a0.length - 1) : Nat) : Int)) <|
 gd (0 ≤ (8 : Int)) <|
 gd ((8 : Int) ≤ (((IntKind.i64).bits : Nat) : Int)) <|
 gd (okI .i64 (i4_2 * 2 ^ 8)) <|
 gd (okI .i64 (i34_2 + 1)) <|
 (pReadInt_l1 n a0 fu_l1) (bitI .or .i64 (i4_2 * 2 ^ 8) (((((a0.drop 1).take (a0.length - 1)).getD i34_2.toNat 0).toNat : Nat) : Int)) (i34_2 + 1)
 else
 some (i4_2, none)
def pReadInt_l2 (n : Nat) (a0 : List UInt8) : Nat → Int → Int → Option (Int × Option Int)
 | 0, _, _ => none
 | fu_l2 + 1, i4_3, i34_3 =>
 bif (decide (i34_3 < (((a0.length - 1) : Nat) : Int))) then
 gd (0 ≤ i34_3) <|
 gd (i34_3 < (((a0.length - 1) : Nat) : Int)) <|
 gd (0 ≤ (8 : Int)) <|
 gd ((8 : Int) ≤ (((IntKind.i64).bits : Nat) : Int)) <|
 gd (okI .i64 (i4_3 * 2 ^ 8)) <|
 gd (okI .i64 (i34_3 + 1)) <|
 (pReadInt_l2 n a0 fu_l2) (bitI .or .i64 (i4_3 * 2 ^ 8) (((((a0.drop 1).take (a0.length - 1)).getD i34_3.toNat 0).toNat : Nat) : Int)) (i34_3 + 1)
 else
 some (i4_3, none)
def pReadInt (n : Nat) (a0 : List UInt8) : Option (Int × Option Int) :=
 bif (((a0.length : Nat) : Int) == 0) then
  some (0, (some 2))
 else
  bif (decide ((1 : Int) < ((a0.length : Nat) : Int))) then
   (pspare n a0).bind fun r17 =>
   bif r17 then
    some (0, (some 2))
   else
    bif (decide ((8 : Int) < ((a0.length : Nat) : Int))) then
     some (0, (some 4))
    else
     gd (0 ≤ (0 : Int)) <|
     gd ((0 : Int) < ((a0.length : Nat) : Int)) <|
     gd (okI .i64 (IntKind.i8.wrap (((a0.getD 0 0).toNat : Nat) : Int))) <|
     gd (0 ≤ (1 : Int)) <|
     gd ((1 : Int) ≤ ((a0.length : Nat) : Int)) <|
     pReadInt_l1 n a0 n (IntKind.i8.wrap (((a0.getD 0 0).toNat : Nat) : Int)) 0
  else
   bif (decide ((8 : Int) < ((a0.length : Nat) : Int))) then
    some (0, (some 4))
   else
    gd (0 ≤ (0 : Int)) <|
    gd ((0 : Int) < ((a0.length : Nat) : Int)) <|
    gd (okI .i64 (IntKind.i8.wrap (((a0.getD 0 0).toNat : Nat) : Int))) <|
    gd (0 ≤ (1 : Int)) <|
    gd ((1 : Int) ≤ ((a0.length : Nat) : Int)) <|
    pReadInt_l2 n a0 n (IntKind.i8.wrap (((a0.getD 0 0).toNat : Nat) : Int)) 0
def pident (n : Nat) (a0 : List UInt32) : Option (Bool) :=
 bif (decide (((a0.length : Nat) : Int) < (2 : Int))) then
 some false
 else
 bif (decide ((16 : Int) < ((a0.length : Nat) : Int))) then
 some false
 else
 gd (0 ≤ (0 : Int)) <|
 gd ((0 : Int) < ((a0.length : Nat) : Int)) <|
 bif (decide ((2 : UInt32) < (a0.getD 0 0))) then
 some false
 else
 gd (0 ≤ (0 : Int)) <|
 gd ((0 : Int) < ((a0.length : Nat) : Int)) <|
 bif (decide ((a0.getD 0 0) < (2 : UInt32))) then
 gd (0 ≤ (1 : Int)) <|
 gd ((1 : Int) < ((a0.length : Nat) : Int)) <|
 some (decide ((a0.getD 1 0) < (40 : UInt32)))
 else
 gd (0 ≤ (1 : Int)) <|
 gd ((1 : Int) < ((a0.length : Nat) : Int)) <|
 some (decide ((((a0.getD 1 0).toUInt64) + (80 : UInt64)) < (4294967296 : UInt64)))
def pOid_l1 (n : Nat) (a0 : List UInt32) : Nat → List UInt8 → Int → Option (List UInt8 × Option Int)
 | 0, _, _ => none
 | fu_l1 + 1, l4_1, i23_1 =>
 bif (decide (i23_1 < (((a0.length - 2) : Nat) : Int))) then
 gd (0 ≤ i23_1) <|
 gd (i23_1 < (((a0.length - 2) : Nat) : Int)) <|
 gd (rmB (l4_1.length + ((grp (((a0.drop 2).take (a0.length - 2)).getD i23_1.toNat 0)).length)) 1) <|
 gd (okI .i64 (i23_1 + 1)) <|
 (pOid_l1 n a0 fu_l1) (l4_1 ++ (grp (((a0.drop 2).take (a0.length - 2)).getD i23_1.toNat 0))) (i23_1 + 1)
 else
 some (l4_1, none)
def pOid (n : Nat) (a0 : List UInt32) : Option (List UInt8 × Option Int) :=
 (pident n a0).bind fun r8 =>
 bif (!r8) then
  some ([], (some 1))
 else
  gd (0 ≤ (0 : Int)) <|
  gd ((0 : Int) < ((a0.length : Nat) : Int)) <|
  gd (0 ≤ (1 : Int)) <|
  gd ((1 : Int) < ((a0.length : Nat) : Int)) <|
  gd (0 ≤ (2 : Int)) <|
  gd ((2 : Int) ≤ ((a0.length : Nat) : Int)) <|
  pOid_l1 n a0 n (grp (((40 : UInt32) * (a0.getD 0 0)) + (a0.getD 1 0))) 0
def pleap (n : Nat) (a0 : Int) : Option (Bool) :=
 gd ((4 : Int) ≠ 0) <|
 bif ((Int.tmod a0 4) == 0) then
 gd ((100 : Int) ≠ 0) <|
 bif ((Int.tmod a0 100) != 0) then
 some true
 else
 gd ((400 : Int) ≠ 0) <|
 some ((Int.tmod a0 400) == 0)
 else
 some false
def pdays_j1 (n : Nat) (a0 : Int) (a1 : Int) (p6_1 : Bool) : Option (Int) :=
 bif p6_1 then
  some 30
 else
  bif (a1 == 2) then
   (pleap n a0).bind fun r14 =>
   bif r14 then
    some 29
   else
    some 28
  else
   some 31
def pdays (n : Nat) (a0 : Int) (a1 : Int) : Option (Int) :=
 bif (a1 == 4) then
 pdays_j1 n a0 a1 (a1 == 4)
 else
 bif (a1 == 6) then
 pdays_j1 n a0 a1 (a1 == 6)
 else
 bif (a1 == 9) then
 pdays_j1 n a0 a1 (a1 == 9)
 else
 pdays_j1 n a0 a1 (a1 == 11)
def pvalid (n : Nat) (a0_0 : Int) (a0_1 : Int) (a0_2 : Int) (a0_3 : Int) (a0_4 : Int) (a0_5 : Int) : Option (Bool) :=
 bif (decide (a0_0 < (1 : Int))) then
  some false
 else
  bif (decide ((9999 : Int) < a0_0)) then
   some false
  else
   bif (decide (a0_1 < (1 : Int))) then
    some false
   else
    bif (decide ((12 : Int) < a0_1)) then
     some false
    else
     bif (decide (a0_2 < (1 : Int))) then
      some false
     else
      (pdays n a0_0 a0_1).bind fun r33 =>
      bif (decide (r33 < a0_2)) then
       some false
      else
       bif (decide ((0 : Int) ≤ a0_3)) then
        bif (decide (a0_3 ≤ (23 : Int))) then
         bif (decide ((0 : Int) ≤ a0_4)) then
          bif (decide (a0_4 ≤ (59 : Int))) then
           bif (decide ((0 : Int) ≤ a0_5)) then
            some (decide (a0_5 ≤ (59 : Int)))
           else
            some false
          else
           some false
         else
          some false
        else
         some false
       else
        some false
def pTime_l1 (n : Nat) (b5_1 : UInt8) (z6_1 : List Int) (m6_1 : Nat) : Nat → List UInt8 → Int → Option (UInt8 × List UInt8 × Option Int)
 | 0, _, _ => none
 | fu_l1 + 1, l7_1, i43_1 =>
 bif (decide (i43_1 < ((m6_1 : Nat) : Int))) then
 gd (0 ≤ i43_1) <|
 gd (i43_1 < ((m6_1 : Nat) : Int)) <|
 gd ((10 : Int) ≠ 0) <|
 gd (okI .i64 (Int.tdiv (z6_1.getD i43_1.toNat 0) 10)) <|
 gd (okI .i64 (48 + (Int.tdiv (z6_1.getD i43_1.toNat 0) 10))) <|
 gd ((10 : Int) ≠ 0) <|
 gd (okI .i64 (48 + (Int.tmod (z6_1.getD i43_1.toNat 0) 10))) <|
 gd (rmB (l7_1.length + 2) 1) <|
 gd (okI .i64 (i43_1 + 1)) <|
 (pTime_l1 n b5_1 z6_1 m6_1 fu_l1) (l7_1 ++ [(UInt8.ofInt (48 + (Int.tdiv (z6_1.getD i43_1.toNat 0) 10))), (UInt8.ofInt (48 + (Int.tmod (z6_1.getD i43_1.toNat 0) 10)))]) (i43_1 + 1)
 else
 gd (rmB (l7_1.length + 1) 1) <|
 some (b5_1, (l7_1 ++ [90]), none)
def pTime_j1 (n : Nat) (b5_1 : UInt8) (z6_1 : List Int) (m6_1 : Nat) : Option (UInt8 × List UInt8 × Option Int) :=
 pTime_l1 n b5_1 z6_1 m6_1 n [] 0
def pTime (n : Nat) (a0_0 : Int) (a0_1 : Int) (a0_2 : Int) (a0_3 : Int) (a0_4 : Int) (a0_5 : Int) : Option (UInt8 × List UInt8 × Option Int) :=
 (pvalid n a0_0 a0_1 a0_2 a0_3 a0_4 a0_5).bind fun r11 =>
 bif (!r11) then
  some (0, [], (some 1))
 else
  gd ((100 : Int) ≠ 0) <|
  gd (okI .i64 (Int.tdiv a0_0 100)) <|
  gd ((100 : Int) ≠ 0) <|
  bif (decide ((1950 : Int) ≤ a0_0)) then
   bif (decide (a0_0 < (2050 : Int))) then
    gd (0 ≤ (1 : Int)) <|
    gd ((1 : Int) ≤ (7 : Int)) <|
    pTime_j1 n 23 (([(Int.tdiv a0_0 100), (Int.tmod a0_0 100), a0_1, a0_2, a0_3, a0_4, a0_5].drop 1).take 6) 6
   else
    pTime_j1 n 24 [(Int.tdiv a0_0 100), (Int.tmod a0_0 100), a0_1, a0_2, a0_3, a0_4, a0_5] 7
  else
   pTime_j1 n 24 [(Int.tdiv a0_0 100), (Int.tmod a0_0 100), a0_1, a0_2, a0_3, a0_4, a0_5] 7
def pahead (n : Nat) (a0 : Int) : Option (Int) :=
 gd (okI .i64 (a0 - 1)) <|
 gd (okI .i64 (365 * (a0 - 1))) <|
 gd ((4 : Int) ≠ 0) <|
 gd (okI .i64 (Int.tdiv (a0 - 1) 4)) <|
 gd (okI .i64 ((365 * (a0 - 1)) + (Int.tdiv (a0 - 1) 4))) <|
 gd ((100 : Int) ≠ 0) <|
 gd (okI .i64 (Int.tdiv (a0 - 1) 100)) <|
 gd (okI .i64 (((365 * (a0 - 1)) + (Int.tdiv (a0 - 1) 4)) - (Int.tdiv (a0 - 1) 100))) <|
 gd ((400 : Int) ≠ 0) <|
 gd (okI .i64 (Int.tdiv (a0 - 1) 400)) <|
 gd (okI .i64 ((((365 * (a0 - 1)) + (Int.tdiv (a0 - 1) 4)) - (Int.tdiv (a0 - 1) 100)) + (Int.tdiv (a0 - 1) 400))) <|
 some ((((365 * (a0 - 1)) + (Int.tdiv (a0 - 1) 4)) - (Int.tdiv (a0 - 1) 100)) + (Int.tdiv (a0 - 1) 400))
def pCount_l1 (n : Nat) (a0_0 : Int) (a0_1 : Int) (a0_2 : Int) (a0_3 : Int) (a0_4 : Int) (a0_5 : Int) : Nat → Int → Int → Option (Int × Option Int)
 | 0, _, _ => none
 | fu_l1 + 1, i4_1, i5_1 =>
  bif (decide (i5_1 < a0_1)) then
   (pdays n a0_0 i5_1).bind fun r27_2 =>
   gd (okI .i64 (i4_1 + r27_2)) <|
   gd (okI .i64 (i5_1 + 1)) <|
   (pCount_l1 n a0_0 a0_1 a0_2 a0_3 a0_4 a0_5 fu_l1) (i4_1 + r27_2) (i5_1 + 1)
  else
   gd (okI .i64 (i4_1 * 86400)) <|
   gd (okI .i64 (a0_3 * 3600)) <|
   gd (okI .i64 (a0_4 * 60)) <|
   gd (okI .i64 ((a0_3 * 3600) + (a0_4 * 60))) <|
   gd (okI .i64 (((a0_3 * 3600) + (a0_4 * 60)) + a0_5)) <|
   gd (okI .i64 ((i4_1 * 86400) + (((a0_3 * 3600) + (a0_4 * 60)) + a0_5))) <|
   some (((i4_1 * 86400) + (((a0_3 * 3600) + (a0_4 * 60)) + a0_5)), none)
def pCount (n : Nat) (a0_0 : Int) (a0_1 : Int) (a0_2 : Int) (a0_3 : Int) (a0_4 : Int) (a0_5 : Int) : Option (Int × Option Int) :=
 (pvalid n a0_0 a0_1 a0_2 a0_3 a0_4 a0_5).bind fun r7 =>
 bif (!r7) then
  some (0, (some 1))
 else
  (pahead n a0_0).bind fun r12 =>
  gd (okI .i64 (a0_2 - 1)) <|
  gd (okI .i64 (r12 + (a0_2 - 1))) <|
  pCount_l1 n a0_0 a0_1 a0_2 a0_3 a0_4 a0_5 n (r12 + (a0_2 - 1)) 1
def pInt_j1 (n : Nat) (l3_6 : List UInt8) (m3_4 : Nat) : Option (List UInt8) :=
 gd ((l3_6).length ≤ 1000000000000) <|
 some l3_6
def pInt_l2 (n : Nat) : Nat → List UInt8 → Nat → Option (List UInt8)
 | 0, _, _ => none
 | fu_l2 + 1, l3_7, m3_5 =>
  bif (decide ((1 : Int) < ((m3_5 : Nat) : Int))) then
   (pspare n l3_7).bind fun r21_5 =>
   bif r21_5 then
    gd (0 ≤ (1 : Int)) <|
    gd ((1 : Int) ≤ ((m3_5 : Nat) : Int)) <|
    (pInt_l2 n fu_l2) ((l3_7.drop 1).take (m3_5 - 1)) (m3_5 - 1)
   else
    pInt_j1 n l3_7 m3_5
  else
   pInt_j1 n l3_7 m3_5
def pInt_l1 (n : Nat) (a0 : Int) : Nat → List UInt8 → Int → Option (List UInt8)
 | 0, _, _ => none
 | fu_l1 + 1, l3_4, i4_1 =>
 bif (decide ((0 : Int) ≤ i4_1)) then
 gd (0 ≤ i4_1) <|
 gd (i4_1 ≤ (((IntKind.i64).bits : Nat) : Int)) <|
 gd (rmB (l3_4.length + 1) 1) <|
 gd (okI .i64 (i4_1 - 8)) <|
 (pInt_l1 n a0 fu_l1) (l3_4 ++ [(UInt8.ofInt (a0 / 2 ^ i4_1.toNat))]) (i4_1 - 8)
 else
 pInt_l2 n n l3_4 l3_4.length
def pInt (n : Nat) (a0 : Int) : Option (List UInt8) :=
 pInt_l1 n a0 n [] 56
def pup (n : Nat) : Option (Bool) :=
 (pReadInt n [0, 127]).bind fun r12 =>
 (pOid n [1, 2, 840, 113549]).bind fun r17 =>
 (pTime n 2049 12 31 23 59 59).bind fun r22 =>
 (pCount n 1 1 1 0 0 1).bind fun r28 =>
 (pInt n (-129)).bind fun r31 =>
 bif (r31 == ([255, 127] : List UInt8)) then
  gd (¬((r12.2 : Option Int) = none ∧ ((some 2) : Option Int) = none)) <|
  bif (r12.2 == (some 2)) then
   bif ((r17.2).isNone) then
    bif (r17.1 == ([42, 134, 72, 134, 247, 13] : List UInt8)) then
     bif ((r22.2.2).isNone) then
      bif (r22.1 == 23) then
       bif (r22.2.1 == ([52, 57, 49, 50, 51, 49, 50, 51, 53, 57, 53, 57, 90] : List UInt8)) then
        bif ((r28.2).isNone) then
         some (r28.1 == 1)
        else
         some false
       else
        some false
      else
       some false
     else
      some false
    else
     some false
   else
    some false
  else
   some false
 else
  some false
def pspare_R (r : Bool) : S := ⟨[(2, kB r)], [], []⟩
def pspare_ct (n : Nat) (r : Bool) : Ct := ctc (rB 5).rd fun _ l0 => ct0 fun H => ([pspare n l0 = some r], shA H.length (kB r), shH H.length [])
theorem pspare_ok (n : Nat) (r : Bool) : FnOk Try.prog Tr 48 (pspare_ct n r) := by
 refine fnok Try.func48 ?_
 refine HO_c (rB 5) fun l0 _ => HO_0 tabO_pr (pspare_R r) [.tmp 2] [] 25 Try.func48 fun w hG h => ?_
 unfold pspare at h
 have hT := tabO_pr
 refine Vrs hT [0] ⟨[(0, kH 0)], [], [ob 5 l0]⟩ ?_
 refine W_seq ?_
 obtain ⟨g1, g2, h⟩ := gd2 h
 rcases Bool.eq_false_or_eq_true ((l0.getD 0 0) == 0) with g3 | g3
 ·replace h := bif_t h g3
  obtain ⟨g4, g5, h⟩ := gd2 h
  rcases Bool.eq_false_or_eq_true (decide ((l0.getD 1 0) < (128 : UInt8))) with g6 | g6
  ·replace h := bif_t h g6
   refine Vg hT fN [(4, true), (10, true)] [] [] ⟨[(2, kB true)], [], []⟩ (aP g1 (aP g2 (aP g3 (aP g4 (aP g5 (aP g6 aN)))))) ?_
   refine Vc [] [] (pspare_R true) (W_ret ?_)
   exact ⟨.inl rfl, by cases h; rfl⟩
  ·replace h := bif_f h g6
   obtain ⟨g7, g8, h⟩ := gd2 h
   rcases Bool.eq_false_or_eq_true ((l0.getD 0 0) == 255) with g9 | g9
   ·replace h := bif_t h g9
    obtain ⟨g10, g11, h⟩ := gd2 h
    refine Vg hT fN [(4, true), (10, false), (15, true)] [] [] ⟨[(2, kB (decide ((128 : UInt8) ≤ (l0.getD 1 0))))], [], []⟩ (aP g1 (aP g2 (aP g3 (aP g4 (aP g5 (aP g6 (aP g7 (aP g8 (aP g9 (aP g10 (aP g11 aN))))))))))) ?_
    refine Vc [] [] (pspare_R (decide ((128 : UInt8) ≤ (l0.getD 1 0)))) (W_ret ?_)
    exact ⟨.inl rfl, by cases h; rfl⟩
   ·replace h := bif_f h g9
    refine Vg hT fN [(4, true), (10, false), (15, false)] [] [] ⟨[(2, kB false)], [], []⟩ (aP g1 (aP g2 (aP g3 (aP g4 (aP g5 (aP g6 (aP g7 (aP g8 (aP g9 aN))))))))) ?_
    refine Vc [] [] (pspare_R false) (W_ret ?_)
    exact ⟨.inl rfl, by cases h; rfl⟩
 ·replace h := bif_f h g3
  obtain ⟨g12, g13, h⟩ := gd2 h
  rcases Bool.eq_false_or_eq_true ((l0.getD 0 0) == 255) with g14 | g14
  ·replace h := bif_t h g14
   obtain ⟨g15, g16, h⟩ := gd2 h
   refine Vg hT fN [(4, false), (15, true)] [] [] ⟨[(2, kB (decide ((128 : UInt8) ≤ (l0.getD 1 0))))], [], []⟩ (aP g1 (aP g2 (aP g3 (aP g12 (aP g13 (aP g14 (aP g15 (aP g16 aN)))))))) ?_
   refine Vc [] [] (pspare_R (decide ((128 : UInt8) ≤ (l0.getD 1 0)))) (W_ret ?_)
   exact ⟨.inl rfl, by cases h; rfl⟩
  ·replace h := bif_f h g14
   refine Vg hT fN [(4, false), (15, false)] [] [] ⟨[(2, kB false)], [], []⟩ (aP g1 (aP g2 (aP g3 (aP g12 (aP g13 (aP g14 aN)))))) ?_
   refine Vc [] [] (pspare_R false) (W_ret ?_)
   exact ⟨.inl rfl, by cases h; rfl⟩
def pReadInt_l1_E (a0 : List UInt8) (i4_2 : Int) (i34_2 : Int) : S := ⟨[(4, kI i4_2), (32, kH 0), (33, kI (((a0.length - 1) : Nat) : Int)), (34, kI i34_2)], [], [⟨(.ro false), 5, 1, (a0.length - 1), .b ((a0.drop 1).take (a0.length - 1))⟩]⟩
abbrev pReadInt_l1_P (n : Nat) (a0 : List UInt8) (r : Int × Option Int) (fu : Nat) : S → Prop := fun s => ∃ (i4_2 : Int), ∃ (i34_2 : Int), s = pReadInt_l1_E a0 i4_2 i34_2 ∧ pReadInt_l1 n a0 fu i4_2 i34_2 = some r
def pReadInt_l2_E (a0 : List UInt8) (i4_3 : Int) (i34_3 : Int) : S := ⟨[(4, kI i4_3), (32, kH 0), (33, kI (((a0.length - 1) : Nat) : Int)), (34, kI i34_3)], [], [⟨(.ro false), 5, 1, (a0.length - 1), .b ((a0.drop 1).take (a0.length - 1))⟩]⟩
abbrev pReadInt_l2_P (n : Nat) (a0 : List UInt8) (r : Int × Option Int) (fu : Nat) : S → Prop := fun s => ∃ (i4_3 : Int), ∃ (i34_3 : Int), s = pReadInt_l2_E a0 i4_3 i34_3 ∧ pReadInt_l2 n a0 fu i4_3 i34_3 = some r
def pReadInt_R (r : Int × Option Int) : S := ⟨[(2, kI r.1), (3, kE 31 r.2)], [], []⟩
def pReadInt_ct (n : Nat) (r : Int × Option Int) : Ct := ctc (rB 5).rd fun _ l0 => ct0 fun H => ([pReadInt n l0 = some r], shA H.length (.t [.c (.s (.k .i64 r.1)), .c (.s (.er 31 .i64 r.2))]), shH H.length [])
theorem pReadInt_ok (n : Nat) (r : Int × Option Int) : FnOk Try.prog Tr 18 (pReadInt_ct n r) := by
 refine fnok Try.func18 ?_
 refine HO_c (rB 5) fun l0 _ => HO_0 tabO_pr (pReadInt_R r) [.tmp 2, .tmp 3] [] 45 Try.func18 fun w hG h => ?_
 unfold pReadInt at h
 have hT := tabO_pr
 refine Vrs hT [0] ⟨[(0, kH 0)], [], [ob 5 l0]⟩ ?_
 refine W_seq ?_
 refine W_block ?_
 refine W_seq ?_
 rcases Bool.eq_false_or_eq_true (((l0.length : Nat) : Int) == 0) with g1 | g1
 ·replace h := bif_t h g1
  refine Vg hT fN [(3, true)] [] [0] ⟨[(0, kH 0), (7, kB true)], [], [ob 5 l0]⟩ (aP g1 aN) ?_
  refine Vi (true) (fun _ => ?_) (fun hb => by cases hb)
  refine Vrs hT [] ⟨[(2, kI 0), (3, kE 31 (some 2))], [], []⟩ ?_
  refine Vc [] [] (pReadInt_R (0, (some 2))) (W_ret ?_)
  exact ⟨.inl rfl, by cases h; rfl⟩
 ·replace h := bif_f h g1
  rcases Bool.eq_false_or_eq_true (decide ((1 : Int) < ((l0.length : Nat) : Int))) with g2 | g2
  ·replace h := bif_t h g2
   obtain ⟨r17, g3, h⟩ := bind_some' h
   refine Vg hT (fT 9 (pspare_ok n r17) fN) [(3, false), (7, true)] [] [0] ⟨[(0, kH 0), (7, kB r17)], [], [ob 5 l0]⟩ (aP g1 (aP g2 (aP g3 aN))) ?_
   refine Vi (r17) (fun g17 => ?_) (fun g17 => ?_)
   ·replace h := bif_t h g17
    refine Vrs hT [] ⟨[(2, kI 0), (3, kE 31 (some 2))], [], []⟩ ?_
    refine Vc [] [] (pReadInt_R (0, (some 2))) (W_ret ?_)
    exact ⟨.inl rfl, by cases h; rfl⟩
   ·replace h := bif_f h g17
    refine Vrs hT [0] ⟨[(0, kH 0), (21, kB (decide ((8 : Int) < ((l0.length : Nat) : Int))))], [], [ob 5 l0]⟩ ?_
    refine Vi ((decide ((8 : Int) < ((l0.length : Nat) : Int)))) (fun g16 => ?_) (fun g16 => ?_)
    ·replace h := bif_t h g16
     refine Vrs hT [] ⟨[(2, kI 0), (3, kE 31 (some 4))], [], []⟩ ?_
     refine Vc [] [] (pReadInt_R (0, (some 4))) (W_ret ?_)
     exact ⟨.inl rfl, by cases h; rfl⟩
    ·replace h := bif_f h g16
     refine W_skip ?_
     obtain ⟨g4, g5, g6, h⟩ := gd3 h
     refine Vgs hT fN [] [] [0] ⟨[(0, kH 0), (4, kI (IntKind.i8.wrap (((l0.getD 0 0).toNat : Nat) : Int)))], [], [ob 5 l0]⟩ (aP g4 (aP g5 (aP g6 aN))) ?_
     refine W_seq ?_
     obtain ⟨g7, g8, h⟩ := gd2 h
     refine Vgs hT fN [] [] [0] ⟨[(4, kI (IntKind.i8.wrap (((l0.getD 0 0).toNat : Nat) : Int))), (32, .c (.sl 0 1 (l0.length - 1))), (33, kI (((l0.length - 1) : Nat) : Int)), (34, kI 0)], [], [ob 5 l0]⟩ (aP g7 (aP g8 aN)) ?_
     refine W_block ?_
     refine Vc [.vw 32 false] [1] (pReadInt_l1_E l0 (IntKind.i8.wrap (((l0.getD 0 0).toNat : Nat) : Int)) 0) (W_lp ((pReadInt_l1_P n l0 r)) n ⟨_, _, rfl, h⟩ ?_)
     rintro fu_l1 _ ⟨i4_2, i34_2, rfl, h⟩
     cases fu_l1 with
     | zero => cases h
     | succ fu_l1 =>
      refine ⟨fu_l1, rfl, ?_⟩
      rw [pReadInt_l1] at h
      refine Vrs hT [0] ⟨[(4, kI i4_2), (32, kH 0), (33, kI (((l0.length - 1) : Nat) : Int)), (34, kI i34_2), (35, kB (decide (i34_2 < (((l0.length - 1) : Nat) : Int))))], [], [⟨(.ro false), 5, 1, (l0.length - 1), .b ((l0.drop 1).take (l0.length - 1))⟩]⟩ ?_
      refine W_seq ?_
      refine Vi ((decide (i34_2 < (((l0.length - 1) : Nat) : Int)))) (fun g15 => ?_) (fun g15 => ?_)
      ·replace h := bif_t h g15
       refine W_skip ?_
       refine W_seq ?_
       refine W_block ?_
       obtain ⟨g9, g10, h⟩ := gd2 h
       refine Vgs hT fN [] [] [0] ⟨[(4, kI i4_2), (6, kU (((l0.drop 1).take (l0.length - 1)).getD i34_2.toNat 0)), (32, kH 0), (33, kI (((l0.length - 1) : Nat) : Int)), (34, kI i34_2)], [], [⟨(.ro false), 5, 1, (l0.length - 1), .b ((l0.drop 1).take (l0.length - 1))⟩]⟩ (aP g9 (aP g10 aN)) ?_
       obtain ⟨g11, g12, g13, h⟩ := gd3 h
       refine Vg hT fN [] [] [0] ⟨[(4, kI (bitI .or .i64 (i4_2 * 2 ^ 8) (((((l0.drop 1).take (l0.length - 1)).getD i34_2.toNat 0).toNat : Nat) : Int))), (32, kH 0), (33, kI (((l0.length - 1) : Nat) : Int)), (34, kI i34_2)], [], [⟨(.ro false), 5, 1, (l0.length - 1), .b ((l0.drop 1).take (l0.length - 1))⟩]⟩ (aP g11 (aP g12 (aP g13 aN))) ?_
       obtain ⟨g14, h⟩ := gd_some h
       refine Vg hT fN [] [] [0] (pReadInt_l1_E l0 (bitI .or .i64 (i4_2 * 2 ^ 8) (((((l0.drop 1).take (l0.length - 1)).getD i34_2.toNat 0).toNat : Nat) : Int)) (i34_2 + 1)) (aP g14 aN) ?_
       exact ⟨_, _, rfl, h⟩
      ·replace h := bif_f h g15
       refine Vc [] [] ⟨[(4, kI i4_2)], [], []⟩ (W_exit ?_)
       refine Vrs hT [] ⟨[(2, kI i4_2), (3, .c (.s (.v .nilIface)))], [], []⟩ ?_
       refine Vc [.er 3 31 .i64] [] (pReadInt_R (i4_2, none)) (W_ret ?_)
       exact ⟨.inl rfl, by cases h; rfl⟩
  ·replace h := bif_f h g2
   refine Vg hT fN [(3, false), (7, false)] [] [0] ⟨[(0, kH 0), (7, kB false)], [], [ob 5 l0]⟩ (aP g1 (aP g2 aN)) ?_
   refine Vi (false) (fun hb => by cases hb) (fun _ => ?_)
   refine Vrs hT [0] ⟨[(0, kH 0), (21, kB (decide ((8 : Int) < ((l0.length : Nat) : Int))))], [], [ob 5 l0]⟩ ?_
   refine Vi ((decide ((8 : Int) < ((l0.length : Nat) : Int)))) (fun g30 => ?_) (fun g30 => ?_)
   ·replace h := bif_t h g30
    refine Vrs hT [] ⟨[(2, kI 0), (3, kE 31 (some 4))], [], []⟩ ?_
    refine Vc [] [] (pReadInt_R (0, (some 4))) (W_ret ?_)
    exact ⟨.inl rfl, by cases h; rfl⟩
   ·replace h := bif_f h g30
    refine W_skip ?_
    obtain ⟨g18, g19, g20, h⟩ := gd3 h
    refine Vgs hT fN [] [] [0] ⟨[(0, kH 0), (4, kI (IntKind.i8.wrap (((l0.getD 0 0).toNat : Nat) : Int)))], [], [ob 5 l0]⟩ (aP g18 (aP g19 (aP g20 aN))) ?_
    refine W_seq ?_
    obtain ⟨g21, g22, h⟩ := gd2 h
    refine Vgs hT fN [] [] [0] ⟨[(4, kI (IntKind.i8.wrap (((l0.getD 0 0).toNat : Nat) : Int))), (32, .c (.sl 0 1 (l0.length - 1))), (33, kI (((l0.length - 1) : Nat) : Int)), (34, kI 0)], [], [ob 5 l0]⟩ (aP g21 (aP g22 aN)) ?_
    refine W_block ?_
    refine Vc [.vw 32 false] [1] (pReadInt_l2_E l0 (IntKind.i8.wrap (((l0.getD 0 0).toNat : Nat) : Int)) 0) (W_lp ((pReadInt_l2_P n l0 r)) n ⟨_, _, rfl, h⟩ ?_)
    rintro fu_l2 _ ⟨i4_3, i34_3, rfl, h⟩
    cases fu_l2 with
    | zero => cases h
    | succ fu_l2 =>
     refine ⟨fu_l2, rfl, ?_⟩
     rw [pReadInt_l2] at h
     refine Vrs hT [0] ⟨[(4, kI i4_3), (32, kH 0), (33, kI (((l0.length - 1) : Nat) : Int)), (34, kI i34_3), (35, kB (decide (i34_3 < (((l0.length - 1) : Nat) : Int))))], [], [⟨(.ro false), 5, 1, (l0.length - 1), .b ((l0.drop 1).take (l0.length - 1))⟩]⟩ ?_
     refine W_seq ?_
     refine Vi ((decide (i34_3 < (((l0.length - 1) : Nat) : Int)))) (fun g29 => ?_) (fun g29 => ?_)
     ·replace h := bif_t h g29
      refine W_skip ?_
      refine W_seq ?_
      refine W_block ?_
      obtain ⟨g23, g24, h⟩ := gd2 h
      refine Vgs hT fN [] [] [0] ⟨[(4, kI i4_3), (6, kU (((l0.drop 1).take (l0.length - 1)).getD i34_3.toNat 0)), (32, kH 0), (33, kI (((l0.length - 1) : Nat) : Int)), (34, kI i34_3)], [], [⟨(.ro false), 5, 1, (l0.length - 1), .b ((l0.drop 1).take (l0.length - 1))⟩]⟩ (aP g23 (aP g24 aN)) ?_
      obtain ⟨g25, g26, g27, h⟩ := gd3 h
      refine Vg hT fN [] [] [0] ⟨[(4, kI (bitI .or .i64 (i4_3 * 2 ^ 8) (((((l0.drop 1).take (l0.length - 1)).getD i34_3.toNat 0).toNat : Nat) : Int))), (32, kH 0), (33, kI (((l0.length - 1) : Nat) : Int)), (34, kI i34_3)], [], [⟨(.ro false), 5, 1, (l0.length - 1), .b ((l0.drop 1).take (l0.length - 1))⟩]⟩ (aP g25 (aP g26 (aP g27 aN))) ?_
      obtain ⟨g28, h⟩ := gd_some h
      refine Vg hT fN [] [] [0] (pReadInt_l2_E l0 (bitI .or .i64 (i4_3 * 2 ^ 8) (((((l0.drop 1).take (l0.length - 1)).getD i34_3.toNat 0).toNat : Nat) : Int)) (i34_3 + 1)) (aP g28 aN) ?_
      exact ⟨_, _, rfl, h⟩
     ·replace h := bif_f h g29
      refine Vc [] [] ⟨[(4, kI i4_3)], [], []⟩ (W_exit ?_)
      refine Vrs hT [] ⟨[(2, kI i4_3), (3, .c (.s (.v .nilIface)))], [], []⟩ ?_
      refine Vc [.er 3 31 .i64] [] (pReadInt_R (i4_3, none)) (W_ret ?_)
      exact ⟨.inl rfl, by cases h; rfl⟩
def pident_R (r : Bool) : S := ⟨[(2, kB r)], [], []⟩
def pident_ct (n : Nat) (r : Bool) : Ct := ctc (rW 89).rd fun _ l0 => ct0 fun H => ([pident n l0 = some r], shA H.length (kB r), shH H.length [])
theorem pident_ok (n : Nat) (r : Bool) : FnOk Try.prog Tr 64 (pident_ct n r) := by
 refine fnok Try.func64 ?_
 refine HO_c (rW 89) fun l0 _ => HO_0 tabO_pr (pident_R r) [.tmp 2] [] 31 Try.func64 fun w hG h => ?_
 unfold pident at h
 have hT := tabO_pr
 refine Vrs hT [0] ⟨[(0, kH 0)], [], [ow 89 l0]⟩ ?_
 refine W_seq ?_
 refine W_seq ?_
 rcases Bool.eq_false_or_eq_true (decide (((l0.length : Nat) : Int) < (2 : Int))) with g1 | g1
 ·replace h := bif_t h g1
  refine Vg hT fN [(3, true)] [] [0] ⟨[(0, kH 0), (16, kB true)], [], [ow 89 l0]⟩ (aP g1 aN) ?_
  refine Vi (true) (fun _ => ?_) (fun hb => by cases hb)
  refine Vrs hT [] ⟨[(2, kB false)], [], []⟩ ?_
  refine Vc [] [] (pident_R false) (W_ret ?_)
  exact ⟨.inl rfl, by cases h; rfl⟩
 ·replace h := bif_f h g1
  rcases Bool.eq_false_or_eq_true (decide ((16 : Int) < ((l0.length : Nat) : Int))) with g2 | g2
  ·replace h := bif_t h g2
   refine Vg hT fN [(3, false), (8, true)] [] [0] ⟨[(0, kH 0), (16, kB true)], [], [ow 89 l0]⟩ (aP g1 (aP g2 aN)) ?_
   refine Vi (true) (fun _ => ?_) (fun hb => by cases hb)
   refine Vrs hT [] ⟨[(2, kB false)], [], []⟩ ?_
   refine Vc [] [] (pident_R false) (W_ret ?_)
   exact ⟨.inl rfl, by cases h; rfl⟩
  ·replace h := bif_f h g2
   obtain ⟨g3, g4, h⟩ := gd2 h
   refine Vg hT fN [(3, false), (8, false)] [] [0] ⟨[(0, kH 0), (16, kB (decide ((2 : UInt32) < (l0.getD 0 0))))], [], [ow 89 l0]⟩ (aP g1 (aP g2 (aP g3 (aP g4 aN)))) ?_
   refine Vi ((decide ((2 : UInt32) < (l0.getD 0 0)))) (fun g12 => ?_) (fun g12 => ?_)
   ·replace h := bif_t h g12
    refine Vrs hT [] ⟨[(2, kB false)], [], []⟩ ?_
    refine Vc [] [] (pident_R false) (W_ret ?_)
    exact ⟨.inl rfl, by cases h; rfl⟩
   ·replace h := bif_f h g12
    refine W_skip ?_
    refine W_seq ?_
    obtain ⟨g5, g6, h⟩ := gd2 h
    refine Vgs hT fN [] [] [0] ⟨[(0, kH 0), (20, kB (decide ((l0.getD 0 0) < (2 : UInt32))))], [], [ow 89 l0]⟩ (aP g5 (aP g6 aN)) ?_
    refine Vi ((decide ((l0.getD 0 0) < (2 : UInt32)))) (fun g11 => ?_) (fun g11 => ?_)
    ·replace h := bif_t h g11
     obtain ⟨g7, g8, h⟩ := gd2 h
     refine Vgs hT fN [] [] [] ⟨[(2, kB (decide ((l0.getD 1 0) < (40 : UInt32))))], [], []⟩ (aP g7 (aP g8 aN)) ?_
     refine Vc [] [] (pident_R (decide ((l0.getD 1 0) < (40 : UInt32)))) (W_ret ?_)
     exact ⟨.inl rfl, by cases h; rfl⟩
    ·replace h := bif_f h g11
     refine W_skip ?_
     obtain ⟨g9, g10, h⟩ := gd2 h
     refine Vgs hT fN [] [] [] ⟨[(2, kB (decide ((((l0.getD 1 0).toUInt64) + (80 : UInt64)) < (4294967296 : UInt64))))], [], []⟩ (aP g9 (aP g10 aN)) ?_
     refine Vc [] [] (pident_R (decide ((((l0.getD 1 0).toUInt64) + (80 : UInt64)) < (4294967296 : UInt64)))) (W_ret ?_)
     exact ⟨.inl rfl, by cases h; rfl⟩
def pOid_l1_E (a0 : List UInt32) (l4_1 : List UInt8) (i23_1 : Int) : S := ⟨[(4, kH 0), (21, kH 1), (22, kI (((a0.length - 2) : Nat) : Int)), (23, kI i23_1)], [], [nb 5 l4_1, ⟨(.ro false), 89, 1, (a0.length - 2), .w ((a0.drop 2).take (a0.length - 2))⟩]⟩
abbrev pOid_l1_P (n : Nat) (a0 : List UInt32) (r : List UInt8 × Option Int) (fu : Nat) : S → Prop := fun s => ∃ (l4_1 : List UInt8), ∃ (i23_1 : Int), s = pOid_l1_E a0 l4_1 i23_1 ∧ pOid_l1 n a0 fu l4_1 i23_1 = some r
def pOid_R (r : List UInt8 × Option Int) : S := ⟨[(2, kH 0), (3, kE 31 r.2)], [], [nb 5 r.1]⟩
def pOid_ct (n : Nat) (r : List UInt8 × Option Int) : Ct := ctc (rW 89).rd fun _ l0 => ct0 fun H => ([pOid n l0 = some r], shA H.length (.t [.c (.wh 0), .c (.s (.er 31 .i64 r.2))]), shH H.length [nb 5 r.1])
theorem pOid_ok (n : Nat) (r : List UInt8 × Option Int) : FnOk Try.prog Tr 32 (pOid_ct n r) := by
 refine fnok Try.func32 ?_
 refine HO_c (rW 89) fun l0 _ => HO_0 tabO_pr (pOid_R r) [.tmp 2, .tmp 3] [0] 33 Try.func32 fun w hG h => ?_
 unfold pOid at h
 have hT := tabO_pr
 refine Vrs hT [0] ⟨[(0, kH 0)], [], [ow 89 l0]⟩ ?_
 refine W_seq ?_
 obtain ⟨r8, g1, h⟩ := bind_some' h
 refine Vgs hT (fT 1 (pident_ok n r8) fN) [] [] [0] ⟨[(0, kH 0), (9, kB (!r8))], [], [ow 89 l0]⟩ (aP g1 aN) ?_
 refine Vi ((!r8)) (fun g13 => ?_) (fun g13 => ?_)
 ·replace h := bif_t h g13
  refine Vrs hT [] ⟨[(2, .c (.nils)), (3, kE 31 (some 1))], [], []⟩ ?_
  refine Vc [.nil 2 5 1 (.b [])] [0] (pOid_R ([], (some 1))) (W_ret ?_)
  exact ⟨.inl rfl, by cases h; rfl⟩
 ·replace h := bif_f h g13
  refine W_skip ?_
  obtain ⟨g2, g3, g4, g5, h⟩ := gd4 h
  refine Vds hT (fT 8 group_h fN) 7 [] [(0, false), (14, false), (17, false)] [] [0, 1] ⟨[(0, kH 0), (4, kH 1)], [], [ow 89 l0, nb 5 (grp (((40 : UInt32) * (l0.getD 0 0)) + (l0.getD 1 0)))]⟩ (aP g2 (aP g3 (aP g4 (aP g5 aN)))) ?_
  refine W_seq ?_
  obtain ⟨g6, g7, h⟩ := gd2 h
  refine Vgs hT fN [] [] [1, 0] ⟨[(4, kH 0), (21, .c (.sl 1 2 (l0.length - 2))), (22, kI (((l0.length - 2) : Nat) : Int)), (23, kI 0)], [], [nb 5 (grp (((40 : UInt32) * (l0.getD 0 0)) + (l0.getD 1 0))), ow 89 l0]⟩ (aP g6 (aP g7 aN)) ?_
  refine W_block ?_
  refine Vc [.vw 21 false] [0, 2] (pOid_l1_E l0 (grp (((40 : UInt32) * (l0.getD 0 0)) + (l0.getD 1 0))) 0) (W_lp ((pOid_l1_P n l0 r)) n ⟨_, _, rfl, h⟩ ?_)
  rintro fu_l1 _ ⟨l4_1, i23_1, rfl, h⟩
  cases fu_l1 with
  | zero => cases h
  | succ fu_l1 =>
   refine ⟨fu_l1, rfl, ?_⟩
   rw [pOid_l1] at h
   refine Vrs hT [0, 1] ⟨[(4, kH 0), (21, kH 1), (22, kI (((l0.length - 2) : Nat) : Int)), (23, kI i23_1), (24, kB (decide (i23_1 < (((l0.length - 2) : Nat) : Int))))], [], [nb 5 l4_1, ⟨(.ro false), 89, 1, (l0.length - 2), .w ((l0.drop 2).take (l0.length - 2))⟩]⟩ ?_
   refine W_seq ?_
   refine Vi ((decide (i23_1 < (((l0.length - 2) : Nat) : Int)))) (fun g12 => ?_) (fun g12 => ?_)
   ·replace h := bif_t h g12
    refine W_skip ?_
    refine W_seq ?_
    refine W_block ?_
    obtain ⟨g8, g9, h⟩ := gd2 h
    refine Vgs hT fN [] [] [0, 1] ⟨[(4, kH 0), (6, kX (((l0.drop 2).take (l0.length - 2)).getD i23_1.toNat 0)), (21, kH 1), (22, kI (((l0.length - 2) : Nat) : Int)), (23, kI i23_1)], [], [nb 5 l4_1, ⟨(.ro false), 89, 1, (l0.length - 2), .w ((l0.drop 2).take (l0.length - 2))⟩]⟩ (aP g8 (aP g9 aN)) ?_
    obtain ⟨g10, h⟩ := gd_some h
    refine Vg hT (fT 2 group_h fN) [] [] [3, 1] ⟨[(4, kH 0), (21, kH 1), (22, kI (((l0.length - 2) : Nat) : Int)), (23, kI i23_1)], [], [nb 5 (l4_1 ++ (grp (((l0.drop 2).take (l0.length - 2)).getD i23_1.toNat 0))), ⟨(.ro false), 89, 1, (l0.length - 2), .w ((l0.drop 2).take (l0.length - 2))⟩]⟩ (aP g10 aN) ?_
    obtain ⟨g11, h⟩ := gd_some h
    refine Vg hT fN [] [] [0, 1] (pOid_l1_E l0 (l4_1 ++ (grp (((l0.drop 2).take (l0.length - 2)).getD i23_1.toNat 0))) (i23_1 + 1)) (aP g11 aN) ?_
    exact ⟨_, _, rfl, h⟩
   ·replace h := bif_f h g12
    refine Vc [] [0] ⟨[(4, kH 0)], [], [nb 5 l4_1]⟩ (W_exit ?_)
    refine Vrs hT [0] ⟨[(2, kH 0), (3, .c (.s (.v .nilIface)))], [], [nb 5 l4_1]⟩ ?_
    refine Vc [.er 3 31 .i64] [0] (pOid_R (l4_1, none)) (W_ret ?_)
    exact ⟨.inl rfl, by cases h; rfl⟩
def pleap_R (r : Bool) : S := ⟨[(2, kB r)], [], []⟩
def pleap_ct (n : Nat) (r : Bool) : Ct := ctc rI.rd fun _ l0 => ct0 fun H => ([pleap n l0 = some r], shA H.length (kB r), shH H.length [])
theorem pleap_ok (n : Nat) (r : Bool) : FnOk Try.prog Tr 76 (pleap_ct n r) := by
 refine fnok Try.func76 ?_
 refine HO_c rI fun l0 _ => HO_0 tabO_pr (pleap_R r) [.tmp 2] [] 16 Try.func76 fun w hG h => ?_
 unfold pleap at h
 have hT := tabO_pr
 refine Vrs hT [] ⟨[(0, kI l0)], [], []⟩ ?_
 refine W_seq ?_
 obtain ⟨g1, h⟩ := gd_some h
 rcases Bool.eq_false_or_eq_true ((Int.tmod l0 4) == 0) with g2 | g2
 ·replace h := bif_t h g2
  obtain ⟨g3, h⟩ := gd_some h
  rcases Bool.eq_false_or_eq_true ((Int.tmod l0 100) != 0) with g4 | g4
  ·replace h := bif_t h g4
   refine Vg hT fN [(3, true), (7, true)] [] [] ⟨[(2, kB true)], [], []⟩ (aP g1 (aP g2 (aP g3 (aP g4 aN)))) ?_
   refine Vc [] [] (pleap_R true) (W_ret ?_)
   exact ⟨.inl rfl, by cases h; rfl⟩
  ·replace h := bif_f h g4
   obtain ⟨g5, h⟩ := gd_some h
   refine Vg hT fN [(3, true), (7, false)] [] [] ⟨[(2, kB ((Int.tmod l0 400) == 0))], [], []⟩ (aP g1 (aP g2 (aP g3 (aP g4 (aP g5 aN))))) ?_
   refine Vc [] [] (pleap_R ((Int.tmod l0 400) == 0)) (W_ret ?_)
   exact ⟨.inl rfl, by cases h; rfl⟩
 ·replace h := bif_f h g2
  refine Vg hT fN [(3, false)] [] [] ⟨[(2, kB false)], [], []⟩ (aP g1 (aP g2 aN)) ?_
  refine Vc [] [] (pleap_R false) (W_ret ?_)
  exact ⟨.inl rfl, by cases h; rfl⟩
def pdays_j1_E (a0 : Int) (a1 : Int) (p6_1 : Bool) : S := ⟨[(0, kI a0), (5, kI a1), (6, kB p6_1)], [], []⟩
abbrev pdays_j1_P (n : Nat) (a0 : Int) (a1 : Int) (r : Int) : S → Prop := fun s => ∃ (p6_1 : Bool), s = pdays_j1_E a0 a1 p6_1 ∧ pdays_j1 n a0 a1 p6_1 = some r
def pdays_R (r : Int) : S := ⟨[(4, kI r)], [], []⟩
def pdays_ct (n : Nat) (r : Int) : Ct := ctc rI.rd fun _ l0 => ctc rI.rd fun _ l1 => ct0 fun H => ([pdays n l0 l1 = some r], shA H.length (kI r), shH H.length [])
theorem pdays_ok (n : Nat) (r : Int) : FnOk Try.prog Tr 52 (pdays_ct n r) := by
 refine fnok Try.func52 ?_
 refine HO_c rI fun l0 _ => HO_c rI fun l1 _ => HO_0 tabO_pr (pdays_R r) [.tmp 4] [] 15 Try.func52 fun w hG h => ?_
 unfold pdays at h
 have hT := tabO_pr
 refine Vrs hT [] ⟨[(0, kI l0), (1, kI l1)], [], []⟩ ?_
 refine W_seq ?_
 refine Vrs hT [] ⟨[(0, kI l0), (5, kI l1)], [], []⟩ ?_
 refine W_block ?_
 refine W_join (pdays_j1_P n l0 l1 r) ?_ ?_
 ·rintro _ ⟨p6_1, rfl, h⟩
  unfold pdays_j1 at h
  refine Vi (p6_1) (fun g4 => ?_) (fun g4 => ?_)
  ·replace h := bif_t h g4
   refine Vrs hT [] ⟨[(4, kI 30)], [], []⟩ ?_
   refine Vc [] [] (pdays_R 30) (W_ret ?_)
   exact ⟨.inl rfl, by cases h; rfl⟩
  ·replace h := bif_f h g4
   refine Vrs hT [] ⟨[(0, kI l0), (11, kB (l1 == 2))], [], []⟩ ?_
   refine Vi ((l1 == 2)) (fun g3 => ?_) (fun g3 => ?_)
   ·replace h := bif_t h g3
    refine W_seq ?_
    obtain ⟨r14, g1, h⟩ := bind_some' h
    refine Vgs hT (fT 1 (pleap_ok n r14) fN) [] [] [] ⟨[(14, kB r14)], [], []⟩ (aP g1 aN) ?_
    refine Vi (r14) (fun g2 => ?_) (fun g2 => ?_)
    ·replace h := bif_t h g2
     refine Vrs hT [] ⟨[(4, kI 29)], [], []⟩ ?_
     refine Vc [] [] (pdays_R 29) (W_ret ?_)
     exact ⟨.inl rfl, by cases h; rfl⟩
    ·replace h := bif_f h g2
     refine W_skip ?_
     refine Vrs hT [] ⟨[(4, kI 28)], [], []⟩ ?_
     refine Vc [] [] (pdays_R 28) (W_ret ?_)
     exact ⟨.inl rfl, by cases h; rfl⟩
   ·replace h := bif_f h g3
    refine W_skip ?_
    refine Vrs hT [] ⟨[(4, kI 31)], [], []⟩ ?_
    refine Vc [] [] (pdays_R 31) (W_ret ?_)
    exact ⟨.inl rfl, by cases h; rfl⟩
 ·refine W_seq ?_
  refine Vr hT [] ⟨[(0, kI l0), (5, kI l1), (6, kB (l1 == 4))], [], []⟩ ?_
  refine Vi ((l1 == 4)) (fun g7 => ?_) (fun g7 => ?_)
  ·replace h := bif_t h g7
   refine Vc [] [] (pdays_j1_E l0 l1 (l1 == 4)) (W_skip ?_)
   exact ⟨_, rfl, h⟩
  ·replace h := bif_f h g7
   refine Vrs hT [] ⟨[(0, kI l0), (5, kI l1), (6, kB (l1 == 6))], [], []⟩ ?_
   refine Vi ((l1 == 6)) (fun g6 => ?_) (fun g6 => ?_)
   ·replace h := bif_t h g6
    refine Vc [] [] (pdays_j1_E l0 l1 (l1 == 6)) (W_skip ?_)
    exact ⟨_, rfl, h⟩
   ·replace h := bif_f h g6
    refine Vrs hT [] ⟨[(0, kI l0), (5, kI l1), (6, kB (l1 == 9))], [], []⟩ ?_
    refine Vi ((l1 == 9)) (fun g5 => ?_) (fun g5 => ?_)
    ·replace h := bif_t h g5
     refine Vc [] [] (pdays_j1_E l0 l1 (l1 == 9)) (W_skip ?_)
     exact ⟨_, rfl, h⟩
    ·replace h := bif_f h g5
     refine Vr hT [] (pdays_j1_E l0 l1 (l1 == 11)) ?_
     exact ⟨_, rfl, h⟩
def pvalid_R (r : Bool) : S := ⟨[(2, kB r)], [], []⟩
def pvalid_ct (n : Nat) (r : Bool) : Ct := ctc (rSt (lC cI (lC cI (lC cI (lC cI (lC cI (lC cI lN))))))).rd fun _ y0 => ct0 fun H => ([pvalid n y0.1 y0.2.1 y0.2.2.1 y0.2.2.2.1 y0.2.2.2.2.1 y0.2.2.2.2.2.1 = some r], shA H.length (kB r), shH H.length [])
theorem pvalid_ok (n : Nat) (r : Bool) : FnOk Try.prog Tr 50 (pvalid_ct n r) := by
 refine fnok Try.func50 ?_
 refine HO_c (rSt (lC cI (lC cI (lC cI (lC cI (lC cI (lC cI lN))))))) fun p0 _ => ?_
 obtain ⟨l0_0, l0_1, l0_2, l0_3, l0_4, l0_5, _⟩ := p0
 refine HO_0 tabO_pr (pvalid_R r) [.tmp 2] [] 64 Try.func50 fun w hG h => ?_
 have h : pvalid n l0_0 l0_1 l0_2 l0_3 l0_4 l0_5 = some r := h
 unfold pvalid at h
 have hT := tabO_pr
 refine Vrs hT [0] ⟨[(1, kP 0 0)], [], [⟨.blk, 34, 1, 6, .c [.s (.k .i64 l0_0), .s (.k .i64 l0_1), .s (.k .i64 l0_2), .s (.k .i64 l0_3), .s (.k .i64 l0_4), .s (.k .i64 l0_5)]⟩]⟩ ?_
 refine W_seq ?_
 refine W_seq ?_
 rcases Bool.eq_false_or_eq_true (decide (l0_0 < (1 : Int))) with g1 | g1
 ·replace h := bif_t h g1
  refine Vd hT fN 31 [(3, true)] [(1, false), (26, false), (28, false), (33, false)] [] [0] ⟨[(1, kP 0 0), (35, kB true)], [], [⟨.blk, 34, 1, 6, .c [.s (.k .i64 l0_0), .s (.k .i64 l0_1), .s (.k .i64 l0_2), .s (.k .i64 l0_3), .s (.k .i64 l0_4), .s (.k .i64 l0_5)]⟩]⟩ (aP g1 aN) ?_
  refine Vi (true) (fun _ => ?_) (fun hb => by cases hb)
  refine Vrs hT [] ⟨[(2, kB false)], [], []⟩ ?_
  refine Vc [] [] (pvalid_R false) (W_ret ?_)
  exact ⟨.inl rfl, by cases h; rfl⟩
 ·replace h := bif_f h g1
  rcases Bool.eq_false_or_eq_true (decide ((9999 : Int) < l0_0)) with g2 | g2
  ·replace h := bif_t h g2
   refine Vd hT fN 31 [(3, false), (8, true)] [(1, false), (26, false), (28, false), (33, false)] [] [0] ⟨[(1, kP 0 0), (35, kB true)], [], [⟨.blk, 34, 1, 6, .c [.s (.k .i64 l0_0), .s (.k .i64 l0_1), .s (.k .i64 l0_2), .s (.k .i64 l0_3), .s (.k .i64 l0_4), .s (.k .i64 l0_5)]⟩]⟩ (aP g1 (aP g2 aN)) ?_
   refine Vi (true) (fun _ => ?_) (fun hb => by cases hb)
   refine Vrs hT [] ⟨[(2, kB false)], [], []⟩ ?_
   refine Vc [] [] (pvalid_R false) (W_ret ?_)
   exact ⟨.inl rfl, by cases h; rfl⟩
  ·replace h := bif_f h g2
   rcases Bool.eq_false_or_eq_true (decide (l0_1 < (1 : Int))) with g3 | g3
   ·replace h := bif_t h g3
    refine Vd hT fN 31 [(3, false), (8, false), (13, true)] [(1, false), (26, false), (28, false), (33, false)] [] [0] ⟨[(1, kP 0 0), (35, kB true)], [], [⟨.blk, 34, 1, 6, .c [.s (.k .i64 l0_0), .s (.k .i64 l0_1), .s (.k .i64 l0_2), .s (.k .i64 l0_3), .s (.k .i64 l0_4), .s (.k .i64 l0_5)]⟩]⟩ (aP g1 (aP g2 (aP g3 aN))) ?_
    refine Vi (true) (fun _ => ?_) (fun hb => by cases hb)
    refine Vrs hT [] ⟨[(2, kB false)], [], []⟩ ?_
    refine Vc [] [] (pvalid_R false) (W_ret ?_)
    exact ⟨.inl rfl, by cases h; rfl⟩
   ·replace h := bif_f h g3
    rcases Bool.eq_false_or_eq_true (decide ((12 : Int) < l0_1)) with g4 | g4
    ·replace h := bif_t h g4
     refine Vd hT fN 31 [(3, false), (8, false), (13, false), (18, true)] [(1, false), (26, false), (28, false), (33, false)] [] [0] ⟨[(1, kP 0 0), (35, kB true)], [], [⟨.blk, 34, 1, 6, .c [.s (.k .i64 l0_0), .s (.k .i64 l0_1), .s (.k .i64 l0_2), .s (.k .i64 l0_3), .s (.k .i64 l0_4), .s (.k .i64 l0_5)]⟩]⟩ (aP g1 (aP g2 (aP g3 (aP g4 aN)))) ?_
     refine Vi (true) (fun _ => ?_) (fun hb => by cases hb)
     refine Vrs hT [] ⟨[(2, kB false)], [], []⟩ ?_
     refine Vc [] [] (pvalid_R false) (W_ret ?_)
     exact ⟨.inl rfl, by cases h; rfl⟩
    ·replace h := bif_f h g4
     rcases Bool.eq_false_or_eq_true (decide (l0_2 < (1 : Int))) with g5 | g5
     ·replace h := bif_t h g5
      refine Vd hT fN 31 [(3, false), (8, false), (13, false), (18, false), (23, true)] [(1, false), (26, false), (28, false), (33, false)] [] [0] ⟨[(1, kP 0 0), (35, kB true)], [], [⟨.blk, 34, 1, 6, .c [.s (.k .i64 l0_0), .s (.k .i64 l0_1), .s (.k .i64 l0_2), .s (.k .i64 l0_3), .s (.k .i64 l0_4), .s (.k .i64 l0_5)]⟩]⟩ (aP g1 (aP g2 (aP g3 (aP g4 (aP g5 aN))))) ?_
      refine Vi (true) (fun _ => ?_) (fun hb => by cases hb)
      refine Vrs hT [] ⟨[(2, kB false)], [], []⟩ ?_
      refine Vc [] [] (pvalid_R false) (W_ret ?_)
      exact ⟨.inl rfl, by cases h; rfl⟩
     ·replace h := bif_f h g5
      obtain ⟨r33, g6, h⟩ := bind_some' h
      refine Vd hT (fT 30 (pdays_ok n r33) fN) 31 [(3, false), (8, false), (13, false), (18, false), (23, false)] [(1, false), (26, false), (28, false), (33, false)] [] [0] ⟨[(1, kP 0 0), (35, kB (decide (r33 < l0_2)))], [], [⟨.blk, 34, 1, 6, .c [.s (.k .i64 l0_0), .s (.k .i64 l0_1), .s (.k .i64 l0_2), .s (.k .i64 l0_3), .s (.k .i64 l0_4), .s (.k .i64 l0_5)]⟩]⟩ (aP g1 (aP g2 (aP g3 (aP g4 (aP g5 (aP g6 aN)))))) ?_
      refine Vi ((decide (r33 < l0_2))) (fun g12 => ?_) (fun g12 => ?_)
      ·replace h := bif_t h g12
       refine Vrs hT [] ⟨[(2, kB false)], [], []⟩ ?_
       refine Vc [] [] (pvalid_R false) (W_ret ?_)
       exact ⟨.inl rfl, by cases h; rfl⟩
      ·replace h := bif_f h g12
       refine Vc [] [0] ⟨[(1, kP 0 0)], [], [⟨.blk, 34, 1, 6, .c [.s (.k .i64 l0_0), .s (.k .i64 l0_1), .s (.k .i64 l0_2), .s (.k .i64 l0_3), .s (.k .i64 l0_4), .s (.k .i64 l0_5)]⟩]⟩ (W_skip ?_)
       refine W_seq ?_
       rcases Bool.eq_false_or_eq_true (decide ((0 : Int) ≤ l0_3)) with g7 | g7
       ·replace h := bif_t h g7
        rcases Bool.eq_false_or_eq_true (decide (l0_3 ≤ (23 : Int))) with g8 | g8
        ·replace h := bif_t h g8
         rcases Bool.eq_false_or_eq_true (decide ((0 : Int) ≤ l0_4)) with g9 | g9
         ·replace h := bif_t h g9
          rcases Bool.eq_false_or_eq_true (decide (l0_4 ≤ (59 : Int))) with g10 | g10
          ·replace h := bif_t h g10
           rcases Bool.eq_false_or_eq_true (decide ((0 : Int) ≤ l0_5)) with g11 | g11
           ·replace h := bif_t h g11
            refine Vg hT fN [(3, true), (8, true), (13, true), (18, true), (23, true)] [] [] ⟨[(2, kB (decide (l0_5 ≤ (59 : Int))))], [], []⟩ (aP g7 (aP g8 (aP g9 (aP g10 (aP g11 aN))))) ?_
            refine Vc [] [] (pvalid_R (decide (l0_5 ≤ (59 : Int)))) (W_ret ?_)
            exact ⟨.inl rfl, by cases h; rfl⟩
           ·replace h := bif_f h g11
            refine Vg hT fN [(3, true), (8, true), (13, true), (18, true), (23, false)] [] [] ⟨[(2, kB false)], [], []⟩ (aP g7 (aP g8 (aP g9 (aP g10 (aP g11 aN))))) ?_
            refine Vc [] [] (pvalid_R false) (W_ret ?_)
            exact ⟨.inl rfl, by cases h; rfl⟩
          ·replace h := bif_f h g10
           refine Vg hT fN [(3, true), (8, true), (13, true), (18, false)] [] [] ⟨[(2, kB false)], [], []⟩ (aP g7 (aP g8 (aP g9 (aP g10 aN)))) ?_
           refine Vc [] [] (pvalid_R false) (W_ret ?_)
           exact ⟨.inl rfl, by cases h; rfl⟩
         ·replace h := bif_f h g9
          refine Vg hT fN [(3, true), (8, true), (13, false)] [] [] ⟨[(2, kB false)], [], []⟩ (aP g7 (aP g8 (aP g9 aN))) ?_
          refine Vc [] [] (pvalid_R false) (W_ret ?_)
          exact ⟨.inl rfl, by cases h; rfl⟩
        ·replace h := bif_f h g8
         refine Vg hT fN [(3, true), (8, false)] [] [] ⟨[(2, kB false)], [], []⟩ (aP g7 (aP g8 aN)) ?_
         refine Vc [] [] (pvalid_R false) (W_ret ?_)
         exact ⟨.inl rfl, by cases h; rfl⟩
       ·replace h := bif_f h g7
        refine Vg hT fN [(3, false)] [] [] ⟨[(2, kB false)], [], []⟩ (aP g7 aN) ?_
        refine Vc [] [] (pvalid_R false) (W_ret ?_)
        exact ⟨.inl rfl, by cases h; rfl⟩
def pTime_l1_E (b5_1 : UInt8) (z6_1 : List Int) (m6_1 : Nat) (l7_1 : List UInt8) (i43_1 : Int) : S := ⟨[(5, kU b5_1), (7, kH 0), (41, kH 1), (42, kI ((m6_1 : Nat) : Int)), (43, kI i43_1)], [], [nb 5 l7_1, ⟨(.ro true), 3, 1, m6_1, .z z6_1⟩]⟩
abbrev pTime_l1_P (n : Nat) (b5_1 : UInt8) (z6_1 : List Int) (m6_1 : Nat) (r : UInt8 × List UInt8 × Option Int) (fu : Nat) : S → Prop := fun s => ∃ (l7_1 : List UInt8), ∃ (i43_1 : Int), s = pTime_l1_E b5_1 z6_1 m6_1 l7_1 i43_1 ∧ pTime_l1 n b5_1 z6_1 m6_1 fu l7_1 i43_1 = some r
def pTime_j1_E (b5_1 : UInt8) (z6_1 : List Int) (m6_1 : Nat) : S := ⟨[(5, kU b5_1), (6, kH 0)], [], [⟨(.ro true), 3, 1, m6_1, .z z6_1⟩]⟩
abbrev pTime_j1_P (n : Nat) (r : UInt8 × List UInt8 × Option Int) : S → Prop := fun s => ∃ (b5_1 : UInt8), ∃ (z6_1 : List Int), ∃ (m6_1 : Nat), s = pTime_j1_E b5_1 z6_1 m6_1 ∧ pTime_j1 n b5_1 z6_1 m6_1 = some r
def pTime_R (r : UInt8 × List UInt8 × Option Int) : S := ⟨[(2, kU r.1), (3, kH 0), (4, kE 31 r.2.2)], [], [nb 5 r.2.1]⟩
def pTime_ct (n : Nat) (r : UInt8 × List UInt8 × Option Int) : Ct := ctc (rSt (lC cI (lC cI (lC cI (lC cI (lC cI (lC cI lN))))))).rd fun _ y0 => ct0 fun H => ([pTime n y0.1 y0.2.1 y0.2.2.1 y0.2.2.2.1 y0.2.2.2.2.1 y0.2.2.2.2.2.1 = some r], shA H.length (.t [.c (.s (.u8 r.1)), .c (.wh 0), .c (.s (.er 31 .i64 r.2.2))]), shH H.length [nb 5 r.2.1])
theorem pTime_ok (n : Nat) (r : UInt8 × List UInt8 × Option Int) : FnOk Try.prog Tr 20 (pTime_ct n r) := by
 refine fnok Try.func20 ?_
 refine HO_c (rSt (lC cI (lC cI (lC cI (lC cI (lC cI (lC cI lN))))))) fun p0 _ => ?_
 obtain ⟨l0_0, l0_1, l0_2, l0_3, l0_4, l0_5, _⟩ := p0
 refine HO_0 tabO_pr (pTime_R r) [.tmp 2, .tmp 3, .tmp 4] [0] 63 Try.func20 fun w hG h => ?_
 have h : pTime n l0_0 l0_1 l0_2 l0_3 l0_4 l0_5 = some r := h
 unfold pTime at h
 have hT := tabO_pr
 refine Vrs hT [0] ⟨[(1, kP 0 0)], [], [⟨.blk, 34, 1, 6, .c [.s (.k .i64 l0_0), .s (.k .i64 l0_1), .s (.k .i64 l0_2), .s (.k .i64 l0_3), .s (.k .i64 l0_4), .s (.k .i64 l0_5)]⟩]⟩ ?_
 refine W_seq ?_
 obtain ⟨r11, g1, h⟩ := bind_some' h
 refine Vgs hT (fT 1 (pvalid_ok n r11) fN) [] [] [0] ⟨[(1, kP 0 0), (12, kB (!r11))], [], [⟨.blk, 34, 1, 6, .c [.s (.k .i64 l0_0), .s (.k .i64 l0_1), .s (.k .i64 l0_2), .s (.k .i64 l0_3), .s (.k .i64 l0_4), .s (.k .i64 l0_5)]⟩]⟩ (aP g1 aN) ?_
 refine Vi ((!r11)) (fun g20 => ?_) (fun g20 => ?_)
 ·replace h := bif_t h g20
  refine Vrs hT [] ⟨[(2, kU 0), (3, .c (.nils)), (4, kE 31 (some 1))], [], []⟩ ?_
  refine Vc [.nil 3 5 1 (.b [])] [0] (pTime_R (0, [], (some 1))) (W_ret ?_)
  exact ⟨.inl rfl, by cases h; rfl⟩
 ·replace h := bif_f h g20
  refine W_skip ?_
  obtain ⟨g2, g3, g4, h⟩ := gd3 h
  refine Vds hT fN 18 [] [(1, false), (5, false), (30, false)] [] [0, 1] ⟨[(1, kP 0 0), (5, kU 24), (6, kH 1)], [], [⟨.blk, 34, 1, 6, .c [.s (.k .i64 l0_0), .s (.k .i64 l0_1), .s (.k .i64 l0_2), .s (.k .i64 l0_3), .s (.k .i64 l0_4), .s (.k .i64 l0_5)]⟩, ⟨.row, 3, 1, 7, .z [(Int.tdiv l0_0 100), (Int.tmod l0_0 100), l0_1, l0_2, l0_3, l0_4, l0_5]⟩]⟩ (aP g2 (aP g3 (aP g4 aN))) ?_
  refine W_join (pTime_j1_P n r) ?_ ?_
  ·rintro _ ⟨b5_1, z6_1, m6_1, rfl, h⟩
   unfold pTime_j1 at h
   refine Vrs hT [0] ⟨[(5, kU b5_1), (6, kH 0), (7, .c (.nils))], [], [⟨(.ro true), 3, 1, m6_1, .z z6_1⟩]⟩ ?_
   refine W_seq ?_
   refine Vrs hT [0] ⟨[(5, kU b5_1), (7, .c (.nils)), (41, kH 0), (42, kI ((m6_1 : Nat) : Int)), (43, kI 0)], [], [⟨(.ro true), 3, 1, m6_1, .z z6_1⟩]⟩ ?_
   refine W_block ?_
   refine Vc [.nil 7 5 1 (.b [])] [1, 0] (pTime_l1_E b5_1 z6_1 m6_1 [] 0) (W_lp ((pTime_l1_P n b5_1 z6_1 m6_1 r)) n ⟨_, _, rfl, h⟩ ?_)
   rintro fu_l1 _ ⟨l7_1, i43_1, rfl, h⟩
   cases fu_l1 with
   | zero => cases h
   | succ fu_l1 =>
    refine ⟨fu_l1, rfl, ?_⟩
    rw [pTime_l1] at h
    refine Vrs hT [0, 1] ⟨[(5, kU b5_1), (7, kH 0), (41, kH 1), (42, kI ((m6_1 : Nat) : Int)), (43, kI i43_1), (44, kB (decide (i43_1 < ((m6_1 : Nat) : Int))))], [], [nb 5 l7_1, ⟨(.ro true), 3, 1, m6_1, .z z6_1⟩]⟩ ?_
    refine W_seq ?_
    refine Vi ((decide (i43_1 < ((m6_1 : Nat) : Int)))) (fun g15 => ?_) (fun g15 => ?_)
    ·replace h := bif_t h g15
     refine W_skip ?_
     refine W_seq ?_
     refine W_block ?_
     obtain ⟨g5, g6, h⟩ := gd2 h
     refine Vgs hT fN [] [] [0, 1] ⟨[(5, kU b5_1), (7, kH 0), (9, kI (z6_1.getD i43_1.toNat 0)), (41, kH 1), (42, kI ((m6_1 : Nat) : Int)), (43, kI i43_1)], [], [nb 5 l7_1, ⟨(.ro true), 3, 1, m6_1, .z z6_1⟩]⟩ (aP g5 (aP g6 aN)) ?_
     obtain ⟨g7, g8, g9, g10, g11, h⟩ := gd5 h
     obtain ⟨g12, h⟩ := gd_some h
     refine Vg hT fN [] [] [3, 1] ⟨[(5, kU b5_1), (7, kH 0), (41, kH 1), (42, kI ((m6_1 : Nat) : Int)), (43, kI i43_1)], [], [nb 5 (l7_1 ++ [(UInt8.ofInt (48 + (Int.tdiv (z6_1.getD i43_1.toNat 0) 10))), (UInt8.ofInt (48 + (Int.tmod (z6_1.getD i43_1.toNat 0) 10)))]), ⟨(.ro true), 3, 1, m6_1, .z z6_1⟩]⟩ (aP g7 (aP g8 (aP g9 (aP g10 (aP g11 (aP g12 aN)))))) ?_
     obtain ⟨g13, h⟩ := gd_some h
     refine Vg hT fN [] [] [0, 1] (pTime_l1_E b5_1 z6_1 m6_1 (l7_1 ++ [(UInt8.ofInt (48 + (Int.tdiv (z6_1.getD i43_1.toNat 0) 10))), (UInt8.ofInt (48 + (Int.tmod (z6_1.getD i43_1.toNat 0) 10)))]) (i43_1 + 1)) (aP g13 aN) ?_
     exact ⟨_, _, rfl, h⟩
    ·replace h := bif_f h g15
     refine Vc [] [0] ⟨[(5, kU b5_1), (7, kH 0)], [], [nb 5 l7_1]⟩ (W_exit ?_)
     obtain ⟨g14, h⟩ := gd_some h
     refine Vgs hT fN [] [] [2] ⟨[(2, kU b5_1), (3, kH 0), (4, .c (.s (.v .nilIface)))], [], [nb 5 (l7_1 ++ [90])]⟩ (aP g14 aN) ?_
     refine Vc [.er 4 31 .i64] [0] (pTime_R (b5_1, (l7_1 ++ [90]), none)) (W_ret ?_)
     exact ⟨.inl rfl, by cases h; rfl⟩
  ·refine W_seq ?_
   rcases Bool.eq_false_or_eq_true (decide ((1950 : Int) ≤ l0_0)) with g16 | g16
   ·replace h := bif_t h g16
    refine Vg hT fN [(3, true)] [] [1] ⟨[(5, kU 24), (6, kH 0), (38, kB (decide (l0_0 < (2050 : Int))))], [], [⟨.row, 3, 1, 7, .z [(Int.tdiv l0_0 100), (Int.tmod l0_0 100), l0_1, l0_2, l0_3, l0_4, l0_5]⟩]⟩ (aP g16 aN) ?_
    refine Vi ((decide (l0_0 < (2050 : Int)))) (fun g19 => ?_) (fun g19 => ?_)
    ·replace h := bif_t h g19
     obtain ⟨g17, g18, h⟩ := gd2 h
     refine Vd hT fN 3 [] [(5, false), (6, false), (40, false)] [.vw 6 true] [1] (pTime_j1_E 23 (([(Int.tdiv l0_0 100), (Int.tmod l0_0 100), l0_1, l0_2, l0_3, l0_4, l0_5].drop 1).take 6) 6) (aP g17 (aP g18 aN)) ?_
     exact ⟨_, _, _, rfl, h⟩
    ·replace h := bif_f h g19
     refine Vc [.vw 6 true] [1] (pTime_j1_E 24 [(Int.tdiv l0_0 100), (Int.tmod l0_0 100), l0_1, l0_2, l0_3, l0_4, l0_5] 7) (W_skip ?_)
     exact ⟨_, _, _, rfl, h⟩
   ·replace h := bif_f h g16
    refine Vg hT fN [(3, false)] [] [1] ⟨[(5, kU 24), (6, kH 0), (38, kB false)], [], [⟨.row, 3, 1, 7, .z [(Int.tdiv l0_0 100), (Int.tmod l0_0 100), l0_1, l0_2, l0_3, l0_4, l0_5]⟩]⟩ (aP g16 aN) ?_
    refine Vi (false) (fun hb => by cases hb) (fun _ => ?_)
    refine Vc [.vw 6 true] [1] (pTime_j1_E 24 [(Int.tdiv l0_0 100), (Int.tmod l0_0 100), l0_1, l0_2, l0_3, l0_4, l0_5] 7) (W_skip ?_)
    exact ⟨_, _, _, rfl, h⟩
def pahead_R (r : Int) : S := ⟨[(2, kI r)], [], []⟩
def pahead_ct (n : Nat) (r : Int) : Ct := ctc rI.rd fun _ l0 => ct0 fun H => ([pahead n l0 = some r], shA H.length (kI r), shH H.length [])
theorem pahead_ok (n : Nat) (r : Int) : FnOk Try.prog Tr 51 (pahead_ct n r) := by
 refine fnok Try.func51 ?_
 refine HO_c rI fun l0 _ => HO_0 tabO_pr (pahead_R r) [.tmp 2] [] 17 Try.func51 fun w hG h => ?_
 unfold pahead at h
 have hT := tabO_pr
 refine Vrs hT [] ⟨[(0, kI l0)], [], []⟩ ?_
 obtain ⟨g1, h⟩ := gd_some h
 refine Vgs hT fN [] [] [] ⟨[(3, kI (l0 - 1))], [], []⟩ (aP g1 aN) ?_
 obtain ⟨g2, g3, g4, g5, g6, h⟩ := gd5 h
 obtain ⟨g7, g8, g9, g10, g11, h⟩ := gd5 h
 refine Vgs hT fN [] [] [] ⟨[(2, kI ((((365 * (l0 - 1)) + (Int.tdiv (l0 - 1) 4)) - (Int.tdiv (l0 - 1) 100)) + (Int.tdiv (l0 - 1) 400)))], [], []⟩ (aP g2 (aP g3 (aP g4 (aP g5 (aP g6 (aP g7 (aP g8 (aP g9 (aP g10 (aP g11 aN)))))))))) ?_
 refine Vc [] [] (pahead_R ((((365 * (l0 - 1)) + (Int.tdiv (l0 - 1) 4)) - (Int.tdiv (l0 - 1) 100)) + (Int.tdiv (l0 - 1) 400))) (W_ret ?_)
 exact ⟨.inl rfl, by cases h; rfl⟩
def pCount_l1_E (a0_0 : Int) (a0_1 : Int) (a0_2 : Int) (a0_3 : Int) (a0_4 : Int) (a0_5 : Int) (i4_1 : Int) (i5_1 : Int) : S := ⟨[(1, kP 0 0), (4, kI i4_1), (5, kI i5_1)], [], [⟨.blk, 34, 1, 6, .c [.s (.k .i64 a0_0), .s (.k .i64 a0_1), .s (.k .i64 a0_2), .s (.k .i64 a0_3), .s (.k .i64 a0_4), .s (.k .i64 a0_5)]⟩]⟩
abbrev pCount_l1_P (n : Nat) (a0_0 : Int) (a0_1 : Int) (a0_2 : Int) (a0_3 : Int) (a0_4 : Int) (a0_5 : Int) (r : Int × Option Int) (fu : Nat) : S → Prop := fun s => ∃ (i4_1 : Int), ∃ (i5_1 : Int), s = pCount_l1_E a0_0 a0_1 a0_2 a0_3 a0_4 a0_5 i4_1 i5_1 ∧ pCount_l1 n a0_0 a0_1 a0_2 a0_3 a0_4 a0_5 fu i4_1 i5_1 = some r
def pCount_R (r : Int × Option Int) : S := ⟨[(2, kI r.1), (3, kE 31 r.2)], [], []⟩
def pCount_ct (n : Nat) (r : Int × Option Int) : Ct := ctc (rSt (lC cI (lC cI (lC cI (lC cI (lC cI (lC cI lN))))))).rd fun _ y0 => ct0 fun H => ([pCount n y0.1 y0.2.1 y0.2.2.1 y0.2.2.2.1 y0.2.2.2.2.1 y0.2.2.2.2.2.1 = some r], shA H.length (.t [.c (.s (.k .i64 r.1)), .c (.s (.er 31 .i64 r.2))]), shH H.length [])
theorem pCount_ok (n : Nat) (r : Int × Option Int) : FnOk Try.prog Tr 19 (pCount_ct n r) := by
 refine fnok Try.func19 ?_
 refine HO_c (rSt (lC cI (lC cI (lC cI (lC cI (lC cI (lC cI lN))))))) fun p0 _ => ?_
 obtain ⟨l0_0, l0_1, l0_2, l0_3, l0_4, l0_5, _⟩ := p0
 refine HO_0 tabO_pr (pCount_R r) [.tmp 2, .tmp 3] [] 42 Try.func19 fun w hG h => ?_
 have h : pCount n l0_0 l0_1 l0_2 l0_3 l0_4 l0_5 = some r := h
 unfold pCount at h
 have hT := tabO_pr
 refine Vrs hT [0] ⟨[(1, kP 0 0)], [], [⟨.blk, 34, 1, 6, .c [.s (.k .i64 l0_0), .s (.k .i64 l0_1), .s (.k .i64 l0_2), .s (.k .i64 l0_3), .s (.k .i64 l0_4), .s (.k .i64 l0_5)]⟩]⟩ ?_
 refine W_seq ?_
 obtain ⟨r7, g1, h⟩ := bind_some' h
 refine Vgs hT (fT 1 (pvalid_ok n r7) fN) [] [] [0] ⟨[(1, kP 0 0), (8, kB (!r7))], [], [⟨.blk, 34, 1, 6, .c [.s (.k .i64 l0_0), .s (.k .i64 l0_1), .s (.k .i64 l0_2), .s (.k .i64 l0_3), .s (.k .i64 l0_4), .s (.k .i64 l0_5)]⟩]⟩ (aP g1 aN) ?_
 refine Vi ((!r7)) (fun g15 => ?_) (fun g15 => ?_)
 ·replace h := bif_t h g15
  refine Vrs hT [] ⟨[(2, kI 0), (3, kE 31 (some 1))], [], []⟩ ?_
  refine Vc [] [] (pCount_R (0, (some 1))) (W_ret ?_)
  exact ⟨.inl rfl, by cases h; rfl⟩
 ·replace h := bif_f h g15
  refine W_skip ?_
  obtain ⟨r12, g2, h⟩ := bind_some' h
  obtain ⟨g3, g4, h⟩ := gd2 h
  refine Vds hT (fT 2 (pahead_ok n r12) fN) 6 [] [(1, false), (12, false), (15, false)] [] [0] ⟨[(1, kP 0 0), (4, kI (r12 + (l0_2 - 1)))], [], [⟨.blk, 34, 1, 6, .c [.s (.k .i64 l0_0), .s (.k .i64 l0_1), .s (.k .i64 l0_2), .s (.k .i64 l0_3), .s (.k .i64 l0_4), .s (.k .i64 l0_5)]⟩]⟩ (aP g2 (aP g3 (aP g4 aN))) ?_
  refine W_seq ?_
  refine Vrs hT [0] ⟨[(1, kP 0 0), (4, kI (r12 + (l0_2 - 1))), (5, kI 1)], [], [⟨.blk, 34, 1, 6, .c [.s (.k .i64 l0_0), .s (.k .i64 l0_1), .s (.k .i64 l0_2), .s (.k .i64 l0_3), .s (.k .i64 l0_4), .s (.k .i64 l0_5)]⟩]⟩ ?_
  refine W_block ?_
  refine Vc [] [0] (pCount_l1_E l0_0 l0_1 l0_2 l0_3 l0_4 l0_5 (r12 + (l0_2 - 1)) 1) (W_lp ((pCount_l1_P n l0_0 l0_1 l0_2 l0_3 l0_4 l0_5 r)) n ⟨_, _, rfl, h⟩ ?_)
  rintro fu_l1 _ ⟨i4_1, i5_1, rfl, h⟩
  cases fu_l1 with
  | zero => cases h
  | succ fu_l1 =>
   refine ⟨fu_l1, rfl, ?_⟩
   rw [pCount_l1] at h
   refine W_seq ?_
   refine Vrs hT [0] ⟨[(1, kP 0 0), (4, kI i4_1), (5, kI i5_1), (20, kB (decide (i5_1 < l0_1)))], [], [⟨.blk, 34, 1, 6, .c [.s (.k .i64 l0_0), .s (.k .i64 l0_1), .s (.k .i64 l0_2), .s (.k .i64 l0_3), .s (.k .i64 l0_4), .s (.k .i64 l0_5)]⟩]⟩ ?_
   refine Vi ((decide (i5_1 < l0_1))) (fun g14 => ?_) (fun g14 => ?_)
   ·replace h := bif_t h g14
    refine W_skip ?_
    refine W_seq ?_
    refine W_block ?_
    obtain ⟨r27_2, g5, h⟩ := bind_some' h
    obtain ⟨g6, h⟩ := gd_some h
    refine Vg hT (fT 4 (pdays_ok n r27_2) fN) [] [] [0] ⟨[(1, kP 0 0), (4, kI (i4_1 + r27_2)), (5, kI i5_1)], [], [⟨.blk, 34, 1, 6, .c [.s (.k .i64 l0_0), .s (.k .i64 l0_1), .s (.k .i64 l0_2), .s (.k .i64 l0_3), .s (.k .i64 l0_4), .s (.k .i64 l0_5)]⟩]⟩ (aP g5 (aP g6 aN)) ?_
    obtain ⟨g7, h⟩ := gd_some h
    refine Vg hT fN [] [] [0] (pCount_l1_E l0_0 l0_1 l0_2 l0_3 l0_4 l0_5 (i4_1 + r27_2) (i5_1 + 1)) (aP g7 aN) ?_
    exact ⟨_, _, rfl, h⟩
   ·replace h := bif_f h g14
    refine Vc [] [0] ⟨[(1, kP 0 0), (4, kI i4_1)], [], [⟨.blk, 34, 1, 6, .c [.s (.k .i64 l0_0), .s (.k .i64 l0_1), .s (.k .i64 l0_2), .s (.k .i64 l0_3), .s (.k .i64 l0_4), .s (.k .i64 l0_5)]⟩]⟩ (W_exit ?_)
    obtain ⟨g8, g9, g10, g11, g12, h⟩ := gd5 h
    obtain ⟨g13, h⟩ := gd_some h
    refine Vgs hT fN [] [] [] ⟨[(2, kI ((i4_1 * 86400) + (((l0_3 * 3600) + (l0_4 * 60)) + l0_5))), (3, .c (.s (.v .nilIface)))], [], []⟩ (aP g8 (aP g9 (aP g10 (aP g11 (aP g12 (aP g13 aN)))))) ?_
    refine Vc [.er 3 31 .i64] [] (pCount_R (((i4_1 * 86400) + (((l0_3 * 3600) + (l0_4 * 60)) + l0_5)), none)) (W_ret ?_)
    exact ⟨.inl rfl, by cases h; rfl⟩
def pInt_j1_E (l3_6 : List UInt8) (m3_4 : Nat) : S := ⟨[(3, kH 0)], [], [⟨(.ro true), 5, 1, m3_4, .b l3_6⟩]⟩
abbrev pInt_j1_P (n : Nat) (r : List UInt8) : S → Prop := fun s => ∃ (l3_6 : List UInt8), ∃ (m3_4 : Nat), s = pInt_j1_E l3_6 m3_4 ∧ pInt_j1 n l3_6 m3_4 = some r
def pInt_l2_E (l3_7 : List UInt8) (m3_5 : Nat) : S := ⟨[(3, kH 0)], [], [⟨(.ro true), 5, 1, m3_5, .b l3_7⟩]⟩
abbrev pInt_l2_P (n : Nat) (r : List UInt8) (fu : Nat) : S → Prop := fun s => ∃ (l3_7 : List UInt8), ∃ (m3_5 : Nat), s = pInt_l2_E l3_7 m3_5 ∧ pInt_l2 n fu l3_7 m3_5 = some r
def pInt_l1_E (a0 : Int) (l3_4 : List UInt8) (i4_1 : Int) : S := ⟨[(0, kI a0), (3, kH 0), (4, kI i4_1)], [], [nb 5 l3_4]⟩
abbrev pInt_l1_P (n : Nat) (a0 : Int) (r : List UInt8) (fu : Nat) : S → Prop := fun s => ∃ (l3_4 : List UInt8), ∃ (i4_1 : Int), s = pInt_l1_E a0 l3_4 i4_1 ∧ pInt_l1 n a0 fu l3_4 i4_1 = some r
def pInt_R (r : List UInt8) : S := ⟨[(2, kH 0)], [], [nb 5 r]⟩
def pInt_ct (n : Nat) (r : List UInt8) : Ct := ctc rI.rd fun _ l0 => ct0 fun H => ([pInt n l0 = some r], shA H.length (kH 0), shH H.length [nb 5 r])
theorem pInt_ok (n : Nat) (r : List UInt8) : FnOk Try.prog Tr 15 (pInt_ct n r) := by
 refine fnok Try.func15 ?_
 refine HO_c rI fun l0 _ => HO_0 tabO_pr (pInt_R r) [.tmp 2] [0] 27 Try.func15 fun w hG h => ?_
 unfold pInt at h
 have hT := tabO_pr
 refine Vrs hT [] ⟨[(0, kI l0)], [], []⟩ ?_
 refine Vrs hT [] ⟨[(0, kI l0), (3, .c (.nils))], [], []⟩ ?_
 refine W_seq ?_
 refine Vrs hT [] ⟨[(0, kI l0), (3, .c (.nils)), (4, kI 56)], [], []⟩ ?_
 refine W_block ?_
 refine Vc [.nil 3 5 1 (.b [])] [0] (pInt_l1_E l0 [] 56) (W_lp ((pInt_l1_P n l0 r)) n ⟨_, _, rfl, h⟩ ?_)
 rintro fu_l1 _ ⟨l3_4, i4_1, rfl, h⟩
 cases fu_l1 with
 | zero => cases h
 | succ fu_l1 =>
  refine ⟨fu_l1, rfl, ?_⟩
  rw [pInt_l1] at h
  refine W_seq ?_
  refine Vrs hT [0] ⟨[(0, kI l0), (3, kH 0), (4, kI i4_1), (6, kB (decide ((0 : Int) ≤ i4_1)))], [], [nb 5 l3_4]⟩ ?_
  refine Vi ((decide ((0 : Int) ≤ i4_1))) (fun g11 => ?_) (fun g11 => ?_)
  ·replace h := bif_t h g11
   refine W_skip ?_
   refine W_seq ?_
   refine W_block ?_
   obtain ⟨g1, g2, g3, h⟩ := gd3 h
   refine Vg hT fN [] [] [2] ⟨[(0, kI l0), (3, kH 0), (4, kI i4_1)], [], [nb 5 (l3_4 ++ [(UInt8.ofInt (l0 / 2 ^ i4_1.toNat))])]⟩ (aP g1 (aP g2 (aP g3 aN))) ?_
   obtain ⟨g4, h⟩ := gd_some h
   refine Vg hT fN [] [] [0] (pInt_l1_E l0 (l3_4 ++ [(UInt8.ofInt (l0 / 2 ^ i4_1.toNat))]) (i4_1 - 8)) (aP g4 aN) ?_
   exact ⟨_, _, rfl, h⟩
  ·replace h := bif_f h g11
   refine Vc [] [0] ⟨[(3, kH 0)], [], [nb 5 l3_4]⟩ (W_exit ?_)
   refine W_join (pInt_j1_P n r) ?_ ?_
   ·rintro _ ⟨l3_6, m3_4, rfl, h⟩
    unfold pInt_j1 at h
    obtain ⟨g5, h⟩ := gd_some h
    refine Vgs hT (fT 1 cloneb_h fN) [] [] [1] ⟨[(2, kH 0)], [], [nb 5 l3_6]⟩ (aP g5 aN) ?_
    refine Vc [] [0] (pInt_R l3_6) (W_ret ?_)
    exact ⟨.inl rfl, by cases h; rfl⟩
   ·refine W_block ?_
    refine Vc [.vw 3 true] [1] (pInt_l2_E l3_4 l3_4.length) (W_lp ((pInt_l2_P n r)) n ⟨_, _, rfl, h⟩ ?_)
    rintro fu_l2 _ ⟨l3_7, m3_5, rfl, h⟩
    cases fu_l2 with
    | zero => cases h
    | succ fu_l2 =>
     refine ⟨fu_l2, rfl, ?_⟩
     rw [pInt_l2] at h
     refine W_seq ?_
     refine W_seq ?_
     rcases Bool.eq_false_or_eq_true (decide ((1 : Int) < ((m3_5 : Nat) : Int))) with g6 | g6
     ·replace h := bif_t h g6
      obtain ⟨r21_5, g7, h⟩ := bind_some' h
      refine Vg hT (fT 5 (pspare_ok n r21_5) fN) [(3, true)] [] [0] ⟨[(3, kH 0), (22, kB r21_5)], [], [⟨(.ro true), 5, 1, m3_5, .b l3_7⟩]⟩ (aP g6 (aP g7 aN)) ?_
      refine Vi (r21_5) (fun g10 => ?_) (fun g10 => ?_)
      ·replace h := bif_t h g10
       refine W_skip ?_
       refine W_block ?_
       obtain ⟨g8, g9, h⟩ := gd2 h
       refine Vg hT fN [] [.vw 3 true] [1] (pInt_l2_E ((l3_7.drop 1).take (m3_5 - 1)) (m3_5 - 1)) (aP g8 (aP g9 aN)) ?_
       exact ⟨_, _, rfl, h⟩
      ·replace h := bif_f h g10
       refine Vc [] [0] (pInt_j1_E l3_7 m3_5) (W_exit ?_)
       exact ⟨_, _, rfl, h⟩
     ·replace h := bif_f h g6
      refine Vg hT fN [(3, false)] [] [0] ⟨[(3, kH 0), (22, kB false)], [], [⟨(.ro true), 5, 1, m3_5, .b l3_7⟩]⟩ (aP g6 aN) ?_
      refine Vi (false) (fun hb => by cases hb) (fun _ => ?_)
      refine Vc [] [0] (pInt_j1_E l3_7 m3_5) (W_exit ?_)
      exact ⟨_, _, rfl, h⟩
def pup_R (r : Bool) : S := ⟨[(0, kB r)], [], []⟩
def pup_ct (n : Nat) (r : Bool) : Ct := ct0 fun H => ([pup n = some r], shA H.length (kB r), shH H.length [])
theorem pup_ok (n : Nat) (r : Bool) : FnOk Try.prog Tr 14 (pup_ct n r) := by
 refine fnok Try.func14 ?_
 refine HO_0 tabO_pr (pup_R r) [.tmp 0] [] 69 Try.func14 fun w hG h => ?_
 unfold pup at h
 have hT := tabO_pr
 refine Vrs hT [] ⟨[], [], []⟩ ?_
 obtain ⟨r12, g1, h⟩ := bind_some' h
 refine Vgs hT (fT 1 (pReadInt_ok n r12) fN) [] [] [] ⟨[(2, kE 31 r12.2)], [], []⟩ (aP g1 aN) ?_
 obtain ⟨r17, g2, h⟩ := bind_some' h
 refine Vgs hT (fT 1 (pOid_ok n r17) fN) [] [] [1] ⟨[(2, kE 31 r12.2), (3, kH 0), (4, kE 31 r17.2)], [], [nb 5 r17.1]⟩ (aP g2 aN) ?_
 obtain ⟨r22, g3, h⟩ := bind_some' h
 refine Vgs hT (fT 1 (pTime_ok n r22) fN) [] [] [0, 1] ⟨[(2, kE 31 r12.2), (3, kH 0), (4, kE 31 r17.2), (5, kU r22.1), (6, kH 1), (7, kE 31 r22.2.2)], [], [nb 5 r17.1, nb 5 r22.2.1]⟩ (aP g3 aN) ?_
 obtain ⟨r28, g4, h⟩ := bind_some' h
 refine Vgs hT (fT 1 (pCount_ok n r28) fN) [] [] [0, 1] ⟨[(2, kE 31 r12.2), (3, kH 0), (4, kE 31 r17.2), (5, kU r22.1), (6, kH 1), (7, kE 31 r22.2.2), (8, kI r28.1), (9, kE 31 r28.2)], [], [nb 5 r17.1, nb 5 r22.2.1]⟩ (aP g4 aN) ?_
 refine W_seq ?_
 obtain ⟨r31, g5, h⟩ := bind_some' h
 rcases Bool.eq_false_or_eq_true (r31 == ([255, 127] : List UInt8)) with g6 | g6
 ·replace h := bif_t h g6
  obtain ⟨g7, h⟩ := gd_some h
  rcases Bool.eq_false_or_eq_true (r12.2 == (some 2)) with g8 | g8
  ·replace h := bif_t h g8
   rcases Bool.eq_false_or_eq_true ((r17.2).isNone) with g9 | g9
   ·replace h := bif_t h g9
    rcases Bool.eq_false_or_eq_true (r17.1 == ([42, 134, 72, 134, 247, 13] : List UInt8)) with g10 | g10
    ·replace h := bif_t h g10
     rcases Bool.eq_false_or_eq_true ((r22.2.2).isNone) with g11 | g11
     ·replace h := bif_t h g11
      rcases Bool.eq_false_or_eq_true (r22.1 == 23) with g12 | g12
      ·replace h := bif_t h g12
       rcases Bool.eq_false_or_eq_true (r22.2.1 == ([52, 57, 49, 50, 51, 49, 50, 51, 53, 57, 53, 57, 90] : List UInt8)) with g13 | g13
       ·replace h := bif_t h g13
        rcases Bool.eq_false_or_eq_true ((r28.2).isNone) with g14 | g14
        ·replace h := bif_t h g14
         refine Vg hT (fT 0 (pInt_ok n r31) fN) [(3, true), (8, true), (12, true), (17, true), (21, true), (25, true), (30, true), (34, true)] [] [] ⟨[(0, kB (r28.1 == 1))], [], []⟩ (aP g5 (aP g6 (aP g7 (aP g8 (aP g9 (aP g10 (aP g11 (aP g12 (aP g13 (aP g14 aN)))))))))) ?_
         refine Vc [] [] (pup_R (r28.1 == 1)) (W_ret ?_)
         exact ⟨.inl rfl, by cases h; rfl⟩
        ·replace h := bif_f h g14
         refine Vg hT (fT 0 (pInt_ok n r31) fN) [(3, true), (8, true), (12, true), (17, true), (21, true), (25, true), (30, true), (34, false)] [] [] ⟨[(0, kB false)], [], []⟩ (aP g5 (aP g6 (aP g7 (aP g8 (aP g9 (aP g10 (aP g11 (aP g12 (aP g13 (aP g14 aN)))))))))) ?_
         refine Vc [] [] (pup_R false) (W_ret ?_)
         exact ⟨.inl rfl, by cases h; rfl⟩
       ·replace h := bif_f h g13
        refine Vg hT (fT 0 (pInt_ok n r31) fN) [(3, true), (8, true), (12, true), (17, true), (21, true), (25, true), (30, false)] [] [] ⟨[(0, kB false)], [], []⟩ (aP g5 (aP g6 (aP g7 (aP g8 (aP g9 (aP g10 (aP g11 (aP g12 (aP g13 aN))))))))) ?_
        refine Vc [] [] (pup_R false) (W_ret ?_)
        exact ⟨.inl rfl, by cases h; rfl⟩
      ·replace h := bif_f h g12
       refine Vg hT (fT 0 (pInt_ok n r31) fN) [(3, true), (8, true), (12, true), (17, true), (21, true), (25, false)] [] [] ⟨[(0, kB false)], [], []⟩ (aP g5 (aP g6 (aP g7 (aP g8 (aP g9 (aP g10 (aP g11 (aP g12 aN)))))))) ?_
       refine Vc [] [] (pup_R false) (W_ret ?_)
       exact ⟨.inl rfl, by cases h; rfl⟩
     ·replace h := bif_f h g11
      refine Vg hT (fT 0 (pInt_ok n r31) fN) [(3, true), (8, true), (12, true), (17, true), (21, false)] [] [] ⟨[(0, kB false)], [], []⟩ (aP g5 (aP g6 (aP g7 (aP g8 (aP g9 (aP g10 (aP g11 aN))))))) ?_
      refine Vc [] [] (pup_R false) (W_ret ?_)
      exact ⟨.inl rfl, by cases h; rfl⟩
    ·replace h := bif_f h g10
     refine Vg hT (fT 0 (pInt_ok n r31) fN) [(3, true), (8, true), (12, true), (17, false)] [] [] ⟨[(0, kB false)], [], []⟩ (aP g5 (aP g6 (aP g7 (aP g8 (aP g9 (aP g10 aN)))))) ?_
     refine Vc [] [] (pup_R false) (W_ret ?_)
     exact ⟨.inl rfl, by cases h; rfl⟩
   ·replace h := bif_f h g9
    refine Vg hT (fT 0 (pInt_ok n r31) fN) [(3, true), (8, true), (12, false)] [] [] ⟨[(0, kB false)], [], []⟩ (aP g5 (aP g6 (aP g7 (aP g8 (aP g9 aN))))) ?_
    refine Vc [] [] (pup_R false) (W_ret ?_)
    exact ⟨.inl rfl, by cases h; rfl⟩
  ·replace h := bif_f h g8
   refine Vg hT (fT 0 (pInt_ok n r31) fN) [(3, true), (8, false)] [] [] ⟨[(0, kB false)], [], []⟩ (aP g5 (aP g6 (aP g7 (aP g8 aN)))) ?_
   refine Vc [] [] (pup_R false) (W_ret ?_)
   exact ⟨.inl rfl, by cases h; rfl⟩
 ·replace h := bif_f h g6
  refine Vg hT (fT 0 (pInt_ok n r31) fN) [(3, false)] [] [] ⟨[(0, kB false)], [], []⟩ (aP g5 (aP g6 aN)) ?_
  refine Vc [] [] (pup_R false) (W_ret ?_)
  exact ⟨.inl rfl, by cases h; rfl⟩
end Go.Proofs.Ytliilihbnhdemaa
end
section
namespace Go.Proofs.Ytliilihbnhdemaa
open Go.RowKit Go.Ch Go.Sx
def tabL_pb : List (TypeId × Ti) := [(3, ⟨.int .i64, 1, 8, true, some [.int .i64]⟩),
 (5, ⟨.int .u8, 1, 1, true, some [.int .u8]⟩),
 (9, ⟨.str, 1, 16, true, some [.str]⟩),
 (22, ⟨.sl 5, 1, 24, false, some [.nils]⟩),
 (28, ⟨.ifc, 1, 16, true, some [.ifc]⟩),
 (31, ⟨.int .i64, 1, 8, true, some [.int .i64]⟩),
 (70, ⟨.sl 89, 1, 24, false, some [.nils]⟩),
 (77, ⟨.sl 3, 1, 24, false, some [.nils]⟩),
 (89, ⟨.int .u32, 1, 4, true, some [.int .u32]⟩)]
def tab_pb : Tab := fun t => (tabL_pb).lookup t
theorem tabE_pb : (tabL_pb.map fun p => tiOf Try.prog p.1) = tabL_pb.map fun p => some p.2 := by kernel_rfl
theorem tabO_pb : TabOk Try.prog tab_pb := tab_of tabE_pb
def ptrim_l1 (n : Nat) : Nat → List UInt32 → Nat → Option (List UInt32 × Nat)
 | 0, _, _ => none
 | fu_l1 + 1, w0_2, m0_2 =>
 bif (decide ((0 : Int) < ((m0_2 : Nat) : Int))) then
 gd (okI .i64 (((m0_2 : Nat) : Int) - 1)) <|
 gd (0 ≤ (((m0_2 : Nat) : Int) - 1)) <|
 gd ((((m0_2 : Nat) : Int) - 1) < ((m0_2 : Nat) : Int)) <|
 bif ((w0_2.getD ((((m0_2 : Nat) : Int) - 1).toNat) 0) == 0) then
 gd (okI .i64 (((m0_2 : Nat) : Int) - 1)) <|
 gd (0 ≤ (((m0_2 : Nat) : Int) - 1)) <|
 gd ((((m0_2 : Nat) : Int) - 1) ≤ ((m0_2 : Nat) : Int)) <|
 (ptrim_l1 n fu_l1) ((w0_2.drop 0).take ((((m0_2 : Nat) : Int) - 1).toNat)) ((((m0_2 : Nat) : Int) - 1).toNat)
 else
 some (w0_2, m0_2)
 else
 some (w0_2, m0_2)
def ptrim (n : Nat) (a0 : List UInt32) : Option (List UInt32 × Nat) :=
 ptrim_l1 n n a0 a0.length
def pWrite_j1 (n : Nat) (a1 : Int) (r10 : List UInt32 × Nat) (i27_1 : Int) (k_l1 : (List UInt8) → Int → Option (List UInt8 × Nat × Option Int)) (l6_7 : List UInt8) : Option (List UInt8 × Nat × Option Int) :=
 gd (okI .i64 (i27_1 + 1)) <|
 k_l1 l6_7 (i27_1 + 1)
def pWrite_l1 (n : Nat) (a1 : Int) (r10 : List UInt32 × Nat) : Nat → List UInt8 → Int → Option (List UInt8 × Nat × Option Int)
 | 0, _, _ => none
 | fu_l1 + 1, l6_5, i27_1 =>
 bif (decide (i27_1 < (4 * ((r10.2 : Nat) : Int)))) then
 gd ((4 : Int) ≠ 0) <|
 gd (okI .i64 (Int.tdiv i27_1 4)) <|
 gd (0 ≤ (Int.tdiv i27_1 4)) <|
 gd ((Int.tdiv i27_1 4) < ((r10.2 : Nat) : Int)) <|
 gd ((4 : Int) ≠ 0) <|
 gd (okI .i64 (8 * (Int.tmod i27_1 4))) <|
 gd (0 ≤ (8 * (Int.tmod i27_1 4))) <|
 bif (decide (i27_1 < a1)) then
 gd (okI .i64 (a1 - 1)) <|
 gd (okI .i64 ((a1 - 1) - i27_1)) <|
 gd (0 ≤ ((a1 - 1) - i27_1)) <|
 gd (((a1 - 1) - i27_1) < ((a1.toNat : Nat) : Int)) <|
 pWrite_j1 n a1 r10 i27_1 (pWrite_l1 n a1 r10 fu_l1) (l6_5.set (((a1 - 1) - i27_1).toNat) ((shr32 (r10.1.getD ((Int.tdiv i27_1 4).toNat) 0) (8 * (Int.tmod i27_1 4))).toUInt8))
 else
 bif (((shr32 (r10.1.getD ((Int.tdiv i27_1 4).toNat) 0) (8 * (Int.tmod i27_1 4))).toUInt8) != 0) then
 some ([], 0, (some 1))
 else
 pWrite_j1 n a1 r10 i27_1 (pWrite_l1 n a1 r10 fu_l1) l6_5
 else
 some (l6_5, a1.toNat, none)
def pWrite (n : Nat) (a0 : List UInt32) (a1 : Int) : Option (List UInt8 × Nat × Option Int) :=
 (ptrim n a0).bind fun r10 =>
 bif (decide ((64 : Int) < ((r10.2 : Nat) : Int))) then
  some ([], 0, (some 4))
 else
  bif (decide (a1 < (0 : Int))) then
   some ([], 0, (some 1))
  else
   bif (decide ((256 : Int) < a1)) then
    some ([], 0, (some 1))
   else
    gd (0 ≤ a1) <|
    gd (a1 = a1) <|
    gd (rmB a1.toNat 1) <|
    gd (okI .i64 (4 * ((r10.2 : Nat) : Int))) <|
    pWrite_l1 n a1 r10 n (List.replicate a1.toNat 0) 0
def pBig_j1 (n : Nat) (l4_4 : List UInt8) (m4_4 : Nat) : Option (List UInt8 × Option Int) :=
 gd ((l4_4).length ≤ 1000000000000) <|
 some (l4_4, none)
def pBig_l1 (n : Nat) : Nat → List UInt8 → Nat → Option (List UInt8 × Option Int)
 | 0, _, _ => none
 | fu_l1 + 1, l4_5, m4_5 =>
  bif (decide ((1 : Int) < ((m4_5 : Nat) : Int))) then
   (pspare n l4_5).bind fun r22_4 =>
   bif r22_4 then
    gd (0 ≤ (1 : Int)) <|
    gd ((1 : Int) ≤ ((m4_5 : Nat) : Int)) <|
    (pBig_l1 n fu_l1) ((l4_5.drop 1).take (m4_5 - 1)) (m4_5 - 1)
   else
    pBig_j1 n l4_5 m4_5
  else
   pBig_j1 n l4_5 m4_5
def pBig (n : Nat) (a0 : List UInt32) : Option (List UInt8 × Option Int) :=
 (pWrite n a0 256).bind fun r8 =>
 bif (!((r8.2.2).isNone)) then
  some ([], (some 4))
 else
  gd (rmB (1 + r8.2.1) 1) <|
  pBig_l1 n n ([0] ++ r8.1) (([0] ++ r8.1).length)
def rtrim_l1 (n : Nat) (a0 : List Int) : Nat → Int → Option (List Int × Nat)
 | 0, _ => none
 | fu_l1 + 1, i3_2 =>
 bif (decide ((0 : Int) < i3_2)) then
 gd (okI .i64 (i3_2 - 1)) <|
 gd (0 ≤ (i3_2 - 1)) <|
 gd ((i3_2 - 1) < ((a0.length : Nat) : Int)) <|
 bif ((a0.getD ((i3_2 - 1).toNat) 0) == 0) then
 gd (okI .i64 (i3_2 - 1)) <|
 (rtrim_l1 n a0 fu_l1) (i3_2 - 1)
 else
 gd (0 ≤ i3_2) <|
 gd (i3_2 ≤ ((a0.length : Nat) : Int)) <|
 some (a0, i3_2.toNat)
 else
 gd (0 ≤ i3_2) <|
 gd (i3_2 ≤ ((a0.length : Nat) : Int)) <|
 some (a0, i3_2.toNat)
def rtrim (n : Nat) (a0 : List Int) : Option (List Int × Nat) :=
 rtrim_l1 n a0 n ((a0.length : Nat) : Int)
def rOf_l1 (n : Nat) (a0 : List UInt32) : Nat → List Int → Int → Option (List Int × Nat)
 | 0, _, _ => none
 | fu_l1 + 1, z3_2, i4_2 =>
  bif (decide (i4_2 < ((a0.length : Nat) : Int))) then
   gd (0 ≤ i4_2) <|
   gd (i4_2 < ((a0.length : Nat) : Int)) <|
   gd ((65536 : UInt32) ≠ 0) <|
   gd (0 ≤ i4_2) <|
   gd (i4_2 < ((a0.length : Nat) : Int)) <|
   gd ((65536 : UInt32) ≠ 0) <|
   gd (rmB (z3_2.length + 2) 8) <|
   gd (okI .i64 (i4_2 + 1)) <|
   (rOf_l1 n a0 fu_l1) (z3_2 ++ [((((a0.getD i4_2.toNat 0) % (65536 : UInt32)).toNat : Nat) : Int), ((((a0.getD i4_2.toNat 0) / (65536 : UInt32)).toNat : Nat) : Int)]) (i4_2 + 1)
  else
   (rtrim n z3_2).bind fun r27_2 =>
   some (((z3_2.drop 0).take r27_2.2), r27_2.2)
def rOf (n : Nat) (a0 : List UInt32) : Option (List Int × Nat) :=
 rOf_l1 n a0 n [] 0
def pRead_l1 (n : Nat) (l0_4 : List UInt8) (m0_4 : Nat) : Nat → List UInt32 → Int → Option (List UInt32 × Nat × Option Int)
 | 0, _, _ => none
 | fu_l1 + 1, w4_1, i30_1 =>
 bif (decide (i30_1 < ((m0_4 : Nat) : Int))) then
 gd (0 ≤ i30_1) <|
 gd (i30_1 < ((m0_4 : Nat) : Int)) <|
 gd (okI .i64 (((m0_4 : Nat) : Int) - 1)) <|
 gd (okI .i64 ((((m0_4 : Nat) : Int) - 1) - i30_1)) <|
 gd ((4 : Int) ≠ 0) <|
 gd (okI .i64 (Int.tdiv ((((m0_4 : Nat) : Int) - 1) - i30_1) 4)) <|
 gd (0 ≤ (Int.tdiv ((((m0_4 : Nat) : Int) - 1) - i30_1) 4)) <|
 gd ((Int.tdiv ((((m0_4 : Nat) : Int) - 1) - i30_1) 4) < (((Int.tdiv (((m0_4 : Nat) : Int) + 3) 4).toNat : Nat) : Int)) <|
 gd ((4 : Int) ≠ 0) <|
 gd (okI .i64 (8 * (Int.tmod ((((m0_4 : Nat) : Int) - 1) - i30_1) 4))) <|
 gd (0 ≤ (8 * (Int.tmod ((((m0_4 : Nat) : Int) - 1) - i30_1) 4))) <|
 gd (0 ≤ (Int.tdiv ((((m0_4 : Nat) : Int) - 1) - i30_1) 4)) <|
 gd ((Int.tdiv ((((m0_4 : Nat) : Int) - 1) - i30_1) 4) < (((Int.tdiv (((m0_4 : Nat) : Int) + 3) 4).toNat : Nat) : Int)) <|
 gd (okI .i64 (i30_1 + 1)) <|
 (pRead_l1 n l0_4 m0_4 fu_l1) (w4_1.set ((Int.tdiv ((((m0_4 : Nat) : Int) - 1) - i30_1) 4).toNat) ((w4_1.getD ((Int.tdiv ((((m0_4 : Nat) : Int) - 1) - i30_1) 4).toNat) 0) ||| (shl32 ((l0_4.getD i30_1.toNat 0).toUInt32) (8 * (Int.tmod ((((m0_4 : Nat) : Int) - 1) - i30_1) 4))))) (i30_1 + 1)
 else
 some (w4_1, (Int.tdiv (((m0_4 : Nat) : Int) + 3) 4).toNat, none)
def pRead_j1 (n : Nat) (l0_4 : List UInt8) (m0_4 : Nat) : Option (List UInt32 × Nat × Option Int) :=
 bif (decide ((256 : Int) < ((m0_4 : Nat) : Int))) then
 some ([], 0, (some 4))
 else
 gd (okI .i64 (((m0_4 : Nat) : Int) + 3)) <|
 gd ((4 : Int) ≠ 0) <|
 gd (okI .i64 (Int.tdiv (((m0_4 : Nat) : Int) + 3) 4)) <|
 gd (0 ≤ (Int.tdiv (((m0_4 : Nat) : Int) + 3) 4)) <|
 gd ((Int.tdiv (((m0_4 : Nat) : Int) + 3) 4) = (Int.tdiv (((m0_4 : Nat) : Int) + 3) 4)) <|
 gd (rmB ((Int.tdiv (((m0_4 : Nat) : Int) + 3) 4).toNat) 4) <|
 pRead_l1 n l0_4 m0_4 n (List.replicate ((Int.tdiv (((m0_4 : Nat) : Int) + 3) 4).toNat) 0) 0
def pRead_l2 (n : Nat) : Nat → List UInt8 → Nat → Option (List UInt32 × Nat × Option Int)
 | 0, _, _ => none
 | fu_l2 + 1, l0_5, m0_5 =>
 bif (decide ((0 : Int) < ((m0_5 : Nat) : Int))) then
 gd (0 ≤ (0 : Int)) <|
 gd ((0 : Int) < ((m0_5 : Nat) : Int)) <|
 bif ((l0_5.getD 0 0) == 0) then
 gd (0 ≤ (1 : Int)) <|
 gd ((1 : Int) ≤ ((m0_5 : Nat) : Int)) <|
 (pRead_l2 n fu_l2) ((l0_5.drop 1).take (m0_5 - 1)) (m0_5 - 1)
 else
 pRead_j1 n l0_5 m0_5
 else
 pRead_j1 n l0_5 m0_5
def pRead (n : Nat) (a0 : List UInt8) : Option (List UInt32 × Nat × Option Int) :=
 pRead_l2 n n a0 a0.length
def pReadBig (n : Nat) (a0 : List UInt8) : Option (List UInt32 × Nat × Option Int) :=
 bif (((a0.length : Nat) : Int) == 0) then
  some ([], 0, (some 2))
 else
  gd (0 ≤ (0 : Int)) <|
  gd ((0 : Int) < ((a0.length : Nat) : Int)) <|
  bif (decide ((128 : UInt8) ≤ (a0.getD 0 0))) then
   some ([], 0, (some 2))
  else
   bif (decide ((1 : Int) < ((a0.length : Nat) : Int))) then
    (pspare n a0).bind fun r19 =>
    bif r19 then
     some ([], 0, (some 2))
    else
     (pRead n a0).bind fun r24 =>
     some (r24.1, r24.2.1, r24.2.2)
   else
    (pRead n a0).bind fun r24 =>
    some (r24.1, r24.2.1, r24.2.2)
def ptrim_l1_E (w0_2 : List UInt32) (m0_2 : Nat) : S := ⟨[(0, kH 0)], [], [⟨(.ro false), 89, 1, m0_2, .w w0_2⟩]⟩
abbrev ptrim_l1_P (n : Nat) (r : List UInt32 × Nat) (fu : Nat) : S → Prop := fun s => ∃ (w0_2 : List UInt32), ∃ (m0_2 : Nat), s = ptrim_l1_E w0_2 m0_2 ∧ ptrim_l1 n fu w0_2 m0_2 = some r
def ptrim_R (r : List UInt32 × Nat) : S := ⟨[(2, kH 0)], [], [⟨(.ro false), 89, 1, r.2, .w r.1⟩]⟩
def ptrim_ct (n : Nat) (r : List UInt32 × Nat) : Ct := ctc (rW 89).rd fun _ l0 => ct0 fun H => ([ptrim n l0 = some r], shA H.length (kH 0), shH H.length [⟨(.ro false), 89, 1, r.2, .w r.1⟩])
theorem ptrim_ok (n : Nat) (r : List UInt32 × Nat) : FnOk Try.prog Tr 83 (ptrim_ct n r) := by
 refine fnok Try.func83 ?_
 refine HO_c (rW 89) fun l0 _ => HO_0 tabO_pb (ptrim_R r) [.tmp 2] [0] 21 Try.func83 fun w hG h => ?_
 unfold ptrim at h
 have hT := tabO_pb
 refine Vrs hT [0] ⟨[(0, kH 0)], [], [ow 89 l0]⟩ ?_
 refine W_seq ?_
 refine W_block ?_
 refine Vc [] [0] (ptrim_l1_E l0 l0.length) (W_lp ((ptrim_l1_P n r)) n ⟨_, _, rfl, h⟩ ?_)
 rintro fu_l1 _ ⟨w0_2, m0_2, rfl, h⟩
 cases fu_l1 with
 | zero => cases h
 | succ fu_l1 =>
  refine ⟨fu_l1, rfl, ?_⟩
  rw [ptrim_l1] at h
  refine W_seq ?_
  refine W_seq ?_
  rcases Bool.eq_false_or_eq_true (decide ((0 : Int) < ((m0_2 : Nat) : Int))) with g1 | g1
  ·replace h := bif_t h g1
   obtain ⟨g2, g3, g4, h⟩ := gd3 h
   refine Vg hT fN [(3, true)] [] [0] ⟨[(0, kH 0), (14, kB ((w0_2.getD ((((m0_2 : Nat) : Int) - 1).toNat) 0) == 0))], [], [⟨(.ro false), 89, 1, m0_2, .w w0_2⟩]⟩ (aP g1 (aP g2 (aP g3 (aP g4 aN)))) ?_
   refine Vi (((w0_2.getD ((((m0_2 : Nat) : Int) - 1).toNat) 0) == 0)) (fun g8 => ?_) (fun g8 => ?_)
   ·replace h := bif_t h g8
    refine W_skip ?_
    refine W_block ?_
    obtain ⟨g5, g6, g7, h⟩ := gd3 h
    refine Vg hT fN [] [.vw 0 false] [1] (ptrim_l1_E ((w0_2.drop 0).take ((((m0_2 : Nat) : Int) - 1).toNat)) ((((m0_2 : Nat) : Int) - 1).toNat)) (aP g5 (aP g6 (aP g7 aN))) ?_
    exact ⟨_, _, rfl, h⟩
   ·replace h := bif_f h g8
    refine Vc [] [0] ⟨[(0, kH 0)], [], [⟨(.ro false), 89, 1, m0_2, .w w0_2⟩]⟩ (W_exit ?_)
    refine Vrs hT [0] ⟨[(2, kH 0)], [], [⟨(.ro false), 89, 1, m0_2, .w w0_2⟩]⟩ ?_
    refine Vc [] [0] (ptrim_R (w0_2, m0_2)) (W_ret ?_)
    exact ⟨.inl rfl, by cases h; rfl⟩
  ·replace h := bif_f h g1
   refine Vg hT fN [(3, false)] [] [0] ⟨[(0, kH 0), (14, kB false)], [], [⟨(.ro false), 89, 1, m0_2, .w w0_2⟩]⟩ (aP g1 aN) ?_
   refine Vi (false) (fun hb => by cases hb) (fun _ => ?_)
   refine Vc [] [0] ⟨[(0, kH 0)], [], [⟨(.ro false), 89, 1, m0_2, .w w0_2⟩]⟩ (W_exit ?_)
   refine Vrs hT [0] ⟨[(2, kH 0)], [], [⟨(.ro false), 89, 1, m0_2, .w w0_2⟩]⟩ ?_
   refine Vc [] [0] (ptrim_R (w0_2, m0_2)) (W_ret ?_)
   exact ⟨.inl rfl, by cases h; rfl⟩
def pWrite_j1_E (a1 : Int) (r10 : List UInt32 × Nat) (i27_1 : Int) (l6_7 : List UInt8) : S := ⟨[(0, kH 0), (1, kI a1), (6, kH 1), (26, kI (4 * ((r10.2 : Nat) : Int))), (27, kI i27_1)], [], [⟨(.ro false), 89, 1, r10.2, .w r10.1⟩, ⟨.row, 5, 1, a1.toNat, .b l6_7⟩]⟩
abbrev pWrite_j1_P (n : Nat) (a1 : Int) (r10 : List UInt32 × Nat) (i27_1 : Int) (k_l1 : (List UInt8) → Int → Option (List UInt8 × Nat × Option Int)) (r : List UInt8 × Nat × Option Int) : S → Prop := fun s => ∃ (l6_7 : List UInt8), s = pWrite_j1_E a1 r10 i27_1 l6_7 ∧ pWrite_j1 n a1 r10 i27_1 k_l1 l6_7 = some r
def pWrite_l1_E (a1 : Int) (r10 : List UInt32 × Nat) (l6_5 : List UInt8) (i27_1 : Int) : S := ⟨[(0, kH 0), (1, kI a1), (6, kH 1), (26, kI (4 * ((r10.2 : Nat) : Int))), (27, kI i27_1)], [], [⟨(.ro false), 89, 1, r10.2, .w r10.1⟩, ⟨.row, 5, 1, a1.toNat, .b l6_5⟩]⟩
abbrev pWrite_l1_P (n : Nat) (a1 : Int) (r10 : List UInt32 × Nat) (r : List UInt8 × Nat × Option Int) (fu : Nat) : S → Prop := fun s => ∃ (l6_5 : List UInt8), ∃ (i27_1 : Int), s = pWrite_l1_E a1 r10 l6_5 i27_1 ∧ pWrite_l1 n a1 r10 fu l6_5 i27_1 = some r
def pWrite_R (r : List UInt8 × Nat × Option Int) : S := ⟨[(4, kH 0), (5, kE 31 r.2.2)], [], [⟨.row, 5, 1, r.2.1, .b r.1⟩]⟩
def pWrite_ct (n : Nat) (r : List UInt8 × Nat × Option Int) : Ct := ctc (rW 89).rd fun _ l0 => ctc rI.rd fun _ l1 => ct0 fun H => ([pWrite n l0 l1 = some r], shA H.length (.t [.c (.wh 0), .c (.s (.er 31 .i64 r.2.2))]), shH H.length [⟨.row, 5, 1, r.2.1, .b r.1⟩])
theorem pWrite_ok (n : Nat) (r : List UInt8 × Nat × Option Int) : FnOk Try.prog Tr 68 (pWrite_ct n r) := by
 refine fnok Try.func68 ?_
 refine HO_c (rW 89) fun l0 _ => HO_c rI fun l1 _ => HO_0 tabO_pb (pWrite_R r) [.tmp 4, .tmp 5] [0] 55 Try.func68 fun w hG h => ?_
 unfold pWrite at h
 have hT := tabO_pb
 refine Vrs hT [0] ⟨[(0, kH 0), (1, kI l1)], [], [ow 89 l0]⟩ ?_
 obtain ⟨r10, g1, h⟩ := bind_some' h
 refine Vgs hT (fT 1 (ptrim_ok n r10) fN) [] [] [1] ⟨[(0, kH 0), (1, kI l1)], [], [⟨(.ro false), 89, 1, r10.2, .w r10.1⟩]⟩ (aP g1 aN) ?_
 refine W_seq ?_
 refine Vrs hT [0] ⟨[(0, kH 0), (1, kI l1), (13, kB (decide ((64 : Int) < ((r10.2 : Nat) : Int))))], [], [⟨(.ro false), 89, 1, r10.2, .w r10.1⟩]⟩ ?_
 refine Vi ((decide ((64 : Int) < ((r10.2 : Nat) : Int)))) (fun g23 => ?_) (fun g23 => ?_)
 ·replace h := bif_t h g23
  refine Vrs hT [] ⟨[(4, .c (.nils)), (5, kE 31 (some 4))], [], []⟩ ?_
  refine Vc [.nil 4 5 1 (.b [])] [0] (pWrite_R ([], 0, (some 4))) (W_ret ?_)
  exact ⟨.inl rfl, by cases h; rfl⟩
 ·replace h := bif_f h g23
  refine Vc [] [0] ⟨[(0, kH 0), (1, kI l1)], [], [⟨(.ro false), 89, 1, r10.2, .w r10.1⟩]⟩ (W_skip ?_)
  refine W_seq ?_
  refine W_seq ?_
  rcases Bool.eq_false_or_eq_true (decide (l1 < (0 : Int))) with g2 | g2
  ·replace h := bif_t h g2
   refine Vg hT fN [(2, true)] [] [0] ⟨[(0, kH 0), (1, kI l1), (20, kB true)], [], [⟨(.ro false), 89, 1, r10.2, .w r10.1⟩]⟩ (aP g2 aN) ?_
   refine Vi (true) (fun _ => ?_) (fun hb => by cases hb)
   refine Vrs hT [] ⟨[(4, .c (.nils)), (5, kE 31 (some 1))], [], []⟩ ?_
   refine Vc [.nil 4 5 1 (.b [])] [0] (pWrite_R ([], 0, (some 1))) (W_ret ?_)
   exact ⟨.inl rfl, by cases h; rfl⟩
  ·replace h := bif_f h g2
   refine Vg hT fN [(2, false)] [] [0] ⟨[(0, kH 0), (1, kI l1), (20, kB (decide ((256 : Int) < l1)))], [], [⟨(.ro false), 89, 1, r10.2, .w r10.1⟩]⟩ (aP g2 aN) ?_
   refine Vi ((decide ((256 : Int) < l1))) (fun g22 => ?_) (fun g22 => ?_)
   ·replace h := bif_t h g22
    refine Vrs hT [] ⟨[(4, .c (.nils)), (5, kE 31 (some 1))], [], []⟩ ?_
    refine Vc [.nil 4 5 1 (.b [])] [0] (pWrite_R ([], 0, (some 1))) (W_ret ?_)
    exact ⟨.inl rfl, by cases h; rfl⟩
   ·replace h := bif_f h g22
    refine W_skip ?_
    obtain ⟨g3, g4, g5, h⟩ := gd3 h
    refine Vgs hT fN [] [] [0, 1] ⟨[(0, kH 0), (1, kI l1), (6, kH 1)], [], [⟨(.ro false), 89, 1, r10.2, .w r10.1⟩, ⟨.row, 5, 1, l1.toNat, .b (List.replicate l1.toNat 0)⟩]⟩ (aP g3 (aP g4 (aP g5 aN))) ?_
    refine W_seq ?_
    obtain ⟨g6, h⟩ := gd_some h
    refine Vgs hT fN [] [] [0, 1] ⟨[(0, kH 0), (1, kI l1), (6, kH 1), (26, kI (4 * ((r10.2 : Nat) : Int))), (27, kI 0)], [], [⟨(.ro false), 89, 1, r10.2, .w r10.1⟩, ⟨.row, 5, 1, l1.toNat, .b (List.replicate l1.toNat 0)⟩]⟩ (aP g6 aN) ?_
    refine W_block ?_
    refine Vc [] [0, 1] (pWrite_l1_E l1 r10 (List.replicate l1.toNat 0) 0) (W_lp ((pWrite_l1_P n l1 r10 r)) n ⟨_, _, rfl, h⟩ ?_)
    rintro fu_l1 _ ⟨l6_5, i27_1, rfl, h⟩
    cases fu_l1 with
    | zero => cases h
    | succ fu_l1 =>
     refine ⟨fu_l1, rfl, ?_⟩
     rw [pWrite_l1] at h
     refine Vrs hT [0, 1] ⟨[(0, kH 0), (1, kI l1), (6, kH 1), (26, kI (4 * ((r10.2 : Nat) : Int))), (27, kI i27_1), (28, kB (decide (i27_1 < (4 * ((r10.2 : Nat) : Int)))))], [], [⟨(.ro false), 89, 1, r10.2, .w r10.1⟩, ⟨.row, 5, 1, l1.toNat, .b l6_5⟩]⟩ ?_
     refine W_seq ?_
     refine Vi ((decide (i27_1 < (4 * ((r10.2 : Nat) : Int))))) (fun g21 => ?_) (fun g21 => ?_)
     ·replace h := bif_t h g21
      refine Vc [] [0, 1] ⟨[(0, kH 0), (1, kI l1), (6, kH 1), (26, kI (4 * ((r10.2 : Nat) : Int))), (27, kI i27_1)], [], [⟨(.ro false), 89, 1, r10.2, .w r10.1⟩, ⟨.row, 5, 1, l1.toNat, .b l6_5⟩]⟩ (W_skip ?_)
      refine W_join (pWrite_j1_P n l1 r10 i27_1 (pWrite_l1 n l1 r10 fu_l1) r) ?_ ?_
      ·rintro _ ⟨l6_7, rfl, h⟩
       unfold pWrite_j1 at h
       obtain ⟨g7, h⟩ := gd_some h
       refine Vg hT fN [] [] [0, 1] (pWrite_l1_E l1 r10 l6_7 (i27_1 + 1)) (aP g7 aN) ?_
       exact ⟨_, _, rfl, h⟩
      ·refine W_block ?_
       refine Vrs hT [0, 1] ⟨[(0, kH 0), (1, kI l1), (6, kH 1), (7, kI i27_1), (26, kI (4 * ((r10.2 : Nat) : Int))), (27, kI i27_1)], [], [⟨(.ro false), 89, 1, r10.2, .w r10.1⟩, ⟨.row, 5, 1, l1.toNat, .b l6_5⟩]⟩ ?_
       obtain ⟨g8, g9, g10, g11, g12, h⟩ := gd5 h
       obtain ⟨g13, g14, h⟩ := gd2 h
       refine Vgs hT fN [] [] [0, 1] ⟨[(0, kH 0), (1, kI l1), (6, kH 1), (7, kI i27_1), (8, kU ((shr32 (r10.1.getD ((Int.tdiv i27_1 4).toNat) 0) (8 * (Int.tmod i27_1 4))).toUInt8)), (26, kI (4 * ((r10.2 : Nat) : Int))), (27, kI i27_1)], [], [⟨(.ro false), 89, 1, r10.2, .w r10.1⟩, ⟨.row, 5, 1, l1.toNat, .b l6_5⟩]⟩ (aP g8 (aP g9 (aP g10 (aP g11 (aP g12 (aP g13 (aP g14 aN))))))) ?_
       refine Vrs hT [0, 1] ⟨[(0, kH 0), (1, kI l1), (6, kH 1), (7, kI i27_1), (8, kU ((shr32 (r10.1.getD ((Int.tdiv i27_1 4).toNat) 0) (8 * (Int.tmod i27_1 4))).toUInt8)), (26, kI (4 * ((r10.2 : Nat) : Int))), (27, kI i27_1), (42, kB (decide (i27_1 < l1)))], [], [⟨(.ro false), 89, 1, r10.2, .w r10.1⟩, ⟨.row, 5, 1, l1.toNat, .b l6_5⟩]⟩ ?_
       refine Vi ((decide (i27_1 < l1))) (fun g20 => ?_) (fun g20 => ?_)
       ·replace h := bif_t h g20
        obtain ⟨g15, g16, g17, g18, h⟩ := gd4 h
        refine Vg hT fN [] [] [0, 1] (pWrite_j1_E l1 r10 i27_1 (l6_5.set (((l1 - 1) - i27_1).toNat) ((shr32 (r10.1.getD ((Int.tdiv i27_1 4).toNat) 0) (8 * (Int.tmod i27_1 4))).toUInt8))) (aP g15 (aP g16 (aP g17 (aP g18 aN)))) ?_
        exact ⟨_, rfl, h⟩
       ·replace h := bif_f h g20
        refine Vrs hT [0, 1] ⟨[(0, kH 0), (1, kI l1), (6, kH 1), (26, kI (4 * ((r10.2 : Nat) : Int))), (27, kI i27_1), (51, kB (((shr32 (r10.1.getD ((Int.tdiv i27_1 4).toNat) 0) (8 * (Int.tmod i27_1 4))).toUInt8) != 0))], [], [⟨(.ro false), 89, 1, r10.2, .w r10.1⟩, ⟨.row, 5, 1, l1.toNat, .b l6_5⟩]⟩ ?_
        refine Vi ((((shr32 (r10.1.getD ((Int.tdiv i27_1 4).toNat) 0) (8 * (Int.tmod i27_1 4))).toUInt8) != 0)) (fun g19 => ?_) (fun g19 => ?_)
        ·replace h := bif_t h g19
         refine Vrs hT [] ⟨[(4, .c (.nils)), (5, kE 31 (some 1))], [], []⟩ ?_
         refine Vc [.nil 4 5 1 (.b [])] [0] (pWrite_R ([], 0, (some 1))) (W_ret ?_)
         exact ⟨.inl rfl, by cases h; rfl⟩
        ·replace h := bif_f h g19
         refine Vc [] [0, 1] (pWrite_j1_E l1 r10 i27_1 l6_5) (W_skip ?_)
         exact ⟨_, rfl, h⟩
     ·replace h := bif_f h g21
      refine Vc [] [1] ⟨[(6, kH 0)], [], [⟨.row, 5, 1, l1.toNat, .b l6_5⟩]⟩ (W_exit ?_)
      refine Vrs hT [0] ⟨[(4, kH 0), (5, .c (.s (.v .nilIface)))], [], [⟨.row, 5, 1, l1.toNat, .b l6_5⟩]⟩ ?_
      refine Vc [.er 5 31 .i64] [0] (pWrite_R (l6_5, l1.toNat, none)) (W_ret ?_)
      exact ⟨.inl rfl, by cases h; rfl⟩
def pBig_j1_E (l4_4 : List UInt8) (m4_4 : Nat) : S := ⟨[(4, kH 0)], [], [⟨(.ro true), 5, 1, m4_4, .b l4_4⟩]⟩
abbrev pBig_j1_P (n : Nat) (r : List UInt8 × Option Int) : S → Prop := fun s => ∃ (l4_4 : List UInt8), ∃ (m4_4 : Nat), s = pBig_j1_E l4_4 m4_4 ∧ pBig_j1 n l4_4 m4_4 = some r
def pBig_l1_E (l4_5 : List UInt8) (m4_5 : Nat) : S := ⟨[(4, kH 0)], [], [⟨(.ro true), 5, 1, m4_5, .b l4_5⟩]⟩
abbrev pBig_l1_P (n : Nat) (r : List UInt8 × Option Int) (fu : Nat) : S → Prop := fun s => ∃ (l4_5 : List UInt8), ∃ (m4_5 : Nat), s = pBig_l1_E l4_5 m4_5 ∧ pBig_l1 n fu l4_5 m4_5 = some r
def pBig_R (r : List UInt8 × Option Int) : S := ⟨[(2, kH 0), (3, kE 31 r.2)], [], [nb 5 r.1]⟩
def pBig_ct (n : Nat) (r : List UInt8 × Option Int) : Ct := ctc (rW 89).rd fun _ l0 => ct0 fun H => ([pBig n l0 = some r], shA H.length (.t [.c (.wh 0), .c (.s (.er 31 .i64 r.2))]), shH H.length [nb 5 r.1])
theorem pBig_ok (n : Nat) (r : List UInt8 × Option Int) : FnOk Try.prog Tr 38 (pBig_ct n r) := by
 refine fnok Try.func38 ?_
 refine HO_c (rW 89) fun l0 _ => HO_0 tabO_pb (pBig_R r) [.tmp 2, .tmp 3] [0] 28 Try.func38 fun w hG h => ?_
 unfold pBig at h
 have hT := tabO_pb
 refine Vrs hT [0] ⟨[(0, kH 0)], [], [ow 89 l0]⟩ ?_
 obtain ⟨r8, g1, h⟩ := bind_some' h
 refine Vgs hT (fT 1 (pWrite_ok n r8) fN) [] [] [1] ⟨[(4, kH 0), (5, kE 31 r8.2.2)], [], [⟨.row, 5, 1, r8.2.1, .b r8.1⟩]⟩ (aP g1 aN) ?_
 refine W_seq ?_
 refine Vrs hT [0] ⟨[(4, kH 0), (12, kB (!((r8.2.2).isNone)))], [], [⟨.row, 5, 1, r8.2.1, .b r8.1⟩]⟩ ?_
 refine Vi ((!((r8.2.2).isNone))) (fun g9 => ?_) (fun g9 => ?_)
 ·replace h := bif_t h g9
  refine Vrs hT [] ⟨[(2, .c (.nils)), (3, kE 31 (some 4))], [], []⟩ ?_
  refine Vc [.nil 2 5 1 (.b [])] [0] (pBig_R ([], (some 4))) (W_ret ?_)
  exact ⟨.inl rfl, by cases h; rfl⟩
 ·replace h := bif_f h g9
  refine W_skip ?_
  obtain ⟨g2, h⟩ := gd_some h
  refine Vgs hT fN [] [] [2] ⟨[(4, kH 0)], [], [nb 5 ([0] ++ r8.1)]⟩ (aP g2 aN) ?_
  refine W_join (pBig_j1_P n r) ?_ ?_
  ·rintro _ ⟨l4_4, m4_4, rfl, h⟩
   unfold pBig_j1 at h
   obtain ⟨g3, h⟩ := gd_some h
   refine Vgs hT (fT 1 cloneb_h fN) [] [] [1] ⟨[(2, kH 0), (3, .c (.s (.v .nilIface)))], [], [nb 5 l4_4]⟩ (aP g3 aN) ?_
   refine Vc [.er 3 31 .i64] [0] (pBig_R (l4_4, none)) (W_ret ?_)
   exact ⟨.inl rfl, by cases h; rfl⟩
  ·refine W_block ?_
   refine Vc [.vw 4 true] [1] (pBig_l1_E ([0] ++ r8.1) (([0] ++ r8.1).length)) (W_lp ((pBig_l1_P n r)) n ⟨_, _, rfl, h⟩ ?_)
   rintro fu_l1 _ ⟨l4_5, m4_5, rfl, h⟩
   cases fu_l1 with
   | zero => cases h
   | succ fu_l1 =>
    refine ⟨fu_l1, rfl, ?_⟩
    rw [pBig_l1] at h
    refine W_seq ?_
    refine W_seq ?_
    rcases Bool.eq_false_or_eq_true (decide ((1 : Int) < ((m4_5 : Nat) : Int))) with g4 | g4
    ·replace h := bif_t h g4
     obtain ⟨r22_4, g5, h⟩ := bind_some' h
     refine Vg hT (fT 5 (pspare_ok n r22_4) fN) [(3, true)] [] [0] ⟨[(4, kH 0), (23, kB r22_4)], [], [⟨(.ro true), 5, 1, m4_5, .b l4_5⟩]⟩ (aP g4 (aP g5 aN)) ?_
     refine Vi (r22_4) (fun g8 => ?_) (fun g8 => ?_)
     ·replace h := bif_t h g8
      refine W_skip ?_
      refine W_block ?_
      obtain ⟨g6, g7, h⟩ := gd2 h
      refine Vg hT fN [] [.vw 4 true] [1] (pBig_l1_E ((l4_5.drop 1).take (m4_5 - 1)) (m4_5 - 1)) (aP g6 (aP g7 aN)) ?_
      exact ⟨_, _, rfl, h⟩
     ·replace h := bif_f h g8
      refine Vc [] [0] (pBig_j1_E l4_5 m4_5) (W_exit ?_)
      exact ⟨_, _, rfl, h⟩
    ·replace h := bif_f h g4
     refine Vg hT fN [(3, false)] [] [0] ⟨[(4, kH 0), (23, kB false)], [], [⟨(.ro true), 5, 1, m4_5, .b l4_5⟩]⟩ (aP g4 aN) ?_
     refine Vi (false) (fun hb => by cases hb) (fun _ => ?_)
     refine Vc [] [0] (pBig_j1_E l4_5 m4_5) (W_exit ?_)
     exact ⟨_, _, rfl, h⟩
def rtrim_l1_E (a0 : List Int) (i3_2 : Int) : S := ⟨[(0, kH 0), (3, kI i3_2)], [(1000000, kH 0)], [oz 3 a0]⟩
abbrev rtrim_l1_P (n : Nat) (a0 : List Int) (r : List Int × Nat) (fu : Nat) : S → Prop := fun s => ∃ (i3_2 : Int), s = rtrim_l1_E a0 i3_2 ∧ rtrim_l1 n a0 fu i3_2 = some r
def rtrim_R (r : List Int × Nat) : S := ⟨[(2, .c (.sl 0 0 r.2))], [(1000000, kH 0)], [oz 3 r.1]⟩
def rtrim_ct (n : Nat) (r : List Int × Nat) : Ct := ctc aZ fun x0 l0 => ctl (fun H => subC 0 r.2 x0) fun ys => ct0 fun H => ([rtrim n l0 = some r], ys, [])
theorem rtrim_ok (n : Nat) (r : List Int × Nat) : FnOk Try.prog Tr 71 (rtrim_ct n r) := by
 refine ⟨fun args H g av objs hF hg ρ w vals hG hp ha => ?_, _, Try.func71, by kernel_rfl, by kernel_rfl⟩
 obtain ⟨x0, _, l0, rfl, e0, hF⟩ := ctc_inv hF
 obtain ⟨ys, e1, hF⟩ := ctl_inv hF
 obtain ⟨rfl, rfl, rfl, rfl⟩ := ct0_inv hF
 dsimp only
 obtain ⟨v0, vals, rfl, k0, ha⟩ := F2.inv ha
 obtain rfl := F2.inv0 ha
 have h : rtrim n l0 = some r := hg
 obtain ⟨p0, s0, o0⟩ := aZ_ok hp e0 (k0) 3
 have kk := k0
 have zz := aZ_sz hp e0
 have hR0 := rel0 (gv := (fun j => ([v0] : List Value).getD j undef)) (n := 21) (w := w) (args := [kH 0]) (H := [⟨.ro false, 3, 1, l0.length, .z l0⟩]) (gl := [(1000000, .c (.wh 0))]) (hpL (ps := [p0]) (F2.cons o0 F2.nil)) (allRo_ok rfl) (F2.cons s0 F2.nil) (GlR.cons 0 s0 GlR.nil) (by simp)
 clear ha hp hg hF k0 e0
 refine calls_W Try.func71 rfl rfl hR0 (Q := fun e s => (e = .ret ∨ e = .normal) ∧ s = rtrim_R r) ?_ ?_
 ·clear hR0
  unfold rtrim at h
  have hT := tabO_pb
  refine Vrs hT [0] ⟨[(0, kH 0)], [(1000000, kH 0)], [oz 3 l0]⟩ ?_
  refine Vrs hT [0] ⟨[(0, kH 0), (3, kI ((l0.length : Nat) : Int))], [(1000000, kH 0)], [oz 3 l0]⟩ ?_
  refine W_seq ?_
  refine W_block ?_
  refine Vc [] [0] (rtrim_l1_E l0 ((l0.length : Nat) : Int)) (W_lp ((rtrim_l1_P n l0 r)) n ⟨_, rfl, h⟩ ?_)
  rintro fu_l1 _ ⟨i3_2, rfl, h⟩
  cases fu_l1 with
  | zero => cases h
  | succ fu_l1 =>
   refine ⟨fu_l1, rfl, ?_⟩
   rw [rtrim_l1] at h
   refine W_seq ?_
   refine W_seq ?_
   rcases Bool.eq_false_or_eq_true (decide ((0 : Int) < i3_2)) with g1 | g1
   ·replace h := bif_t h g1
    obtain ⟨g2, g3, g4, h⟩ := gd3 h
    refine Vg hT fN [(2, true)] [] [0] ⟨[(0, kH 0), (3, kI i3_2), (15, kB ((l0.getD ((i3_2 - 1).toNat) 0) == 0))], [(1000000, kH 0)], [oz 3 l0]⟩ (aP g1 (aP g2 (aP g3 (aP g4 aN)))) ?_
    refine Vi (((l0.getD ((i3_2 - 1).toNat) 0) == 0)) (fun g8 => ?_) (fun g8 => ?_)
    ·replace h := bif_t h g8
     refine W_skip ?_
     refine W_block ?_
     obtain ⟨g5, h⟩ := gd_some h
     refine Vg hT fN [] [] [0] (rtrim_l1_E l0 (i3_2 - 1)) (aP g5 aN) ?_
     exact ⟨_, rfl, h⟩
    ·replace h := bif_f h g8
     refine Vc [] [0] ⟨[(0, kH 0), (3, kI i3_2)], [(1000000, kH 0)], [oz 3 l0]⟩ (W_exit ?_)
     obtain ⟨g6, g7, h⟩ := gd2 h
     refine Vgs hT fN [] [] [0] ⟨[(2, .c (.sl 0 0 i3_2.toNat))], [(1000000, kH 0)], [oz 3 l0]⟩ (aP g6 (aP g7 aN)) ?_
     refine Vc [] [0] (rtrim_R (l0, i3_2.toNat)) (W_ret ?_)
     exact ⟨.inl rfl, by cases h; rfl⟩
   ·replace h := bif_f h g1
    refine Vg hT fN [(2, false)] [] [0] ⟨[(0, kH 0), (3, kI i3_2), (15, kB false)], [(1000000, kH 0)], [oz 3 l0]⟩ (aP g1 aN) ?_
    refine Vi (false) (fun hb => by cases hb) (fun _ => ?_)
    refine Vc [] [0] ⟨[(0, kH 0), (3, kI i3_2)], [(1000000, kH 0)], [oz 3 l0]⟩ (W_exit ?_)
    obtain ⟨g9, g10, h⟩ := gd2 h
    refine Vgs hT fN [] [] [0] ⟨[(2, .c (.sl 0 0 i3_2.toNat))], [(1000000, kH 0)], [oz 3 l0]⟩ (aP g9 (aP g10 aN)) ?_
    refine Vc [] [0] (rtrim_R (l0, i3_2.toNat)) (W_ret ?_)
    exact ⟨.inl rfl, by cases h; rfl⟩
 ·rintro e s' ⟨he, rfl⟩
  refine ⟨he, fun a' w' hr => ?_⟩
  exact retB_ok (q := 0) hr rfl rfl rfl (by kernel_rfl) kk zz e1
def rOf_l1_E (a0 : List UInt32) (z3_2 : List Int) (i4_2 : Int) : S := ⟨[(0, kH 0), (3, kH 1), (4, kI i4_2)], [], [ow 89 a0, nz 3 z3_2]⟩
abbrev rOf_l1_P (n : Nat) (a0 : List UInt32) (r : List Int × Nat) (fu : Nat) : S → Prop := fun s => ∃ (z3_2 : List Int), ∃ (i4_2 : Int), s = rOf_l1_E a0 z3_2 i4_2 ∧ rOf_l1 n a0 fu z3_2 i4_2 = some r
def rOf_R (r : List Int × Nat) : S := ⟨[(2, kH 0)], [], [⟨(.ro true), 3, 1, r.2, .z r.1⟩]⟩
def rOf_ct (n : Nat) (r : List Int × Nat) : Ct := ctc (rW 89).rd fun _ l0 => ct0 fun H => ([rOf n l0 = some r], shA H.length (kH 0), shH H.length [⟨(.ro true), 3, 1, r.2, .z r.1⟩])
theorem rOf_ok (n : Nat) (r : List Int × Nat) : FnOk Try.prog Tr 47 (rOf_ct n r) := by
 refine fnok Try.func47 ?_
 refine HO_c (rW 89) fun l0 _ => HO_0 tabO_pb (rOf_R r) [.tmp 2] [0] 28 Try.func47 fun w hG h => ?_
 unfold rOf at h
 have hT := tabO_pb
 refine Vrs hT [0] ⟨[(0, kH 0)], [], [ow 89 l0]⟩ ?_
 refine Vrs hT [0] ⟨[(0, kH 0), (3, .c (.nils))], [], [ow 89 l0]⟩ ?_
 refine W_seq ?_
 refine Vrs hT [0] ⟨[(0, kH 0), (3, .c (.nils)), (4, kI 0)], [], [ow 89 l0]⟩ ?_
 refine W_block ?_
 refine Vc [.nil 3 3 1 (.z [])] [0, 1] (rOf_l1_E l0 [] 0) (W_lp ((rOf_l1_P n l0 r)) n ⟨_, _, rfl, h⟩ ?_)
 rintro fu_l1 _ ⟨z3_2, i4_2, rfl, h⟩
 cases fu_l1 with
 | zero => cases h
 | succ fu_l1 =>
  refine ⟨fu_l1, rfl, ?_⟩
  rw [rOf_l1] at h
  refine W_seq ?_
  refine Vrs hT [0, 1] ⟨[(0, kH 0), (3, kH 1), (4, kI i4_2), (8, kB (decide (i4_2 < ((l0.length : Nat) : Int))))], [], [ow 89 l0, nz 3 z3_2]⟩ ?_
  refine Vi ((decide (i4_2 < ((l0.length : Nat) : Int)))) (fun g10 => ?_) (fun g10 => ?_)
  ·replace h := bif_t h g10
   refine W_skip ?_
   refine W_seq ?_
   refine W_block ?_
   obtain ⟨g1, g2, g3, g4, g5, h⟩ := gd5 h
   obtain ⟨g6, g7, h⟩ := gd2 h
   refine Vd hT fN 14 [] [(0, false), (3, false), (4, false), (11, false), (24, false)] [] [0, 3] ⟨[(0, kH 0), (3, kH 1), (4, kI i4_2)], [], [ow 89 l0, nz 3 (z3_2 ++ [((((l0.getD i4_2.toNat 0) % (65536 : UInt32)).toNat : Nat) : Int), ((((l0.getD i4_2.toNat 0) / (65536 : UInt32)).toNat : Nat) : Int)])]⟩ (aP g1 (aP g2 (aP g3 (aP g4 (aP g5 (aP g6 (aP g7 aN))))))) ?_
   obtain ⟨g8, h⟩ := gd_some h
   refine Vg hT fN [] [] [0, 1] (rOf_l1_E l0 (z3_2 ++ [((((l0.getD i4_2.toNat 0) % (65536 : UInt32)).toNat : Nat) : Int), ((((l0.getD i4_2.toNat 0) / (65536 : UInt32)).toNat : Nat) : Int)]) (i4_2 + 1)) (aP g8 aN) ?_
   exact ⟨_, _, rfl, h⟩
  ·replace h := bif_f h g10
   refine Vc [] [1] ⟨[(3, kH 0)], [], [nz 3 z3_2]⟩ (W_exit ?_)
   obtain ⟨r27_2, g9, h⟩ := bind_some' h
   refine Vgs hT (fT 1 (rtrim_ok n r27_2) fN) [] [] [0] ⟨[(2, .c (.sl 0 0 r27_2.2))], [], [nz 3 z3_2]⟩ (aP g9 aN) ?_
   refine Vc [.vw 2 true] [1] (rOf_R (((z3_2.drop 0).take r27_2.2), r27_2.2)) (W_ret ?_)
   exact ⟨.inl rfl, by cases h; rfl⟩
def pRead_l1_E (l0_4 : List UInt8) (m0_4 : Nat) (w4_1 : List UInt32) (i30_1 : Int) : S := ⟨[(0, kH 0), (4, kH 1), (28, kH 0), (29, kI ((m0_4 : Nat) : Int)), (30, kI i30_1)], [], [⟨(.ro false), 5, 1, m0_4, .b l0_4⟩, ⟨.row, 89, 1, (Int.tdiv (((m0_4 : Nat) : Int) + 3) 4).toNat, .w w4_1⟩]⟩
abbrev pRead_l1_P (n : Nat) (l0_4 : List UInt8) (m0_4 : Nat) (r : List UInt32 × Nat × Option Int) (fu : Nat) : S → Prop := fun s => ∃ (w4_1 : List UInt32), ∃ (i30_1 : Int), s = pRead_l1_E l0_4 m0_4 w4_1 i30_1 ∧ pRead_l1 n l0_4 m0_4 fu w4_1 i30_1 = some r
def pRead_j1_E (l0_4 : List UInt8) (m0_4 : Nat) : S := ⟨[(0, kH 0)], [], [⟨(.ro false), 5, 1, m0_4, .b l0_4⟩]⟩
abbrev pRead_j1_P (n : Nat) (r : List UInt32 × Nat × Option Int) : S → Prop := fun s => ∃ (l0_4 : List UInt8), ∃ (m0_4 : Nat), s = pRead_j1_E l0_4 m0_4 ∧ pRead_j1 n l0_4 m0_4 = some r
def pRead_l2_E (l0_5 : List UInt8) (m0_5 : Nat) : S := ⟨[(0, kH 0)], [], [⟨(.ro false), 5, 1, m0_5, .b l0_5⟩]⟩
abbrev pRead_l2_P (n : Nat) (r : List UInt32 × Nat × Option Int) (fu : Nat) : S → Prop := fun s => ∃ (l0_5 : List UInt8), ∃ (m0_5 : Nat), s = pRead_l2_E l0_5 m0_5 ∧ pRead_l2 n fu l0_5 m0_5 = some r
def pRead_R (r : List UInt32 × Nat × Option Int) : S := ⟨[(2, kH 0), (3, kE 31 r.2.2)], [], [⟨.row, 89, 1, r.2.1, .w r.1⟩]⟩
def pRead_ct (n : Nat) (r : List UInt32 × Nat × Option Int) : Ct := ctc (rB 5).rd fun _ l0 => ct0 fun H => ([pRead n l0 = some r], shA H.length (.t [.c (.wh 0), .c (.s (.er 31 .i64 r.2.2))]), shH H.length [⟨.row, 89, 1, r.2.1, .w r.1⟩])
theorem pRead_ok (n : Nat) (r : List UInt32 × Nat × Option Int) : FnOk Try.prog Tr 70 (pRead_ct n r) := by
 refine fnok Try.func70 ?_
 refine HO_c (rB 5) fun l0 _ => HO_0 tabO_pb (pRead_R r) [.tmp 2, .tmp 3] [0] 55 Try.func70 fun w hG h => ?_
 unfold pRead at h
 have hT := tabO_pb
 refine Vrs hT [0] ⟨[(0, kH 0)], [], [ob 5 l0]⟩ ?_
 refine W_join (pRead_j1_P n r) ?_ ?_
 ·rintro _ ⟨l0_4, m0_4, rfl, h⟩
  unfold pRead_j1 at h
  refine W_seq ?_
  refine Vrs hT [0] ⟨[(0, kH 0), (21, kB (decide ((256 : Int) < ((m0_4 : Nat) : Int))))], [], [⟨(.ro false), 5, 1, m0_4, .b l0_4⟩]⟩ ?_
  refine Vi ((decide ((256 : Int) < ((m0_4 : Nat) : Int)))) (fun g22 => ?_) (fun g22 => ?_)
  ·replace h := bif_t h g22
   refine Vrs hT [] ⟨[(2, .c (.nils)), (3, kE 31 (some 4))], [], []⟩ ?_
   refine Vc [.nil 2 89 1 (.w [])] [0] (pRead_R ([], 0, (some 4))) (W_ret ?_)
   exact ⟨.inl rfl, by cases h; rfl⟩
  ·replace h := bif_f h g22
   refine W_skip ?_
   obtain ⟨g1, g2, g3, g4, g5, h⟩ := gd5 h
   obtain ⟨g6, h⟩ := gd_some h
   refine Vgs hT fN [] [] [0, 1] ⟨[(0, kH 0), (4, kH 1)], [], [⟨(.ro false), 5, 1, m0_4, .b l0_4⟩, ⟨.row, 89, 1, (Int.tdiv (((m0_4 : Nat) : Int) + 3) 4).toNat, .w (List.replicate ((Int.tdiv (((m0_4 : Nat) : Int) + 3) 4).toNat) 0)⟩]⟩ (aP g1 (aP g2 (aP g3 (aP g4 (aP g5 (aP g6 aN)))))) ?_
   refine W_seq ?_
   refine Vrs hT [0, 1] ⟨[(0, kH 0), (4, kH 1), (28, kH 0), (29, kI ((m0_4 : Nat) : Int)), (30, kI 0)], [], [⟨(.ro false), 5, 1, m0_4, .b l0_4⟩, ⟨.row, 89, 1, (Int.tdiv (((m0_4 : Nat) : Int) + 3) 4).toNat, .w (List.replicate ((Int.tdiv (((m0_4 : Nat) : Int) + 3) 4).toNat) 0)⟩]⟩ ?_
   refine W_block ?_
   refine Vc [] [0, 1] (pRead_l1_E l0_4 m0_4 (List.replicate ((Int.tdiv (((m0_4 : Nat) : Int) + 3) 4).toNat) 0) 0) (W_lp ((pRead_l1_P n l0_4 m0_4 r)) n ⟨_, _, rfl, h⟩ ?_)
   rintro fu_l1 _ ⟨w4_1, i30_1, rfl, h⟩
   cases fu_l1 with
   | zero => cases h
   | succ fu_l1 =>
    refine ⟨fu_l1, rfl, ?_⟩
    rw [pRead_l1] at h
    refine Vrs hT [0, 1] ⟨[(0, kH 0), (4, kH 1), (28, kH 0), (29, kI ((m0_4 : Nat) : Int)), (30, kI i30_1), (31, kB (decide (i30_1 < ((m0_4 : Nat) : Int))))], [], [⟨(.ro false), 5, 1, m0_4, .b l0_4⟩, ⟨.row, 89, 1, (Int.tdiv (((m0_4 : Nat) : Int) + 3) 4).toNat, .w w4_1⟩]⟩ ?_
    refine W_seq ?_
    refine Vi ((decide (i30_1 < ((m0_4 : Nat) : Int)))) (fun g21 => ?_) (fun g21 => ?_)
    ·replace h := bif_t h g21
     refine W_skip ?_
     refine W_seq ?_
     refine W_block ?_
     obtain ⟨g7, g8, h⟩ := gd2 h
     refine Vgs hT fN [] [] [0, 1] ⟨[(0, kH 0), (4, kH 1), (5, kI i30_1), (6, kU (l0_4.getD i30_1.toNat 0)), (28, kH 0), (29, kI ((m0_4 : Nat) : Int)), (30, kI i30_1)], [], [⟨(.ro false), 5, 1, m0_4, .b l0_4⟩, ⟨.row, 89, 1, (Int.tdiv (((m0_4 : Nat) : Int) + 3) 4).toNat, .w w4_1⟩]⟩ (aP g7 (aP g8 aN)) ?_
     obtain ⟨g9, g10, h⟩ := gd2 h
     refine Vgs hT fN [] [] [0, 1] ⟨[(0, kH 0), (4, kH 1), (6, kU (l0_4.getD i30_1.toNat 0)), (7, kI ((((m0_4 : Nat) : Int) - 1) - i30_1)), (28, kH 0), (29, kI ((m0_4 : Nat) : Int)), (30, kI i30_1)], [], [⟨(.ro false), 5, 1, m0_4, .b l0_4⟩, ⟨.row, 89, 1, (Int.tdiv (((m0_4 : Nat) : Int) + 3) 4).toNat, .w w4_1⟩]⟩ (aP g9 (aP g10 aN)) ?_
     obtain ⟨g11, g12, g13, g14, g15, h⟩ := gd5 h
     obtain ⟨g16, g17, g18, g19, h⟩ := gd4 h
     refine Vd hT fN 11 [] [(0, false), (4, false), (28, false), (29, false), (30, false), (40, false), (42, false), (44, false), (50, false)] [] [0, 1] ⟨[(0, kH 0), (4, kH 1), (28, kH 0), (29, kI ((m0_4 : Nat) : Int)), (30, kI i30_1)], [], [⟨(.ro false), 5, 1, m0_4, .b l0_4⟩, ⟨.row, 89, 1, (Int.tdiv (((m0_4 : Nat) : Int) + 3) 4).toNat, .w (w4_1.set ((Int.tdiv ((((m0_4 : Nat) : Int) - 1) - i30_1) 4).toNat) ((w4_1.getD ((Int.tdiv ((((m0_4 : Nat) : Int) - 1) - i30_1) 4).toNat) 0) ||| (shl32 ((l0_4.getD i30_1.toNat 0).toUInt32) (8 * (Int.tmod ((((m0_4 : Nat) : Int) - 1) - i30_1) 4)))))⟩]⟩ (aP g11 (aP g12 (aP g13 (aP g14 (aP g15 (aP g16 (aP g17 (aP g18 (aP g19 aN))))))))) ?_
     obtain ⟨g20, h⟩ := gd_some h
     refine Vg hT fN [] [] [0, 1] (pRead_l1_E l0_4 m0_4 (w4_1.set ((Int.tdiv ((((m0_4 : Nat) : Int) - 1) - i30_1) 4).toNat) ((w4_1.getD ((Int.tdiv ((((m0_4 : Nat) : Int) - 1) - i30_1) 4).toNat) 0) ||| (shl32 ((l0_4.getD i30_1.toNat 0).toUInt32) (8 * (Int.tmod ((((m0_4 : Nat) : Int) - 1) - i30_1) 4))))) (i30_1 + 1)) (aP g20 aN) ?_
     exact ⟨_, _, rfl, h⟩
    ·replace h := bif_f h g21
     refine Vc [] [1] ⟨[(4, kH 0)], [], [⟨.row, 89, 1, (Int.tdiv (((m0_4 : Nat) : Int) + 3) 4).toNat, .w w4_1⟩]⟩ (W_exit ?_)
     refine Vrs hT [0] ⟨[(2, kH 0), (3, .c (.s (.v .nilIface)))], [], [⟨.row, 89, 1, (Int.tdiv (((m0_4 : Nat) : Int) + 3) 4).toNat, .w w4_1⟩]⟩ ?_
     refine Vc [.er 3 31 .i64] [0] (pRead_R (w4_1, (Int.tdiv (((m0_4 : Nat) : Int) + 3) 4).toNat, none)) (W_ret ?_)
     exact ⟨.inl rfl, by cases h; rfl⟩
 ·refine W_block ?_
  refine Vc [] [0] (pRead_l2_E l0 l0.length) (W_lp ((pRead_l2_P n r)) n ⟨_, _, rfl, h⟩ ?_)
  rintro fu_l2 _ ⟨l0_5, m0_5, rfl, h⟩
  cases fu_l2 with
  | zero => cases h
  | succ fu_l2 =>
   refine ⟨fu_l2, rfl, ?_⟩
   rw [pRead_l2] at h
   refine W_seq ?_
   refine W_seq ?_
   rcases Bool.eq_false_or_eq_true (decide ((0 : Int) < ((m0_5 : Nat) : Int))) with g23 | g23
   ·replace h := bif_t h g23
    obtain ⟨g24, g25, h⟩ := gd2 h
    refine Vg hT fN [(3, true)] [] [0] ⟨[(0, kH 0), (16, kB ((l0_5.getD 0 0) == 0))], [], [⟨(.ro false), 5, 1, m0_5, .b l0_5⟩]⟩ (aP g23 (aP g24 (aP g25 aN))) ?_
    refine Vi (((l0_5.getD 0 0) == 0)) (fun g28 => ?_) (fun g28 => ?_)
    ·replace h := bif_t h g28
     refine W_skip ?_
     refine W_block ?_
     obtain ⟨g26, g27, h⟩ := gd2 h
     refine Vg hT fN [] [.vw 0 false] [1] (pRead_l2_E ((l0_5.drop 1).take (m0_5 - 1)) (m0_5 - 1)) (aP g26 (aP g27 aN)) ?_
     exact ⟨_, _, rfl, h⟩
    ·replace h := bif_f h g28
     refine Vc [] [0] (pRead_j1_E l0_5 m0_5) (W_exit ?_)
     exact ⟨_, _, rfl, h⟩
   ·replace h := bif_f h g23
    refine Vg hT fN [(3, false)] [] [0] ⟨[(0, kH 0), (16, kB false)], [], [⟨(.ro false), 5, 1, m0_5, .b l0_5⟩]⟩ (aP g23 aN) ?_
    refine Vi (false) (fun hb => by cases hb) (fun _ => ?_)
    refine Vc [] [0] (pRead_j1_E l0_5 m0_5) (W_exit ?_)
    exact ⟨_, _, rfl, h⟩
def pReadBig_R (r : List UInt32 × Nat × Option Int) : S := ⟨[(2, kH 0), (3, kE 31 r.2.2)], [], [⟨.row, 89, 1, r.2.1, .w r.1⟩]⟩
def pReadBig_ct (n : Nat) (r : List UInt32 × Nat × Option Int) : Ct := ctc (rB 5).rd fun _ l0 => ct0 fun H => ([pReadBig n l0 = some r], shA H.length (.t [.c (.wh 0), .c (.s (.er 31 .i64 r.2.2))]), shH H.length [⟨.row, 89, 1, r.2.1, .w r.1⟩])
theorem pReadBig_ok (n : Nat) (r : List UInt32 × Nat × Option Int) : FnOk Try.prog Tr 41 (pReadBig_ct n r) := by
 refine fnok Try.func41 ?_
 refine HO_c (rB 5) fun l0 _ => HO_0 tabO_pb (pReadBig_R r) [.tmp 2, .tmp 3] [0] 27 Try.func41 fun w hG h => ?_
 unfold pReadBig at h
 have hT := tabO_pb
 refine Vrs hT [0] ⟨[(0, kH 0)], [], [ob 5 l0]⟩ ?_
 refine W_seq ?_
 refine W_seq ?_
 rcases Bool.eq_false_or_eq_true (((l0.length : Nat) : Int) == 0) with g1 | g1
 ·replace h := bif_t h g1
  refine Vg hT fN [(3, true)] [] [0] ⟨[(0, kH 0), (21, kB true)], [], [ob 5 l0]⟩ (aP g1 aN) ?_
  refine Vi (true) (fun _ => ?_) (fun hb => by cases hb)
  refine Vrs hT [] ⟨[(2, .c (.nils)), (3, kE 31 (some 2))], [], []⟩ ?_
  refine Vc [.nil 2 89 1 (.w [])] [0] (pReadBig_R ([], 0, (some 2))) (W_ret ?_)
  exact ⟨.inl rfl, by cases h; rfl⟩
 ·replace h := bif_f h g1
  obtain ⟨g2, g3, h⟩ := gd2 h
  rcases Bool.eq_false_or_eq_true (decide ((128 : UInt8) ≤ (l0.getD 0 0))) with g4 | g4
  ·replace h := bif_t h g4
   refine Vg hT fN [(3, false), (9, true)] [] [0] ⟨[(0, kH 0), (21, kB true)], [], [ob 5 l0]⟩ (aP g1 (aP g2 (aP g3 (aP g4 aN)))) ?_
   refine Vi (true) (fun _ => ?_) (fun hb => by cases hb)
   refine Vrs hT [] ⟨[(2, .c (.nils)), (3, kE 31 (some 2))], [], []⟩ ?_
   refine Vc [.nil 2 89 1 (.w [])] [0] (pReadBig_R ([], 0, (some 2))) (W_ret ?_)
   exact ⟨.inl rfl, by cases h; rfl⟩
  ·replace h := bif_f h g4
   rcases Bool.eq_false_or_eq_true (decide ((1 : Int) < ((l0.length : Nat) : Int))) with g5 | g5
   ·replace h := bif_t h g5
    obtain ⟨r19, g6, h⟩ := bind_some' h
    refine Vg hT (fT 15 (pspare_ok n r19) fN) [(3, false), (9, false), (13, true)] [] [0] ⟨[(0, kH 0), (21, kB r19)], [], [ob 5 l0]⟩ (aP g1 (aP g2 (aP g3 (aP g4 (aP g5 (aP g6 aN)))))) ?_
    refine Vi (r19) (fun g8 => ?_) (fun g8 => ?_)
    ·replace h := bif_t h g8
     refine Vrs hT [] ⟨[(2, .c (.nils)), (3, kE 31 (some 2))], [], []⟩ ?_
     refine Vc [.nil 2 89 1 (.w [])] [0] (pReadBig_R ([], 0, (some 2))) (W_ret ?_)
     exact ⟨.inl rfl, by cases h; rfl⟩
    ·replace h := bif_f h g8
     refine W_skip ?_
     obtain ⟨r24, g7, h⟩ := bind_some' h
     refine Vgs hT (fT 1 (pRead_ok n r24) fN) [] [] [1] ⟨[(2, kH 0), (3, kE 31 r24.2.2)], [], [⟨.row, 89, 1, r24.2.1, .w r24.1⟩]⟩ (aP g7 aN) ?_
     refine Vc [] [0] (pReadBig_R (r24.1, r24.2.1, r24.2.2)) (W_ret ?_)
     exact ⟨.inl rfl, by cases h; rfl⟩
   ·replace h := bif_f h g5
    refine Vg hT fN [(3, false), (9, false), (13, false)] [] [0] ⟨[(0, kH 0), (21, kB false)], [], [ob 5 l0]⟩ (aP g1 (aP g2 (aP g3 (aP g4 (aP g5 aN))))) ?_
    refine Vi (false) (fun hb => by cases hb) (fun _ => ?_)
    refine W_skip ?_
    obtain ⟨r24, g9, h⟩ := bind_some' h
    refine Vgs hT (fT 1 (pRead_ok n r24) fN) [] [] [1] ⟨[(2, kH 0), (3, kE 31 r24.2.2)], [], [⟨.row, 89, 1, r24.2.1, .w r24.1⟩]⟩ (aP g9 aN) ?_
    refine Vc [] [0] (pReadBig_R (r24.1, r24.2.1, r24.2.2)) (W_ret ?_)
    exact ⟨.inl rfl, by cases h; rfl⟩
end Go.Proofs.Ytliilihbnhdemaa
end
section
namespace Go.Proofs.Ytliilihbnhdemaa
open Go.RowKit Go.Ch Go.Sx
def tabL_px : List (TypeId × Ti) := [(3, ⟨.int .i64, 1, 8, true, some [.int .i64]⟩),
 (5, ⟨.int .u8, 1, 1, true, some [.int .u8]⟩),
 (9, ⟨.str, 1, 16, true, some [.str]⟩),
 (22, ⟨.sl 5, 1, 24, false, some [.nils]⟩),
 (28, ⟨.ifc, 1, 16, true, some [.ifc]⟩),
 (31, ⟨.int .i64, 1, 8, true, some [.int .i64]⟩),
 (45, ⟨.st [(22, 0), (3, 1)], 2, 32, false, some [.nils, .int .i64]⟩)]
def tab_px : Tab := fun t => (tabL_px).lookup t
theorem tabE_px : (tabL_px.map fun p => tiOf Try.prog p.1) = tabL_px.map fun p => some p.2 := by kernel_rfl
theorem tabO_px : TabOk Try.prog tab_px := tab_of tabE_px
def pfits (n : Nat) (a0_0 : List UInt8) (a0_1 : Int) : Option (Bool) :=
 bif (decide (a0_1 < (0 : Int))) then
 some (a0_1 == 0)
 else
 bif (decide ((7 : Int) < a0_1)) then
 some (a0_1 == 0)
 else
 bif (((a0_0.length : Nat) : Int) == 0) then
 some (a0_1 == 0)
 else
 gd (okI .i64 (((a0_0.length : Nat) : Int) - 1)) <|
 gd (0 ≤ (((a0_0.length : Nat) : Int) - 1)) <|
 gd ((((a0_0.length : Nat) : Int) - 1) < ((a0_0.length : Nat) : Int)) <|
 gd (0 ≤ a0_1) <|
 some (((a0_0.getD ((((a0_0.length : Nat) : Int) - 1).toNat) 0) &&& ((shl8 1 a0_1) - (1 : UInt8))) == 0)
def pBits (n : Nat) (a0_0 : List UInt8) (a0_1 : Int) : Option (List UInt8 × Option Int) :=
 (pfits n a0_0 a0_1).bind fun r5 =>
 bif (!r5) then
  some ([], (some 1))
 else
  gd (rmB (1 + a0_0.length) 1) <|
  some (([(UInt8.ofInt a0_1)] ++ a0_0), none)
def pReadBits (n : Nat) (a0 : List UInt8) : Option (List UInt8 × Int × Option Int) :=
 bif (((a0.length : Nat) : Int) == 0) then
  some ([], 0, (some 2))
 else
  gd (0 ≤ (1 : Int)) <|
  gd ((1 : Int) ≤ ((a0.length : Nat) : Int)) <|
  gd ((((a0.drop 1).take (a0.length - 1))).length ≤ 1000000000000) <|
  gd (0 ≤ (0 : Int)) <|
  gd ((0 : Int) < ((a0.length : Nat) : Int)) <|
  (pfits n ((a0.drop 1).take (a0.length - 1)) (((a0.getD 0 0).toNat : Nat) : Int)).bind fun r19 =>
  bif (!r19) then
   some ([], 0, (some 2))
  else
   some (((a0.drop 1).take (a0.length - 1)), (((a0.getD 0 0).toNat : Nat) : Int), none)
def pfits_R (r : Bool) : S := ⟨[(2, kB r)], [], []⟩
def pfits_ct (n : Nat) (r : Bool) : Ct := ctc (rSt (lC (cB 5) (lC cI lN))).rd fun _ y0 => ct0 fun H => ([pfits n y0.1 y0.2.1 = some r], shA H.length (kB r), shH H.length [])
theorem pfits_ok (n : Nat) (r : Bool) : FnOk Try.prog Tr 55 (pfits_ct n r) := by
 refine fnok Try.func55 ?_
 refine HO_c (rSt (lC (cB 5) (lC cI lN))) fun p0 _ => ?_
 obtain ⟨l0_0, l0_1, _⟩ := p0
 refine HO_0 tabO_px (pfits_R r) [.tmp 2] [] 34 Try.func55 fun w hG h => ?_
 have h : pfits n l0_0 l0_1 = some r := h
 unfold pfits at h
 have hT := tabO_px
 refine Vrs hT [1, 0] ⟨[(1, kP 0 0)], [], [⟨.blk, 45, 1, 2, .c [.wh 1, .s (.k .i64 l0_1)]⟩, ob 5 l0_0]⟩ ?_
 refine W_seq ?_
 refine W_seq ?_
 rcases Bool.eq_false_or_eq_true (decide (l0_1 < (0 : Int))) with g1 | g1
 ·replace h := bif_t h g1
  refine Vg hT fN [(3, true)] [] [0, 1] ⟨[(1, kP 0 0), (16, kB true)], [], [⟨.blk, 45, 1, 2, .c [.wh 1, .s (.k .i64 l0_1)]⟩, ob 5 l0_0]⟩ (aP g1 aN) ?_
  refine Vi (true) (fun _ => ?_) (fun hb => by cases hb)
  refine Vrs hT [] ⟨[(2, kB (l0_1 == 0))], [], []⟩ ?_
  refine Vc [] [] (pfits_R (l0_1 == 0)) (W_ret ?_)
  exact ⟨.inl rfl, by cases h; rfl⟩
 ·replace h := bif_f h g1
  rcases Bool.eq_false_or_eq_true (decide ((7 : Int) < l0_1)) with g2 | g2
  ·replace h := bif_t h g2
   refine Vg hT fN [(3, false), (8, true)] [] [0, 1] ⟨[(1, kP 0 0), (16, kB true)], [], [⟨.blk, 45, 1, 2, .c [.wh 1, .s (.k .i64 l0_1)]⟩, ob 5 l0_0]⟩ (aP g1 (aP g2 aN)) ?_
   refine Vi (true) (fun _ => ?_) (fun hb => by cases hb)
   refine Vrs hT [] ⟨[(2, kB (l0_1 == 0))], [], []⟩ ?_
   refine Vc [] [] (pfits_R (l0_1 == 0)) (W_ret ?_)
   exact ⟨.inl rfl, by cases h; rfl⟩
  ·replace h := bif_f h g2
   refine Vg hT fN [(3, false), (8, false)] [] [0, 1] ⟨[(1, kP 0 0), (16, kB (((l0_0.length : Nat) : Int) == 0))], [], [⟨.blk, 45, 1, 2, .c [.wh 1, .s (.k .i64 l0_1)]⟩, ob 5 l0_0]⟩ (aP g1 (aP g2 aN)) ?_
   refine Vi ((((l0_0.length : Nat) : Int) == 0)) (fun g7 => ?_) (fun g7 => ?_)
   ·replace h := bif_t h g7
    refine Vrs hT [] ⟨[(2, kB (l0_1 == 0))], [], []⟩ ?_
    refine Vc [] [] (pfits_R (l0_1 == 0)) (W_ret ?_)
    exact ⟨.inl rfl, by cases h; rfl⟩
   ·replace h := bif_f h g7
    refine W_skip ?_
    obtain ⟨g3, g4, g5, g6, h⟩ := gd4 h
    refine Vds hT fN 12 [] [(27, false), (31, false)] [] [] ⟨[(2, kB (((l0_0.getD ((((l0_0.length : Nat) : Int) - 1).toNat) 0) &&& ((shl8 1 l0_1) - (1 : UInt8))) == 0))], [], []⟩ (aP g3 (aP g4 (aP g5 (aP g6 aN)))) ?_
    refine Vc [] [] (pfits_R (((l0_0.getD ((((l0_0.length : Nat) : Int) - 1).toNat) 0) &&& ((shl8 1 l0_1) - (1 : UInt8))) == 0)) (W_ret ?_)
    exact ⟨.inl rfl, by cases h; rfl⟩
def pBits_R (r : List UInt8 × Option Int) : S := ⟨[(2, kH 0), (3, kE 31 r.2)], [], [nb 5 r.1]⟩
def pBits_ct (n : Nat) (r : List UInt8 × Option Int) : Ct := ctc (rSt (lC (cB 5) (lC cI lN))).rd fun _ y0 => ct0 fun H => ([pBits n y0.1 y0.2.1 = some r], shA H.length (.t [.c (.wh 0), .c (.s (.er 31 .i64 r.2))]), shH H.length [nb 5 r.1])
theorem pBits_ok (n : Nat) (r : List UInt8 × Option Int) : FnOk Try.prog Tr 24 (pBits_ct n r) := by
 refine fnok Try.func24 ?_
 refine HO_c (rSt (lC (cB 5) (lC cI lN))) fun p0 _ => ?_
 obtain ⟨l0_0, l0_1, _⟩ := p0
 refine HO_0 tabO_px (pBits_R r) [.tmp 2, .tmp 3] [0] 15 Try.func24 fun w hG h => ?_
 have h : pBits n l0_0 l0_1 = some r := h
 unfold pBits at h
 have hT := tabO_px
 refine Vrs hT [1, 0] ⟨[(1, kP 0 0)], [], [⟨.blk, 45, 1, 2, .c [.wh 1, .s (.k .i64 l0_1)]⟩, ob 5 l0_0]⟩ ?_
 refine W_seq ?_
 obtain ⟨r5, g1, h⟩ := bind_some' h
 refine Vgs hT (fT 1 (pfits_ok n r5) fN) [] [] [0, 1] ⟨[(1, kP 0 0), (6, kB (!r5))], [], [⟨.blk, 45, 1, 2, .c [.wh 1, .s (.k .i64 l0_1)]⟩, ob 5 l0_0]⟩ (aP g1 aN) ?_
 refine Vi ((!r5)) (fun g3 => ?_) (fun g3 => ?_)
 ·replace h := bif_t h g3
  refine Vrs hT [] ⟨[(2, .c (.nils)), (3, kE 31 (some 1))], [], []⟩ ?_
  refine Vc [.nil 2 5 1 (.b [])] [0] (pBits_R ([], (some 1))) (W_ret ?_)
  exact ⟨.inl rfl, by cases h; rfl⟩
 ·replace h := bif_f h g3
  refine W_skip ?_
  obtain ⟨g2, h⟩ := gd_some h
  refine Vgs hT fN [] [] [3] ⟨[(2, kH 0), (3, .c (.s (.v .nilIface)))], [], [nb 5 ([(UInt8.ofInt l0_1)] ++ l0_0)]⟩ (aP g2 aN) ?_
  refine Vc [.er 3 31 .i64] [0] (pBits_R (([(UInt8.ofInt l0_1)] ++ l0_0), none)) (W_ret ?_)
  exact ⟨.inl rfl, by cases h; rfl⟩
def pReadBits_R (r : List UInt8 × Int × Option Int) : S := ⟨[(2, kP 0 0), (3, kE 31 r.2.2)], [], [⟨.blk, 45, 1, 2, .c [.wh 1, .s (.k .i64 r.2.1)]⟩, nb 5 r.1]⟩
def pReadBits_ct (n : Nat) (r : List UInt8 × Int × Option Int) : Ct := ctc (rB 5).rd fun _ l0 => ct0 fun H => ([pReadBits n l0 = some r], shA H.length (.t [.g 2 (.c [.wh 0, .s (.k .i64 r.2.1)]), .c (.s (.er 31 .i64 r.2.2))]), shH H.length [nb 5 r.1])
theorem pReadBits_ok (n : Nat) (r : List UInt8 × Int × Option Int) : FnOk Try.prog Tr 26 (pReadBits_ct n r) := by
 refine fnok Try.func26 ?_
 refine HO_c (rB 5) fun l0 _ => HO_0 tabO_px (pReadBits_R r) [.cell 2 45, .tmp 3] [1] 24 Try.func26 fun w hG h => ?_
 unfold pReadBits at h
 have hT := tabO_px
 refine Vrs hT [0, 1] ⟨[(0, kH 0), (2, kP 1 0)], [], [ob 5 l0, ⟨.blk, 45, 1, 2, .c [.nils, .s (.k .i64 0)]⟩]⟩ ?_
 refine W_seq ?_
 refine Vrs hT [0, 1] ⟨[(0, kH 0), (2, kP 1 0), (7, kB (((l0.length : Nat) : Int) == 0))], [], [ob 5 l0, ⟨.blk, 45, 1, 2, .c [.nils, .s (.k .i64 0)]⟩]⟩ ?_
 refine Vi ((((l0.length : Nat) : Int) == 0)) (fun g8 => ?_) (fun g8 => ?_)
 ·replace h := bif_t h g8
  refine Vrs hT [1] ⟨[(2, kP 0 0), (3, kE 31 (some 2))], [], [⟨.blk, 45, 1, 2, .c [.nils, .s (.k .i64 0)]⟩]⟩ ?_
  refine Vc [.nlc 0 0 5 1 (.b []) none] [0, 1] (pReadBits_R ([], 0, (some 2))) (W_ret ?_)
  exact ⟨.inl rfl, by cases h; rfl⟩
 ·replace h := bif_f h g8
  refine W_skip ?_
  obtain ⟨g1, g2, g3, g4, g5, h⟩ := gd5 h
  refine Vds hT (fT 2 cloneb_h fN) 9 [] [(2, false), (4, false), (17, false)] [] [1, 2, 3] ⟨[(2, kP 0 0), (4, kP 1 0)], [], [⟨.blk, 45, 1, 2, .c [.nils, .s (.k .i64 0)]⟩, ⟨.blk, 45, 1, 2, .c [.wh 2, .s (.k .i64 (((l0.getD 0 0).toNat : Nat) : Int))]⟩, nb 5 ((l0.drop 1).take (l0.length - 1))]⟩ (aP g1 (aP g2 (aP g3 (aP g4 (aP g5 aN))))) ?_
  refine W_seq ?_
  obtain ⟨r19, g6, h⟩ := bind_some' h
  refine Vgs hT (fT 1 (pfits_ok n r19) fN) [] [] [0, 1, 2] ⟨[(2, kP 0 0), (4, kP 1 0), (20, kB (!r19))], [], [⟨.blk, 45, 1, 2, .c [.nils, .s (.k .i64 0)]⟩, ⟨.blk, 45, 1, 2, .c [.wh 2, .s (.k .i64 (((l0.getD 0 0).toNat : Nat) : Int))]⟩, nb 5 ((l0.drop 1).take (l0.length - 1))]⟩ (aP g6 aN) ?_
  refine Vi ((!r19)) (fun g7 => ?_) (fun g7 => ?_)
  ·replace h := bif_t h g7
   refine Vrs hT [0] ⟨[(2, kP 0 0), (3, kE 31 (some 2))], [], [⟨.blk, 45, 1, 2, .c [.nils, .s (.k .i64 0)]⟩]⟩ ?_
   refine Vc [.nlc 0 0 5 1 (.b []) none] [0, 1] (pReadBits_R ([], 0, (some 2))) (W_ret ?_)
   exact ⟨.inl rfl, by cases h; rfl⟩
  ·replace h := bif_f h g7
   refine W_skip ?_
   refine Vrs hT [0, 2] ⟨[(2, kP 0 0), (3, .c (.s (.v .nilIface)))], [], [⟨.blk, 45, 1, 2, .c [.wh 1, .s (.k .i64 (((l0.getD 0 0).toNat : Nat) : Int))]⟩, nb 5 ((l0.drop 1).take (l0.length - 1))]⟩ ?_
   refine Vc [.er 3 31 .i64] [0, 1] (pReadBits_R (((l0.drop 1).take (l0.length - 1)), (((l0.getD 0 0).toNat : Nat) : Int), none)) (W_ret ?_)
   exact ⟨.inl rfl, by cases h; rfl⟩
end Go.Proofs.Ytliilihbnhdemaa
end
section
namespace Go.Proofs.Ytliilihbnhdemaa
open Go.RowKit Go.Ch Go.Sx
def tabL_pc : List (TypeId × Ti) := [(2, ⟨.int .i64, 1, 8, true, some [.int .i64]⟩),
 (3, ⟨.int .i64, 1, 8, true, some [.int .i64]⟩),
 (28, ⟨.ifc, 1, 16, true, some [.ifc]⟩),
 (31, ⟨.int .i64, 1, 8, true, some [.int .i64]⟩),
 (34, ⟨.st [(3, 0), (3, 1), (3, 2), (3, 3), (3, 4), (3, 5)], 6, 48, true, some [.int .i64, .int .i64, .int .i64, .int .i64, .int .i64, .int .i64]⟩)]
def tab_pc : Tab := fun t => (tabL_pc).lookup t
theorem tabE_pc : (tabL_pc.map fun p => tiOf Try.prog p.1) = tabL_pc.map fun p => some p.2 := by kernel_rfl
theorem tabO_pc : TabOk Try.prog tab_pc := tab_of tabE_pc
def pAt_l1 (n : Nat) (a0 : Int) (i6_4 : Int) : Nat → Int → Int → Option (Int × Int × Int × Int × Int × Int × Option Int)
 | 0, _, _ => none
 | fu_l1 + 1, i7_1, i8_1 =>
  (pdays n i6_4 i8_1).bind fun r40_3 =>
  bif (decide (r40_3 ≤ i7_1)) then
   (pdays n i6_4 i8_1).bind fun r45_3 =>
   gd (okI .i64 (i7_1 - r45_3)) <|
   gd (okI .i64 (i8_1 + 1)) <|
   (pAt_l1 n a0 i6_4 fu_l1) (i7_1 - r45_3) (i8_1 + 1)
  else
   gd (okI .i64 (i7_1 + 1)) <|
   gd ((3600 : Int) ≠ 0) <|
   gd (okI .i64 (Int.tdiv (Int.tmod a0 86400) 3600)) <|
   gd ((60 : Int) ≠ 0) <|
   gd (okI .i64 (Int.tdiv (Int.tmod a0 86400) 60)) <|
   gd ((60 : Int) ≠ 0) <|
   gd ((60 : Int) ≠ 0) <|
   some (i6_4, i8_1, (i7_1 + 1), (Int.tdiv (Int.tmod a0 86400) 3600), (Int.tmod (Int.tdiv (Int.tmod a0 86400) 60) 60), (Int.tmod (Int.tmod a0 86400) 60), none)
def pAt_j1 (n : Nat) (a0 : Int) (i6_4 : Int) : Option (Int × Int × Int × Int × Int × Int × Option Int) :=
 (pahead n i6_4).bind fun r35_1 =>
 gd (okI .i64 ((Int.tdiv a0 86400) - r35_1)) <|
 pAt_l1 n a0 i6_4 n ((Int.tdiv a0 86400) - r35_1) 1
def pAt_l2 (n : Nat) (a0 : Int) : Nat → Int → Option (Int × Int × Int × Int × Int × Int × Option Int)
 | 0, _ => none
 | fu_l2 + 1, i6_5 =>
  gd (okI .i64 (i6_5 + 1)) <|
  (pahead n (i6_5 + 1)).bind fun r28_4 =>
  bif (decide (r28_4 ≤ (Int.tdiv a0 86400))) then
   gd (okI .i64 (i6_5 + 1)) <|
   (pAt_l2 n a0 fu_l2) (i6_5 + 1)
  else
   pAt_j1 n a0 i6_5
def pAt (n : Nat) (a0 : Int) : Option (Int × Int × Int × Int × Int × Int × Option Int) :=
 bif (decide (a0 < (0 : Int))) then
  some (0, 0, 0, 0, 0, 0, (some 1))
 else
  (pahead n 10000).bind fun r13 =>
  gd (okI .i64 (r13 * 86400)) <|
  bif (decide ((r13 * 86400) ≤ a0)) then
   some (0, 0, 0, 0, 0, 0, (some 1))
  else
   gd ((86400 : Int) ≠ 0) <|
   gd (okI .i64 (Int.tdiv a0 86400)) <|
   gd ((86400 : Int) ≠ 0) <|
   gd ((366 : Int) ≠ 0) <|
   gd (okI .i64 (Int.tdiv (Int.tdiv a0 86400) 366)) <|
   gd (okI .i64 ((Int.tdiv (Int.tdiv a0 86400) 366) + 1)) <|
   pAt_l2 n a0 n ((Int.tdiv (Int.tdiv a0 86400) 366) + 1)
def pAt_l1_E (a0 : Int) (i6_4 : Int) (i7_1 : Int) (i8_1 : Int) : S := ⟨[(2, kP 0 0), (5, kI (Int.tmod a0 86400)), (6, kI i6_4), (7, kI i7_1), (8, kI i8_1)], [], [⟨.blk, 34, 1, 6, .c [.s (.k .i64 0), .s (.k .i64 0), .s (.k .i64 0), .s (.k .i64 0), .s (.k .i64 0), .s (.k .i64 0)]⟩]⟩
abbrev pAt_l1_P (n : Nat) (a0 : Int) (i6_4 : Int) (r : Int × Int × Int × Int × Int × Int × Option Int) (fu : Nat) : S → Prop := fun s => ∃ (i7_1 : Int), ∃ (i8_1 : Int), s = pAt_l1_E a0 i6_4 i7_1 i8_1 ∧ pAt_l1 n a0 i6_4 fu i7_1 i8_1 = some r
def pAt_j1_E (a0 : Int) (i6_4 : Int) : S := ⟨[(2, kP 0 0), (4, kI (Int.tdiv a0 86400)), (5, kI (Int.tmod a0 86400)), (6, kI i6_4)], [], [⟨.blk, 34, 1, 6, .c [.s (.k .i64 0), .s (.k .i64 0), .s (.k .i64 0), .s (.k .i64 0), .s (.k .i64 0), .s (.k .i64 0)]⟩]⟩
abbrev pAt_j1_P (n : Nat) (a0 : Int) (r : Int × Int × Int × Int × Int × Int × Option Int) : S → Prop := fun s => ∃ (i6_4 : Int), s = pAt_j1_E a0 i6_4 ∧ pAt_j1 n a0 i6_4 = some r
def pAt_l2_E (a0 : Int) (i6_5 : Int) : S := ⟨[(2, kP 0 0), (4, kI (Int.tdiv a0 86400)), (5, kI (Int.tmod a0 86400)), (6, kI i6_5)], [], [⟨.blk, 34, 1, 6, .c [.s (.k .i64 0), .s (.k .i64 0), .s (.k .i64 0), .s (.k .i64 0), .s (.k .i64 0), .s (.k .i64 0)]⟩]⟩
abbrev pAt_l2_P (n : Nat) (a0 : Int) (r : Int × Int × Int × Int × Int × Int × Option Int) (fu : Nat) : S → Prop := fun s => ∃ (i6_5 : Int), s = pAt_l2_E a0 i6_5 ∧ pAt_l2 n a0 fu i6_5 = some r
def pAt_R (r : Int × Int × Int × Int × Int × Int × Option Int) : S := ⟨[(2, kP 0 0), (3, kE 31 r.2.2.2.2.2.2)], [], [⟨.blk, 34, 1, 6, .c [.s (.k .i64 r.1), .s (.k .i64 r.2.1), .s (.k .i64 r.2.2.1), .s (.k .i64 r.2.2.2.1), .s (.k .i64 r.2.2.2.2.1), .s (.k .i64 r.2.2.2.2.2.1)]⟩]⟩
def pAt_ct (n : Nat) (r : Int × Int × Int × Int × Int × Int × Option Int) : Ct := ctc rI.rd fun _ l0 => ct0 fun H => ([pAt n l0 = some r], shA H.length (.t [.g 6 (.c [.s (.k .i64 r.1), .s (.k .i64 r.2.1), .s (.k .i64 r.2.2.1), .s (.k .i64 r.2.2.2.1), .s (.k .i64 r.2.2.2.2.1), .s (.k .i64 r.2.2.2.2.2.1)]), .c (.s (.er 31 .i64 r.2.2.2.2.2.2))]), shH H.length [])
theorem pAt_ok (n : Nat) (r : Int × Int × Int × Int × Int × Int × Option Int) : FnOk Try.prog Tr 23 (pAt_ct n r) := by
 refine fnok Try.func23 ?_
 refine HO_c rI fun l0 _ => HO_0 tabO_pc (pAt_R r) [.cell 2 34, .tmp 3] [] 61 Try.func23 fun w hG h => ?_
 unfold pAt at h
 have hT := tabO_pc
 refine Vrs hT [0] ⟨[(0, kI l0), (2, kP 0 0)], [], [⟨.blk, 34, 1, 6, .c [.s (.k .i64 0), .s (.k .i64 0), .s (.k .i64 0), .s (.k .i64 0), .s (.k .i64 0), .s (.k .i64 0)]⟩]⟩ ?_
 refine W_seq ?_
 refine W_seq ?_
 rcases Bool.eq_false_or_eq_true (decide (l0 < (0 : Int))) with g1 | g1
 ·replace h := bif_t h g1
  refine Vg hT fN [(2, true)] [] [0] ⟨[(0, kI l0), (2, kP 0 0), (16, kB true)], [], [⟨.blk, 34, 1, 6, .c [.s (.k .i64 0), .s (.k .i64 0), .s (.k .i64 0), .s (.k .i64 0), .s (.k .i64 0), .s (.k .i64 0)]⟩]⟩ (aP g1 aN) ?_
  refine Vi (true) (fun _ => ?_) (fun hb => by cases hb)
  refine Vrs hT [0] ⟨[(2, kP 0 0), (3, kE 31 (some 1))], [], [⟨.blk, 34, 1, 6, .c [.s (.k .i64 0), .s (.k .i64 0), .s (.k .i64 0), .s (.k .i64 0), .s (.k .i64 0), .s (.k .i64 0)]⟩]⟩ ?_
  refine Vc [] [0] (pAt_R (0, 0, 0, 0, 0, 0, (some 1))) (W_ret ?_)
  exact ⟨.inl rfl, by cases h; rfl⟩
 ·replace h := bif_f h g1
  obtain ⟨r13, g2, h⟩ := bind_some' h
  obtain ⟨g3, h⟩ := gd_some h
  refine Vg hT (fT 4 (pahead_ok n r13) fN) [(2, false)] [] [0] ⟨[(0, kI l0), (2, kP 0 0), (16, kB (decide ((r13 * 86400) ≤ l0)))], [], [⟨.blk, 34, 1, 6, .c [.s (.k .i64 0), .s (.k .i64 0), .s (.k .i64 0), .s (.k .i64 0), .s (.k .i64 0), .s (.k .i64 0)]⟩]⟩ (aP g1 (aP g2 (aP g3 aN))) ?_
  refine Vi ((decide ((r13 * 86400) ≤ l0))) (fun g28 => ?_) (fun g28 => ?_)
  ·replace h := bif_t h g28
   refine Vrs hT [0] ⟨[(2, kP 0 0), (3, kE 31 (some 1))], [], [⟨.blk, 34, 1, 6, .c [.s (.k .i64 0), .s (.k .i64 0), .s (.k .i64 0), .s (.k .i64 0), .s (.k .i64 0), .s (.k .i64 0)]⟩]⟩ ?_
   refine Vc [] [0] (pAt_R (0, 0, 0, 0, 0, 0, (some 1))) (W_ret ?_)
   exact ⟨.inl rfl, by cases h; rfl⟩
  ·replace h := bif_f h g28
   refine W_skip ?_
   obtain ⟨g4, g5, g6, h⟩ := gd3 h
   refine Vgs hT fN [] [] [0] ⟨[(2, kP 0 0), (4, kI (Int.tdiv l0 86400)), (5, kI (Int.tmod l0 86400))], [], [⟨.blk, 34, 1, 6, .c [.s (.k .i64 0), .s (.k .i64 0), .s (.k .i64 0), .s (.k .i64 0), .s (.k .i64 0), .s (.k .i64 0)]⟩]⟩ (aP g4 (aP g5 (aP g6 aN))) ?_
   obtain ⟨g7, g8, g9, h⟩ := gd3 h
   refine Vgs hT fN [] [] [0] ⟨[(2, kP 0 0), (4, kI (Int.tdiv l0 86400)), (5, kI (Int.tmod l0 86400)), (6, kI ((Int.tdiv (Int.tdiv l0 86400) 366) + 1))], [], [⟨.blk, 34, 1, 6, .c [.s (.k .i64 0), .s (.k .i64 0), .s (.k .i64 0), .s (.k .i64 0), .s (.k .i64 0), .s (.k .i64 0)]⟩]⟩ (aP g7 (aP g8 (aP g9 aN))) ?_
   refine W_join (pAt_j1_P n l0 r) ?_ ?_
   ·rintro _ ⟨i6_4, rfl, h⟩
    unfold pAt_j1 at h
    obtain ⟨r35_1, g10, h⟩ := bind_some' h
    obtain ⟨g11, h⟩ := gd_some h
    refine Vgs hT (fT 2 (pahead_ok n r35_1) fN) [] [] [0] ⟨[(2, kP 0 0), (5, kI (Int.tmod l0 86400)), (6, kI i6_4), (7, kI ((Int.tdiv l0 86400) - r35_1)), (8, kI 1)], [], [⟨.blk, 34, 1, 6, .c [.s (.k .i64 0), .s (.k .i64 0), .s (.k .i64 0), .s (.k .i64 0), .s (.k .i64 0), .s (.k .i64 0)]⟩]⟩ (aP g10 (aP g11 aN)) ?_
    refine W_seq ?_
    refine W_block ?_
    refine Vc [] [0] (pAt_l1_E l0 i6_4 ((Int.tdiv l0 86400) - r35_1) 1) (W_lp ((pAt_l1_P n l0 i6_4 r)) n ⟨_, _, rfl, h⟩ ?_)
    rintro fu_l1 _ ⟨i7_1, i8_1, rfl, h⟩
    cases fu_l1 with
    | zero => cases h
    | succ fu_l1 =>
     refine ⟨fu_l1, rfl, ?_⟩
     rw [pAt_l1] at h
     refine W_seq ?_
     obtain ⟨r40_3, g12, h⟩ := bind_some' h
     refine Vgs hT (fT 3 (pdays_ok n r40_3) fN) [] [] [0] ⟨[(2, kP 0 0), (5, kI (Int.tmod l0 86400)), (6, kI i6_4), (7, kI i7_1), (8, kI i8_1), (41, kB (decide (r40_3 ≤ i7_1)))], [], [⟨.blk, 34, 1, 6, .c [.s (.k .i64 0), .s (.k .i64 0), .s (.k .i64 0), .s (.k .i64 0), .s (.k .i64 0), .s (.k .i64 0)]⟩]⟩ (aP g12 aN) ?_
     refine Vi ((decide (r40_3 ≤ i7_1))) (fun g23 => ?_) (fun g23 => ?_)
     ·replace h := bif_t h g23
      refine W_skip ?_
      refine W_block ?_
      obtain ⟨r45_3, g13, h⟩ := bind_some' h
      obtain ⟨g14, h⟩ := gd_some h
      refine Vgs hT (fT 3 (pdays_ok n r45_3) fN) [] [] [0] ⟨[(2, kP 0 0), (5, kI (Int.tmod l0 86400)), (6, kI i6_4), (7, kI (i7_1 - r45_3)), (8, kI i8_1)], [], [⟨.blk, 34, 1, 6, .c [.s (.k .i64 0), .s (.k .i64 0), .s (.k .i64 0), .s (.k .i64 0), .s (.k .i64 0), .s (.k .i64 0)]⟩]⟩ (aP g13 (aP g14 aN)) ?_
      obtain ⟨g15, h⟩ := gd_some h
      refine Vg hT fN [] [] [0] (pAt_l1_E l0 i6_4 (i7_1 - r45_3) (i8_1 + 1)) (aP g15 aN) ?_
      exact ⟨_, _, rfl, h⟩
     ·replace h := bif_f h g23
      refine Vc [] [0] ⟨[(2, kP 0 0), (5, kI (Int.tmod l0 86400)), (6, kI i6_4), (7, kI i7_1), (8, kI i8_1)], [], [⟨.blk, 34, 1, 6, .c [.s (.k .i64 0), .s (.k .i64 0), .s (.k .i64 0), .s (.k .i64 0), .s (.k .i64 0), .s (.k .i64 0)]⟩]⟩ (W_exit ?_)
      obtain ⟨g16, g17, g18, g19, g20, h⟩ := gd5 h
      obtain ⟨g21, g22, h⟩ := gd2 h
      refine Vgs hT fN [] [] [0] ⟨[(2, kP 0 0), (3, .c (.s (.v .nilIface)))], [], [⟨.blk, 34, 1, 6, .c [.s (.k .i64 i6_4), .s (.k .i64 i8_1), .s (.k .i64 (i7_1 + 1)), .s (.k .i64 (Int.tdiv (Int.tmod l0 86400) 3600)), .s (.k .i64 (Int.tmod (Int.tdiv (Int.tmod l0 86400) 60) 60)), .s (.k .i64 (Int.tmod (Int.tmod l0 86400) 60))]⟩]⟩ (aP g16 (aP g17 (aP g18 (aP g19 (aP g20 (aP g21 (aP g22 aN))))))) ?_
      refine Vc [.er 3 31 .i64] [0] (pAt_R (i6_4, i8_1, (i7_1 + 1), (Int.tdiv (Int.tmod l0 86400) 3600), (Int.tmod (Int.tdiv (Int.tmod l0 86400) 60) 60), (Int.tmod (Int.tmod l0 86400) 60), none)) (W_ret ?_)
      exact ⟨.inl rfl, by cases h; rfl⟩
   ·refine W_block ?_
    refine Vc [] [0] (pAt_l2_E l0 ((Int.tdiv (Int.tdiv l0 86400) 366) + 1)) (W_lp ((pAt_l2_P n l0 r)) n ⟨_, rfl, h⟩ ?_)
    rintro fu_l2 _ ⟨i6_5, rfl, h⟩
    cases fu_l2 with
    | zero => cases h
    | succ fu_l2 =>
     refine ⟨fu_l2, rfl, ?_⟩
     rw [pAt_l2] at h
     refine W_seq ?_
     obtain ⟨g24, h⟩ := gd_some h
     obtain ⟨r28_4, g25, h⟩ := bind_some' h
     refine Vgs hT (fT 2 (pahead_ok n r28_4) fN) [] [] [0] ⟨[(2, kP 0 0), (4, kI (Int.tdiv l0 86400)), (5, kI (Int.tmod l0 86400)), (6, kI i6_5), (30, kB (decide (r28_4 ≤ (Int.tdiv l0 86400))))], [], [⟨.blk, 34, 1, 6, .c [.s (.k .i64 0), .s (.k .i64 0), .s (.k .i64 0), .s (.k .i64 0), .s (.k .i64 0), .s (.k .i64 0)]⟩]⟩ (aP g24 (aP g25 aN)) ?_
     refine Vi ((decide (r28_4 ≤ (Int.tdiv l0 86400)))) (fun g27 => ?_) (fun g27 => ?_)
     ·replace h := bif_t h g27
      refine W_skip ?_
      refine W_block ?_
      obtain ⟨g26, h⟩ := gd_some h
      refine Vg hT fN [] [] [0] (pAt_l2_E l0 (i6_5 + 1)) (aP g26 aN) ?_
      exact ⟨_, rfl, h⟩
     ·replace h := bif_f h g27
      refine Vc [] [0] (pAt_j1_E l0 i6_5) (W_exit ?_)
      exact ⟨_, rfl, h⟩
end Go.Proofs.Ytliilihbnhdemaa
end
section
namespace Go.Proofs.Ytliilihbnhdemaa
open Go.RowKit Go.Ch Go.Sx
def tabL_pz : List (TypeId × Ti) := [(3, ⟨.int .i64, 1, 8, true, some [.int .i64]⟩),
 (5, ⟨.int .u8, 1, 1, true, some [.int .u8]⟩),
 (9, ⟨.str, 1, 16, true, some [.str]⟩),
 (22, ⟨.sl 5, 1, 24, false, some [.nils]⟩),
 (28, ⟨.ifc, 1, 16, true, some [.ifc]⟩),
 (31, ⟨.int .i64, 1, 8, true, some [.int .i64]⟩),
 (34, ⟨.st [(3, 0), (3, 1), (3, 2), (3, 3), (3, 4), (3, 5)], 6, 48, true, some [.int .i64, .int .i64, .int .i64, .int .i64, .int .i64, .int .i64]⟩),
 (76, ⟨.sl 3, 1, 24, false, some [.nils]⟩)]
def tab_pz : Tab := fun t => (tabL_pz).lookup t
theorem tabE_pz : (tabL_pz.map fun p => tiOf Try.prog p.1) = tabL_pz.map fun p => some p.2 := by kernel_rfl
theorem tabO_pz : TabOk Try.prog tab_pz := tab_of tabE_pz
def pReadTime_j2 (n : Nat) (a0 : UInt8) (z7_5 : List Int) : Option (Int × Int × Int × Int × Int × Int × Option Int) :=
 gd (0 ≤ (0 : Int)) <|
 gd ((0 : Int) < ((z7_5.length : Nat) : Int)) <|
 gd (okI .i64 ((z7_5.getD 0 0) * 100)) <|
 gd (0 ≤ (1 : Int)) <|
 gd ((1 : Int) < ((z7_5.length : Nat) : Int)) <|
 gd (okI .i64 (((z7_5.getD 0 0) * 100) + (z7_5.getD 1 0))) <|
 gd (0 ≤ (2 : Int)) <|
 gd ((2 : Int) < ((z7_5.length : Nat) : Int)) <|
 gd (0 ≤ (3 : Int)) <|
 gd ((3 : Int) < ((z7_5.length : Nat) : Int)) <|
 gd (0 ≤ (4 : Int)) <|
 gd ((4 : Int) < ((z7_5.length : Nat) : Int)) <|
 gd (0 ≤ (5 : Int)) <|
 gd ((5 : Int) < ((z7_5.length : Nat) : Int)) <|
 gd (0 ≤ (6 : Int)) <|
 gd ((6 : Int) < ((z7_5.length : Nat) : Int)) <|
 (pTime n (((z7_5.getD 0 0) * 100) + (z7_5.getD 1 0)) (z7_5.getD 2 0) (z7_5.getD 3 0) (z7_5.getD 4 0) (z7_5.getD 5 0) (z7_5.getD 6 0)).bind fun r128_2 =>
 bif (!((r128_2.2.2).isNone)) then
  some (0, 0, 0, 0, 0, 0, (some 2))
 else
  bif (r128_2.1 != a0) then
   some (0, 0, 0, 0, 0, 0, (some 2))
  else
   some ((((z7_5.getD 0 0) * 100) + (z7_5.getD 1 0)), (z7_5.getD 2 0), (z7_5.getD 3 0), (z7_5.getD 4 0), (z7_5.getD 5 0), (z7_5.getD 6 0), none)
def pReadTime_j3 (n : Nat) (a0 : UInt8) (z7_4 : List Int) (i9_5 : Int) : Option (Int × Int × Int × Int × Int × Int × Option Int) :=
 gd (rmB (1 + z7_4.length) 8) <|
 pReadTime_j2 n a0 ([i9_5] ++ z7_4)
def pReadTime_l1 (n : Nat) (a0 : UInt8) (a1 : List UInt8) (i6_1 : Int) : Nat → List Int → Int → Option (Int × Int × Int × Int × Int × Int × Option Int)
 | 0, _, _ => none
 | fu_l1 + 1, z7_4, i8_2 =>
 gd (okI .i64 (i6_1 - 1)) <|
 bif (decide (i8_2 < (i6_1 - 1))) then
 gd (0 ≤ i8_2) <|
 gd (i8_2 < ((a1.length : Nat) : Int)) <|
 bif (decide ((a1.getD i8_2.toNat 0) < (48 : UInt8))) then
 some (0, 0, 0, 0, 0, 0, (some 2))
 else
 gd (0 ≤ i8_2) <|
 gd (i8_2 < ((a1.length : Nat) : Int)) <|
 bif (decide ((57 : UInt8) < (a1.getD i8_2.toNat 0))) then
 some (0, 0, 0, 0, 0, 0, (some 2))
 else
 gd (okI .i64 (i8_2 + 1)) <|
 gd (0 ≤ (i8_2 + 1)) <|
 gd ((i8_2 + 1) < ((a1.length : Nat) : Int)) <|
 bif (decide ((a1.getD ((i8_2 + 1).toNat) 0) < (48 : UInt8))) then
 some (0, 0, 0, 0, 0, 0, (some 2))
 else
 gd (okI .i64 (i8_2 + 1)) <|
 gd (0 ≤ (i8_2 + 1)) <|
 gd ((i8_2 + 1) < ((a1.length : Nat) : Int)) <|
 bif (decide ((57 : UInt8) < (a1.getD ((i8_2 + 1).toNat) 0))) then
 some (0, 0, 0, 0, 0, 0, (some 2))
 else
 gd (0 ≤ i8_2) <|
 gd (i8_2 < ((a1.length : Nat) : Int)) <|
 gd (okI .i64 (((((a1.getD i8_2.toNat 0) - (48 : UInt8)).toNat : Nat) : Int) * 10)) <|
 gd (okI .i64 (i8_2 + 1)) <|
 gd (0 ≤ (i8_2 + 1)) <|
 gd ((i8_2 + 1) < ((a1.length : Nat) : Int)) <|
 gd (okI .i64 ((((((a1.getD i8_2.toNat 0) - (48 : UInt8)).toNat : Nat) : Int) * 10) + ((((a1.getD ((i8_2 + 1).toNat) 0) - (48 : UInt8)).toNat : Nat) : Int))) <|
 gd (rmB (z7_4.length + 1) 8) <|
 gd (okI .i64 (i8_2 + 2)) <|
 (pReadTime_l1 n a0 a1 i6_1 fu_l1) (z7_4 ++ [((((((a1.getD i8_2.toNat 0) - (48 : UInt8)).toNat : Nat) : Int) * 10) + ((((a1.getD ((i8_2 + 1).toNat) 0) - (48 : UInt8)).toNat : Nat) : Int))]) (i8_2 + 2)
 else
 bif (a0 == 23) then
 gd (0 ≤ (0 : Int)) <|
 gd ((0 : Int) < ((z7_4.length : Nat) : Int)) <|
 bif (decide ((50 : Int) ≤ (z7_4.getD 0 0))) then
 pReadTime_j3 n a0 z7_4 19
 else
 pReadTime_j3 n a0 z7_4 20
 else
 pReadTime_j2 n a0 z7_4
def pReadTime_j4 (n : Nat) (a0 : UInt8) (z7_7 : List Int) : Option (Int × Int × Int × Int × Int × Int × Option Int) :=
 gd (0 ≤ (0 : Int)) <|
 gd ((0 : Int) < ((z7_7.length : Nat) : Int)) <|
 gd (okI .i64 ((z7_7.getD 0 0) * 100)) <|
 gd (0 ≤ (1 : Int)) <|
 gd ((1 : Int) < ((z7_7.length : Nat) : Int)) <|
 gd (okI .i64 (((z7_7.getD 0 0) * 100) + (z7_7.getD 1 0))) <|
 gd (0 ≤ (2 : Int)) <|
 gd ((2 : Int) < ((z7_7.length : Nat) : Int)) <|
 gd (0 ≤ (3 : Int)) <|
 gd ((3 : Int) < ((z7_7.length : Nat) : Int)) <|
 gd (0 ≤ (4 : Int)) <|
 gd ((4 : Int) < ((z7_7.length : Nat) : Int)) <|
 gd (0 ≤ (5 : Int)) <|
 gd ((5 : Int) < ((z7_7.length : Nat) : Int)) <|
 gd (0 ≤ (6 : Int)) <|
 gd ((6 : Int) < ((z7_7.length : Nat) : Int)) <|
 (pTime n (((z7_7.getD 0 0) * 100) + (z7_7.getD 1 0)) (z7_7.getD 2 0) (z7_7.getD 3 0) (z7_7.getD 4 0) (z7_7.getD 5 0) (z7_7.getD 6 0)).bind fun r128_3 =>
 bif (!((r128_3.2.2).isNone)) then
  some (0, 0, 0, 0, 0, 0, (some 2))
 else
  bif (r128_3.1 != a0) then
   some (0, 0, 0, 0, 0, 0, (some 2))
  else
   some ((((z7_7.getD 0 0) * 100) + (z7_7.getD 1 0)), (z7_7.getD 2 0), (z7_7.getD 3 0), (z7_7.getD 4 0), (z7_7.getD 5 0), (z7_7.getD 6 0), none)
def pReadTime_j5 (n : Nat) (a0 : UInt8) (z7_6 : List Int) (i9_7 : Int) : Option (Int × Int × Int × Int × Int × Int × Option Int) :=
 gd (rmB (1 + z7_6.length) 8) <|
 pReadTime_j4 n a0 ([i9_7] ++ z7_6)
def pReadTime_l2 (n : Nat) (a0 : UInt8) (a1 : List UInt8) (i6_1 : Int) : Nat → List Int → Int → Option (Int × Int × Int × Int × Int × Int × Option Int)
 | 0, _, _ => none
 | fu_l2 + 1, z7_6, i8_3 =>
 gd (okI .i64 (i6_1 - 1)) <|
 bif (decide (i8_3 < (i6_1 - 1))) then
 gd (0 ≤ i8_3) <|
 gd (i8_3 < ((a1.length : Nat) : Int)) <|
 bif (decide ((a1.getD i8_3.toNat 0) < (48 : UInt8))) then
 some (0, 0, 0, 0, 0, 0, (some 2))
 else
 gd (0 ≤ i8_3) <|
 gd (i8_3 < ((a1.length : Nat) : Int)) <|
 bif (decide ((57 : UInt8) < (a1.getD i8_3.toNat 0))) then
 some (0, 0, 0, 0, 0, 0, (some 2))
 else
 gd (okI .i64 (i8_3 + 1)) <|
 gd (0 ≤ (i8_3 + 1)) <|
 gd ((i8_3 + 1) < ((a1.length : Nat) : Int)) <|
 bif (decide ((a1.getD ((i8_3 + 1).toNat) 0) < (48 : UInt8))) then
 some (0, 0, 0, 0, 0, 0, (some 2))
 else
 gd (okI .i64 (i8_3 + 1)) <|
 gd (0 ≤ (i8_3 + 1)) <|
 gd ((i8_3 + 1) < ((a1.length : Nat) : Int)) <|
 bif (decide ((57 : UInt8) < (a1.getD ((i8_3 + 1).toNat) 0))) then
 some (0, 0, 0, 0, 0, 0, (some 2))
 else
 gd (0 ≤ i8_3) <|
 gd (i8_3 < ((a1.length : Nat) : Int)) <|
 gd (okI .i64 (((((a1.getD i8_3.toNat 0) - (48 : UInt8)).toNat : Nat) : Int) * 10)) <|
 gd (okI .i64 (i8_3 + 1)) <|
 gd (0 ≤ (i8_3 + 1)) <|
 gd ((i8_3 + 1) < ((a1.length : Nat) : Int)) <|
 gd (okI .i64 ((((((a1.getD i8_3.toNat 0) - (48 : UInt8)).toNat : Nat) : Int) * 10) + ((((a1.getD ((i8_3 + 1).toNat) 0) - (48 : UInt8)).toNat : Nat) : Int))) <|
 gd (rmB (z7_6.length + 1) 8) <|
 gd (okI .i64 (i8_3 + 2)) <|
 (pReadTime_l2 n a0 a1 i6_1 fu_l2) (z7_6 ++ [((((((a1.getD i8_3.toNat 0) - (48 : UInt8)).toNat : Nat) : Int) * 10) + ((((a1.getD ((i8_3 + 1).toNat) 0) - (48 : UInt8)).toNat : Nat) : Int))]) (i8_3 + 2)
 else
 bif (a0 == 23) then
 gd (0 ≤ (0 : Int)) <|
 gd ((0 : Int) < ((z7_6.length : Nat) : Int)) <|
 bif (decide ((50 : Int) ≤ (z7_6.getD 0 0))) then
 pReadTime_j5 n a0 z7_6 19
 else
 pReadTime_j5 n a0 z7_6 20
 else
 pReadTime_j4 n a0 z7_6
def pReadTime_j1 (n : Nat) (a0 : UInt8) (a1 : List UInt8) (i6_1 : Int) : Option (Int × Int × Int × Int × Int × Int × Option Int) :=
 bif (a0 != 23) then
 bif (a0 != 24) then
 some (0, 0, 0, 0, 0, 0, (some 2))
 else
 bif (((a1.length : Nat) : Int) != i6_1) then
 some (0, 0, 0, 0, 0, 0, (some 2))
 else
 gd (okI .i64 (i6_1 - 1)) <|
 gd (0 ≤ (i6_1 - 1)) <|
 gd ((i6_1 - 1) < ((a1.length : Nat) : Int)) <|
 bif ((a1.getD ((i6_1 - 1).toNat) 0) != 90) then
 some (0, 0, 0, 0, 0, 0, (some 2))
 else
 pReadTime_l1 n a0 a1 i6_1 n [] 0
 else
 bif (((a1.length : Nat) : Int) != i6_1) then
 some (0, 0, 0, 0, 0, 0, (some 2))
 else
 gd (okI .i64 (i6_1 - 1)) <|
 gd (0 ≤ (i6_1 - 1)) <|
 gd ((i6_1 - 1) < ((a1.length : Nat) : Int)) <|
 bif ((a1.getD ((i6_1 - 1).toNat) 0) != 90) then
 some (0, 0, 0, 0, 0, 0, (some 2))
 else
 pReadTime_l2 n a0 a1 i6_1 n [] 0
def pReadTime (n : Nat) (a0 : UInt8) (a1 : List UInt8) : Option (Int × Int × Int × Int × Int × Int × Option Int) :=
 bif (a0 == 24) then
 pReadTime_j1 n a0 a1 15
 else
 pReadTime_j1 n a0 a1 13
def pReadTime_j2_E (a0 : UInt8) (z7_5 : List Int) : S := ⟨[(0, kU a0), (4, kP 0 0), (7, kH 1)], [], [⟨.blk, 34, 1, 6, .c [.s (.k .i64 0), .s (.k .i64 0), .s (.k .i64 0), .s (.k .i64 0), .s (.k .i64 0), .s (.k .i64 0)]⟩, nz 3 z7_5]⟩
abbrev pReadTime_j2_P (n : Nat) (a0 : UInt8) (r : Int × Int × Int × Int × Int × Int × Option Int) : S → Prop := fun s => ∃ (z7_5 : List Int), s = pReadTime_j2_E a0 z7_5 ∧ pReadTime_j2 n a0 z7_5 = some r
def pReadTime_j3_E (a0 : UInt8) (z7_4 : List Int) (i9_5 : Int) : S := ⟨[(0, kU a0), (4, kP 0 0), (7, kH 1), (9, kI i9_5)], [], [⟨.blk, 34, 1, 6, .c [.s (.k .i64 0), .s (.k .i64 0), .s (.k .i64 0), .s (.k .i64 0), .s (.k .i64 0), .s (.k .i64 0)]⟩, nz 3 z7_4]⟩
abbrev pReadTime_j3_P (n : Nat) (a0 : UInt8) (z7_4 : List Int) (r : Int × Int × Int × Int × Int × Int × Option Int) : S → Prop := fun s => ∃ (i9_5 : Int), s = pReadTime_j3_E a0 z7_4 i9_5 ∧ pReadTime_j3 n a0 z7_4 i9_5 = some r
def pReadTime_l1_E (a0 : UInt8) (a1 : List UInt8) (i6_1 : Int) (z7_4 : List Int) (i8_2 : Int) : S := ⟨[(0, kU a0), (1, kH 0), (4, kP 1 0), (6, kI i6_1), (7, kH 2), (8, kI i8_2)], [], [ob 5 a1, ⟨.blk, 34, 1, 6, .c [.s (.k .i64 0), .s (.k .i64 0), .s (.k .i64 0), .s (.k .i64 0), .s (.k .i64 0), .s (.k .i64 0)]⟩, nz 3 z7_4]⟩
abbrev pReadTime_l1_P (n : Nat) (a0 : UInt8) (a1 : List UInt8) (i6_1 : Int) (r : Int × Int × Int × Int × Int × Int × Option Int) (fu : Nat) : S → Prop := fun s => ∃ (z7_4 : List Int), ∃ (i8_2 : Int), s = pReadTime_l1_E a0 a1 i6_1 z7_4 i8_2 ∧ pReadTime_l1 n a0 a1 i6_1 fu z7_4 i8_2 = some r
def pReadTime_j4_E (a0 : UInt8) (z7_7 : List Int) : S := ⟨[(0, kU a0), (4, kP 0 0), (7, kH 1)], [], [⟨.blk, 34, 1, 6, .c [.s (.k .i64 0), .s (.k .i64 0), .s (.k .i64 0), .s (.k .i64 0), .s (.k .i64 0), .s (.k .i64 0)]⟩, nz 3 z7_7]⟩
abbrev pReadTime_j4_P (n : Nat) (a0 : UInt8) (r : Int × Int × Int × Int × Int × Int × Option Int) : S → Prop := fun s => ∃ (z7_7 : List Int), s = pReadTime_j4_E a0 z7_7 ∧ pReadTime_j4 n a0 z7_7 = some r
def pReadTime_j5_E (a0 : UInt8) (z7_6 : List Int) (i9_7 : Int) : S := ⟨[(0, kU a0), (4, kP 0 0), (7, kH 1), (9, kI i9_7)], [], [⟨.blk, 34, 1, 6, .c [.s (.k .i64 0), .s (.k .i64 0), .s (.k .i64 0), .s (.k .i64 0), .s (.k .i64 0), .s (.k .i64 0)]⟩, nz 3 z7_6]⟩
abbrev pReadTime_j5_P (n : Nat) (a0 : UInt8) (z7_6 : List Int) (r : Int × Int × Int × Int × Int × Int × Option Int) : S → Prop := fun s => ∃ (i9_7 : Int), s = pReadTime_j5_E a0 z7_6 i9_7 ∧ pReadTime_j5 n a0 z7_6 i9_7 = some r
def pReadTime_l2_E (a0 : UInt8) (a1 : List UInt8) (i6_1 : Int) (z7_6 : List Int) (i8_3 : Int) : S := ⟨[(0, kU a0), (1, kH 0), (4, kP 1 0), (6, kI i6_1), (7, kH 2), (8, kI i8_3)], [], [ob 5 a1, ⟨.blk, 34, 1, 6, .c [.s (.k .i64 0), .s (.k .i64 0), .s (.k .i64 0), .s (.k .i64 0), .s (.k .i64 0), .s (.k .i64 0)]⟩, nz 3 z7_6]⟩
abbrev pReadTime_l2_P (n : Nat) (a0 : UInt8) (a1 : List UInt8) (i6_1 : Int) (r : Int × Int × Int × Int × Int × Int × Option Int) (fu : Nat) : S → Prop := fun s => ∃ (z7_6 : List Int), ∃ (i8_3 : Int), s = pReadTime_l2_E a0 a1 i6_1 z7_6 i8_3 ∧ pReadTime_l2 n a0 a1 i6_1 fu z7_6 i8_3 = some r
def pReadTime_j1_E (a0 : UInt8) (a1 : List UInt8) (i6_1 : Int) : S := ⟨[(0, kU a0), (1, kH 0), (4, kP 1 0), (6, kI i6_1)], [], [ob 5 a1, ⟨.blk, 34, 1, 6, .c [.s (.k .i64 0), .s (.k .i64 0), .s (.k .i64 0), .s (.k .i64 0), .s (.k .i64 0), .s (.k .i64 0)]⟩]⟩
abbrev pReadTime_j1_P (n : Nat) (a0 : UInt8) (a1 : List UInt8) (r : Int × Int × Int × Int × Int × Int × Option Int) : S → Prop := fun s => ∃ (i6_1 : Int), s = pReadTime_j1_E a0 a1 i6_1 ∧ pReadTime_j1 n a0 a1 i6_1 = some r
def pReadTime_R (r : Int × Int × Int × Int × Int × Int × Option Int) : S := ⟨[(4, kP 0 0), (5, kE 31 r.2.2.2.2.2.2)], [], [⟨.blk, 34, 1, 6, .c [.s (.k .i64 r.1), .s (.k .i64 r.2.1), .s (.k .i64 r.2.2.1), .s (.k .i64 r.2.2.2.1), .s (.k .i64 r.2.2.2.2.1), .s (.k .i64 r.2.2.2.2.2.1)]⟩]⟩
def pReadTime_ct (n : Nat) (r : Int × Int × Int × Int × Int × Int × Option Int) : Ct := ctc rU8.rd fun _ l0 => ctc (rB 5).rd fun _ l1 => ct0 fun H => ([pReadTime n l0 l1 = some r], shA H.length (.t [.g 6 (.c [.s (.k .i64 r.1), .s (.k .i64 r.2.1), .s (.k .i64 r.2.2.1), .s (.k .i64 r.2.2.2.1), .s (.k .i64 r.2.2.2.2.1), .s (.k .i64 r.2.2.2.2.2.1)]), .c (.s (.er 31 .i64 r.2.2.2.2.2.2))]), shH H.length [])
theorem pReadTime_ok (n : Nat) (r : Int × Int × Int × Int × Int × Int × Option Int) : FnOk Try.prog Tr 28 (pReadTime_ct n r) := by
 refine fnok Try.func28 ?_
 refine HO_c rU8 fun l0 _ => HO_c (rB 5) fun l1 _ => HO_0 tabO_pz (pReadTime_R r) [.cell 4 34, .tmp 5] [] 142 Try.func28 fun w hG h => ?_
 unfold pReadTime at h
 have hT := tabO_pz
 refine Vrs hT [0, 1] ⟨[(0, kU l0), (1, kH 0), (4, kP 1 0)], [], [ob 5 l1, ⟨.blk, 34, 1, 6, .c [.s (.k .i64 0), .s (.k .i64 0), .s (.k .i64 0), .s (.k .i64 0), .s (.k .i64 0), .s (.k .i64 0)]⟩]⟩ ?_
 refine Vrs hT [0, 1] ⟨[(0, kU l0), (1, kH 0), (4, kP 1 0), (6, kI 13)], [], [ob 5 l1, ⟨.blk, 34, 1, 6, .c [.s (.k .i64 0), .s (.k .i64 0), .s (.k .i64 0), .s (.k .i64 0), .s (.k .i64 0), .s (.k .i64 0)]⟩]⟩ ?_
 refine W_join (pReadTime_j1_P n l0 l1 r) ?_ ?_
 ·rintro _ ⟨i6_1, rfl, h⟩
  unfold pReadTime_j1 at h
  refine W_seq ?_
  refine W_seq ?_
  rcases Bool.eq_false_or_eq_true (l0 != 23) with g1 | g1
  ·replace h := bif_t h g1
   rcases Bool.eq_false_or_eq_true (l0 != 24) with g2 | g2
   ·replace h := bif_t h g2
    refine Vg hT fN [(2, true), (6, true)] [] [0, 1] ⟨[(0, kU l0), (1, kH 0), (4, kP 1 0), (6, kI i6_1), (35, kB true)], [], [ob 5 l1, ⟨.blk, 34, 1, 6, .c [.s (.k .i64 0), .s (.k .i64 0), .s (.k .i64 0), .s (.k .i64 0), .s (.k .i64 0), .s (.k .i64 0)]⟩]⟩ (aP g1 (aP g2 aN)) ?_
    refine Vi (true) (fun _ => ?_) (fun hb => by cases hb)
    refine Vrs hT [1] ⟨[(4, kP 0 0), (5, kE 31 (some 2))], [], [⟨.blk, 34, 1, 6, .c [.s (.k .i64 0), .s (.k .i64 0), .s (.k .i64 0), .s (.k .i64 0), .s (.k .i64 0), .s (.k .i64 0)]⟩]⟩ ?_
    refine Vc [] [0] (pReadTime_R (0, 0, 0, 0, 0, 0, (some 2))) (W_ret ?_)
    exact ⟨.inl rfl, by cases h; rfl⟩
   ·replace h := bif_f h g2
    rcases Bool.eq_false_or_eq_true (((l1.length : Nat) : Int) != i6_1) with g3 | g3
    ·replace h := bif_t h g3
     refine Vg hT fN [(2, true), (6, false), (12, true)] [] [0, 1] ⟨[(0, kU l0), (1, kH 0), (4, kP 1 0), (6, kI i6_1), (35, kB true)], [], [ob 5 l1, ⟨.blk, 34, 1, 6, .c [.s (.k .i64 0), .s (.k .i64 0), .s (.k .i64 0), .s (.k .i64 0), .s (.k .i64 0), .s (.k .i64 0)]⟩]⟩ (aP g1 (aP g2 (aP g3 aN))) ?_
     refine Vi (true) (fun _ => ?_) (fun hb => by cases hb)
     refine Vrs hT [1] ⟨[(4, kP 0 0), (5, kE 31 (some 2))], [], [⟨.blk, 34, 1, 6, .c [.s (.k .i64 0), .s (.k .i64 0), .s (.k .i64 0), .s (.k .i64 0), .s (.k .i64 0), .s (.k .i64 0)]⟩]⟩ ?_
     refine Vc [] [0] (pReadTime_R (0, 0, 0, 0, 0, 0, (some 2))) (W_ret ?_)
     exact ⟨.inl rfl, by cases h; rfl⟩
    ·replace h := bif_f h g3
     obtain ⟨g4, g5, g6, h⟩ := gd3 h
     refine Vg hT fN [(2, true), (6, false), (12, false)] [] [0, 1] ⟨[(0, kU l0), (1, kH 0), (4, kP 1 0), (6, kI i6_1), (35, kB ((l1.getD ((i6_1 - 1).toNat) 0) != 90))], [], [ob 5 l1, ⟨.blk, 34, 1, 6, .c [.s (.k .i64 0), .s (.k .i64 0), .s (.k .i64 0), .s (.k .i64 0), .s (.k .i64 0), .s (.k .i64 0)]⟩]⟩ (aP g1 (aP g2 (aP g3 (aP g4 (aP g5 (aP g6 aN)))))) ?_
     refine Vi (((l1.getD ((i6_1 - 1).toNat) 0) != 90)) (fun g56 => ?_) (fun g56 => ?_)
     ·replace h := bif_t h g56
      refine Vrs hT [1] ⟨[(4, kP 0 0), (5, kE 31 (some 2))], [], [⟨.blk, 34, 1, 6, .c [.s (.k .i64 0), .s (.k .i64 0), .s (.k .i64 0), .s (.k .i64 0), .s (.k .i64 0), .s (.k .i64 0)]⟩]⟩ ?_
      refine Vc [] [0] (pReadTime_R (0, 0, 0, 0, 0, 0, (some 2))) (W_ret ?_)
      exact ⟨.inl rfl, by cases h; rfl⟩
     ·replace h := bif_f h g56
      refine W_skip ?_
      refine Vrs hT [0, 1] ⟨[(0, kU l0), (1, kH 0), (4, kP 1 0), (6, kI i6_1), (7, .c (.nils))], [], [ob 5 l1, ⟨.blk, 34, 1, 6, .c [.s (.k .i64 0), .s (.k .i64 0), .s (.k .i64 0), .s (.k .i64 0), .s (.k .i64 0), .s (.k .i64 0)]⟩]⟩ ?_
      refine W_seq ?_
      refine Vrs hT [0, 1] ⟨[(0, kU l0), (1, kH 0), (4, kP 1 0), (6, kI i6_1), (7, .c (.nils)), (8, kI 0)], [], [ob 5 l1, ⟨.blk, 34, 1, 6, .c [.s (.k .i64 0), .s (.k .i64 0), .s (.k .i64 0), .s (.k .i64 0), .s (.k .i64 0), .s (.k .i64 0)]⟩]⟩ ?_
      refine W_block ?_
      refine Vc [.nil 7 3 1 (.z [])] [0, 1, 2] (pReadTime_l1_E l0 l1 i6_1 [] 0) (W_lp ((pReadTime_l1_P n l0 l1 i6_1 r)) n ⟨_, _, rfl, h⟩ ?_)
      rintro fu_l1 _ ⟨z7_4, i8_2, rfl, h⟩
      cases fu_l1 with
      | zero => cases h
      | succ fu_l1 =>
       refine ⟨fu_l1, rfl, ?_⟩
       rw [pReadTime_l1] at h
       refine W_seq ?_
       obtain ⟨g7, h⟩ := gd_some h
       refine Vgs hT fN [] [] [0, 1, 2] ⟨[(0, kU l0), (1, kH 0), (4, kP 1 0), (6, kI i6_1), (7, kH 2), (8, kI i8_2), (41, kB (decide (i8_2 < (i6_1 - 1))))], [], [ob 5 l1, ⟨.blk, 34, 1, 6, .c [.s (.k .i64 0), .s (.k .i64 0), .s (.k .i64 0), .s (.k .i64 0), .s (.k .i64 0), .s (.k .i64 0)]⟩, nz 3 z7_4]⟩ (aP g7 aN) ?_
       refine Vi ((decide (i8_2 < (i6_1 - 1)))) (fun g55 => ?_) (fun g55 => ?_)
       ·replace h := bif_t h g55
        refine Vc [] [0, 1, 2] ⟨[(0, kU l0), (1, kH 0), (4, kP 1 0), (6, kI i6_1), (7, kH 2), (8, kI i8_2)], [], [ob 5 l1, ⟨.blk, 34, 1, 6, .c [.s (.k .i64 0), .s (.k .i64 0), .s (.k .i64 0), .s (.k .i64 0), .s (.k .i64 0), .s (.k .i64 0)]⟩, nz 3 z7_4]⟩ (W_skip ?_)
        refine W_seq ?_
        refine W_block ?_
        refine W_seq ?_
        refine W_seq ?_
        obtain ⟨g8, g9, h⟩ := gd2 h
        rcases Bool.eq_false_or_eq_true (decide ((l1.getD i8_2.toNat 0) < (48 : UInt8))) with g10 | g10
        ·replace h := bif_t h g10
         refine Vg hT fN [(5, true)] [] [0, 1, 2] ⟨[(0, kU l0), (1, kH 0), (4, kP 1 0), (6, kI i6_1), (7, kH 2), (8, kI i8_2), (71, kB true)], [], [ob 5 l1, ⟨.blk, 34, 1, 6, .c [.s (.k .i64 0), .s (.k .i64 0), .s (.k .i64 0), .s (.k .i64 0), .s (.k .i64 0), .s (.k .i64 0)]⟩, nz 3 z7_4]⟩ (aP g8 (aP g9 (aP g10 aN))) ?_
         refine Vi (true) (fun _ => ?_) (fun hb => by cases hb)
         refine Vrs hT [1] ⟨[(4, kP 0 0), (5, kE 31 (some 2))], [], [⟨.blk, 34, 1, 6, .c [.s (.k .i64 0), .s (.k .i64 0), .s (.k .i64 0), .s (.k .i64 0), .s (.k .i64 0), .s (.k .i64 0)]⟩]⟩ ?_
         refine Vc [] [0] (pReadTime_R (0, 0, 0, 0, 0, 0, (some 2))) (W_ret ?_)
         exact ⟨.inl rfl, by cases h; rfl⟩
        ·replace h := bif_f h g10
         obtain ⟨g11, g12, h⟩ := gd2 h
         rcases Bool.eq_false_or_eq_true (decide ((57 : UInt8) < (l1.getD i8_2.toNat 0))) with g13 | g13
         ·replace h := bif_t h g13
          refine Vg hT fN [(5, false), (12, true)] [] [0, 1, 2] ⟨[(0, kU l0), (1, kH 0), (4, kP 1 0), (6, kI i6_1), (7, kH 2), (8, kI i8_2), (71, kB true)], [], [ob 5 l1, ⟨.blk, 34, 1, 6, .c [.s (.k .i64 0), .s (.k .i64 0), .s (.k .i64 0), .s (.k .i64 0), .s (.k .i64 0), .s (.k .i64 0)]⟩, nz 3 z7_4]⟩ (aP g8 (aP g9 (aP g10 (aP g11 (aP g12 (aP g13 aN)))))) ?_
          refine Vi (true) (fun _ => ?_) (fun hb => by cases hb)
          refine Vrs hT [1] ⟨[(4, kP 0 0), (5, kE 31 (some 2))], [], [⟨.blk, 34, 1, 6, .c [.s (.k .i64 0), .s (.k .i64 0), .s (.k .i64 0), .s (.k .i64 0), .s (.k .i64 0), .s (.k .i64 0)]⟩]⟩ ?_
          refine Vc [] [0] (pReadTime_R (0, 0, 0, 0, 0, 0, (some 2))) (W_ret ?_)
          exact ⟨.inl rfl, by cases h; rfl⟩
         ·replace h := bif_f h g13
          obtain ⟨g14, g15, g16, h⟩ := gd3 h
          rcases Bool.eq_false_or_eq_true (decide ((l1.getD ((i8_2 + 1).toNat) 0) < (48 : UInt8))) with g17 | g17
          ·replace h := bif_t h g17
           refine Vg hT fN [(5, false), (12, false), (20, true)] [] [0, 1, 2] ⟨[(0, kU l0), (1, kH 0), (4, kP 1 0), (6, kI i6_1), (7, kH 2), (8, kI i8_2), (71, kB true)], [], [ob 5 l1, ⟨.blk, 34, 1, 6, .c [.s (.k .i64 0), .s (.k .i64 0), .s (.k .i64 0), .s (.k .i64 0), .s (.k .i64 0), .s (.k .i64 0)]⟩, nz 3 z7_4]⟩ (aP g8 (aP g9 (aP g10 (aP g11 (aP g12 (aP g13 (aP g14 (aP g15 (aP g16 (aP g17 aN)))))))))) ?_
           refine Vi (true) (fun _ => ?_) (fun hb => by cases hb)
           refine Vrs hT [1] ⟨[(4, kP 0 0), (5, kE 31 (some 2))], [], [⟨.blk, 34, 1, 6, .c [.s (.k .i64 0), .s (.k .i64 0), .s (.k .i64 0), .s (.k .i64 0), .s (.k .i64 0), .s (.k .i64 0)]⟩]⟩ ?_
           refine Vc [] [0] (pReadTime_R (0, 0, 0, 0, 0, 0, (some 2))) (W_ret ?_)
           exact ⟨.inl rfl, by cases h; rfl⟩
          ·replace h := bif_f h g17
           obtain ⟨g18, g19, g20, h⟩ := gd3 h
           refine Vg hT fN [(5, false), (12, false), (20, false)] [] [0, 1, 2] ⟨[(0, kU l0), (1, kH 0), (4, kP 1 0), (6, kI i6_1), (7, kH 2), (8, kI i8_2), (71, kB (decide ((57 : UInt8) < (l1.getD ((i8_2 + 1).toNat) 0))))], [], [ob 5 l1, ⟨.blk, 34, 1, 6, .c [.s (.k .i64 0), .s (.k .i64 0), .s (.k .i64 0), .s (.k .i64 0), .s (.k .i64 0), .s (.k .i64 0)]⟩, nz 3 z7_4]⟩ (aP g8 (aP g9 (aP g10 (aP g11 (aP g12 (aP g13 (aP g14 (aP g15 (aP g16 (aP g17 (aP g18 (aP g19 (aP g20 aN))))))))))))) ?_
           refine Vi ((decide ((57 : UInt8) < (l1.getD ((i8_2 + 1).toNat) 0)))) (fun g30 => ?_) (fun g30 => ?_)
           ·replace h := bif_t h g30
            refine Vrs hT [1] ⟨[(4, kP 0 0), (5, kE 31 (some 2))], [], [⟨.blk, 34, 1, 6, .c [.s (.k .i64 0), .s (.k .i64 0), .s (.k .i64 0), .s (.k .i64 0), .s (.k .i64 0), .s (.k .i64 0)]⟩]⟩ ?_
            refine Vc [] [0] (pReadTime_R (0, 0, 0, 0, 0, 0, (some 2))) (W_ret ?_)
            exact ⟨.inl rfl, by cases h; rfl⟩
           ·replace h := bif_f h g30
            refine W_skip ?_
            obtain ⟨g21, g22, g23, g24, g25, h⟩ := gd5 h
            obtain ⟨g26, g27, g28, h⟩ := gd3 h
            refine Vd hT fN 17 [] [(0, false), (1, false), (4, false), (6, false), (7, false), (8, false), (74, false), (90, false)] [] [0, 1, 4] ⟨[(0, kU l0), (1, kH 0), (4, kP 1 0), (6, kI i6_1), (7, kH 2), (8, kI i8_2)], [], [ob 5 l1, ⟨.blk, 34, 1, 6, .c [.s (.k .i64 0), .s (.k .i64 0), .s (.k .i64 0), .s (.k .i64 0), .s (.k .i64 0), .s (.k .i64 0)]⟩, nz 3 (z7_4 ++ [((((((l1.getD i8_2.toNat 0) - (48 : UInt8)).toNat : Nat) : Int) * 10) + ((((l1.getD ((i8_2 + 1).toNat) 0) - (48 : UInt8)).toNat : Nat) : Int))])]⟩ (aP g21 (aP g22 (aP g23 (aP g24 (aP g25 (aP g26 (aP g27 (aP g28 aN)))))))) ?_
            obtain ⟨g29, h⟩ := gd_some h
            refine Vg hT fN [] [] [0, 1, 2] (pReadTime_l1_E l0 l1 i6_1 (z7_4 ++ [((((((l1.getD i8_2.toNat 0) - (48 : UInt8)).toNat : Nat) : Int) * 10) + ((((l1.getD ((i8_2 + 1).toNat) 0) - (48 : UInt8)).toNat : Nat) : Int))]) (i8_2 + 2)) (aP g29 aN) ?_
            exact ⟨_, _, rfl, h⟩
       ·replace h := bif_f h g55
        refine Vc [] [1, 2] ⟨[(0, kU l0), (4, kP 0 0), (7, kH 1)], [], [⟨.blk, 34, 1, 6, .c [.s (.k .i64 0), .s (.k .i64 0), .s (.k .i64 0), .s (.k .i64 0), .s (.k .i64 0), .s (.k .i64 0)]⟩, nz 3 z7_4]⟩ (W_exit ?_)
        refine W_join (pReadTime_j2_P n l0 r) ?_ ?_
        ·rintro _ ⟨z7_5, rfl, h⟩
         unfold pReadTime_j2 at h
         obtain ⟨g31, g32, g33, g34, g35, h⟩ := gd5 h
         obtain ⟨g36, g37, g38, g39, g40, h⟩ := gd5 h
         obtain ⟨g41, g42, g43, g44, g45, h⟩ := gd5 h
         obtain ⟨g46, h⟩ := gd_some h
         refine Vds hT fN 25 [] [(0, false), (4, false), (10, false), (125, false)] [] [0, 2] ⟨[(0, kU l0), (4, kP 0 0), (10, kP 1 0)], [], [⟨.blk, 34, 1, 6, .c [.s (.k .i64 0), .s (.k .i64 0), .s (.k .i64 0), .s (.k .i64 0), .s (.k .i64 0), .s (.k .i64 0)]⟩, ⟨.blk, 34, 1, 6, .c [.s (.k .i64 (((z7_5.getD 0 0) * 100) + (z7_5.getD 1 0))), .s (.k .i64 (z7_5.getD 2 0)), .s (.k .i64 (z7_5.getD 3 0)), .s (.k .i64 (z7_5.getD 4 0)), .s (.k .i64 (z7_5.getD 5 0)), .s (.k .i64 (z7_5.getD 6 0))]⟩]⟩ (aP g31 (aP g32 (aP g33 (aP g34 (aP g35 (aP g36 (aP g37 (aP g38 (aP g39 (aP g40 (aP g41 (aP g42 (aP g43 (aP g44 (aP g45 (aP g46 aN)))))))))))))))) ?_
         refine W_seq ?_
         obtain ⟨r128_2, g47, h⟩ := bind_some' h
         refine Vgs hT (fT 1 (pTime_ok n r128_2) fN) [] [] [0, 1] ⟨[(0, kU l0), (4, kP 0 0), (10, kP 1 0), (11, kU r128_2.1), (13, kE 31 r128_2.2.2)], [], [⟨.blk, 34, 1, 6, .c [.s (.k .i64 0), .s (.k .i64 0), .s (.k .i64 0), .s (.k .i64 0), .s (.k .i64 0), .s (.k .i64 0)]⟩, ⟨.blk, 34, 1, 6, .c [.s (.k .i64 (((z7_5.getD 0 0) * 100) + (z7_5.getD 1 0))), .s (.k .i64 (z7_5.getD 2 0)), .s (.k .i64 (z7_5.getD 3 0)), .s (.k .i64 (z7_5.getD 4 0)), .s (.k .i64 (z7_5.getD 5 0)), .s (.k .i64 (z7_5.getD 6 0))]⟩]⟩ (aP g47 aN) ?_
         refine W_seq ?_
         rcases Bool.eq_false_or_eq_true (!((r128_2.2.2).isNone)) with g48 | g48
         ·replace h := bif_t h g48
          refine Vg hT fN [(2, true)] [] [0, 1] ⟨[(4, kP 0 0), (10, kP 1 0), (138, kB true)], [], [⟨.blk, 34, 1, 6, .c [.s (.k .i64 0), .s (.k .i64 0), .s (.k .i64 0), .s (.k .i64 0), .s (.k .i64 0), .s (.k .i64 0)]⟩, ⟨.blk, 34, 1, 6, .c [.s (.k .i64 (((z7_5.getD 0 0) * 100) + (z7_5.getD 1 0))), .s (.k .i64 (z7_5.getD 2 0)), .s (.k .i64 (z7_5.getD 3 0)), .s (.k .i64 (z7_5.getD 4 0)), .s (.k .i64 (z7_5.getD 5 0)), .s (.k .i64 (z7_5.getD 6 0))]⟩]⟩ (aP g48 aN) ?_
          refine Vi (true) (fun _ => ?_) (fun hb => by cases hb)
          refine Vrs hT [0] ⟨[(4, kP 0 0), (5, kE 31 (some 2))], [], [⟨.blk, 34, 1, 6, .c [.s (.k .i64 0), .s (.k .i64 0), .s (.k .i64 0), .s (.k .i64 0), .s (.k .i64 0), .s (.k .i64 0)]⟩]⟩ ?_
          refine Vc [] [0] (pReadTime_R (0, 0, 0, 0, 0, 0, (some 2))) (W_ret ?_)
          exact ⟨.inl rfl, by cases h; rfl⟩
         ·replace h := bif_f h g48
          refine Vg hT fN [(2, false)] [] [0, 1] ⟨[(4, kP 0 0), (10, kP 1 0), (138, kB (r128_2.1 != l0))], [], [⟨.blk, 34, 1, 6, .c [.s (.k .i64 0), .s (.k .i64 0), .s (.k .i64 0), .s (.k .i64 0), .s (.k .i64 0), .s (.k .i64 0)]⟩, ⟨.blk, 34, 1, 6, .c [.s (.k .i64 (((z7_5.getD 0 0) * 100) + (z7_5.getD 1 0))), .s (.k .i64 (z7_5.getD 2 0)), .s (.k .i64 (z7_5.getD 3 0)), .s (.k .i64 (z7_5.getD 4 0)), .s (.k .i64 (z7_5.getD 5 0)), .s (.k .i64 (z7_5.getD 6 0))]⟩]⟩ (aP g48 aN) ?_
          refine Vi ((r128_2.1 != l0)) (fun g49 => ?_) (fun g49 => ?_)
          ·replace h := bif_t h g49
           refine Vrs hT [0] ⟨[(4, kP 0 0), (5, kE 31 (some 2))], [], [⟨.blk, 34, 1, 6, .c [.s (.k .i64 0), .s (.k .i64 0), .s (.k .i64 0), .s (.k .i64 0), .s (.k .i64 0), .s (.k .i64 0)]⟩]⟩ ?_
           refine Vc [] [0] (pReadTime_R (0, 0, 0, 0, 0, 0, (some 2))) (W_ret ?_)
           exact ⟨.inl rfl, by cases h; rfl⟩
          ·replace h := bif_f h g49
           refine W_skip ?_
           refine Vrs hT [0] ⟨[(4, kP 0 0), (5, .c (.s (.v .nilIface)))], [], [⟨.blk, 34, 1, 6, .c [.s (.k .i64 (((z7_5.getD 0 0) * 100) + (z7_5.getD 1 0))), .s (.k .i64 (z7_5.getD 2 0)), .s (.k .i64 (z7_5.getD 3 0)), .s (.k .i64 (z7_5.getD 4 0)), .s (.k .i64 (z7_5.getD 5 0)), .s (.k .i64 (z7_5.getD 6 0))]⟩]⟩ ?_
           refine Vc [.er 5 31 .i64] [0] (pReadTime_R ((((z7_5.getD 0 0) * 100) + (z7_5.getD 1 0)), (z7_5.getD 2 0), (z7_5.getD 3 0), (z7_5.getD 4 0), (z7_5.getD 5 0), (z7_5.getD 6 0), none)) (W_ret ?_)
           exact ⟨.inl rfl, by cases h; rfl⟩
        ·refine W_seq ?_
         refine Vr hT [0, 1] ⟨[(0, kU l0), (4, kP 0 0), (7, kH 1), (93, kB (l0 == 23))], [], [⟨.blk, 34, 1, 6, .c [.s (.k .i64 0), .s (.k .i64 0), .s (.k .i64 0), .s (.k .i64 0), .s (.k .i64 0), .s (.k .i64 0)]⟩, nz 3 z7_4]⟩ ?_
         refine Vi ((l0 == 23)) (fun g54 => ?_) (fun g54 => ?_)
         ·replace h := bif_t h g54
          refine Vrs hT [0, 1] ⟨[(0, kU l0), (4, kP 0 0), (7, kH 1), (9, kI 20)], [], [⟨.blk, 34, 1, 6, .c [.s (.k .i64 0), .s (.k .i64 0), .s (.k .i64 0), .s (.k .i64 0), .s (.k .i64 0), .s (.k .i64 0)]⟩, nz 3 z7_4]⟩ ?_
          refine W_join (pReadTime_j3_P n l0 z7_4 r) ?_ ?_
          ·rintro _ ⟨i9_5, rfl, h⟩
           unfold pReadTime_j3 at h
           obtain ⟨g50, h⟩ := gd_some h
           refine Vg hT fN [] [] [0, 3] (pReadTime_j2_E l0 ([i9_5] ++ z7_4)) (aP g50 aN) ?_
           exact ⟨_, rfl, h⟩
          ·refine W_seq ?_
           obtain ⟨g51, g52, h⟩ := gd2 h
           refine Vg hT fN [] [] [0, 1] ⟨[(0, kU l0), (4, kP 0 0), (7, kH 1), (9, kI 20), (97, kB (decide ((50 : Int) ≤ (z7_4.getD 0 0))))], [], [⟨.blk, 34, 1, 6, .c [.s (.k .i64 0), .s (.k .i64 0), .s (.k .i64 0), .s (.k .i64 0), .s (.k .i64 0), .s (.k .i64 0)]⟩, nz 3 z7_4]⟩ (aP g51 (aP g52 aN)) ?_
           refine Vi ((decide ((50 : Int) ≤ (z7_4.getD 0 0)))) (fun g53 => ?_) (fun g53 => ?_)
           ·replace h := bif_t h g53
            refine Vr hT [0, 1] (pReadTime_j3_E l0 z7_4 19) ?_
            exact ⟨_, rfl, h⟩
           ·replace h := bif_f h g53
            refine Vc [] [0, 1] (pReadTime_j3_E l0 z7_4 20) (W_skip ?_)
            exact ⟨_, rfl, h⟩
         ·replace h := bif_f h g54
          refine Vc [] [0, 1] (pReadTime_j2_E l0 z7_4) (W_skip ?_)
          exact ⟨_, rfl, h⟩
  ·replace h := bif_f h g1
   rcases Bool.eq_false_or_eq_true (((l1.length : Nat) : Int) != i6_1) with g57 | g57
   ·replace h := bif_t h g57
    refine Vg hT fN [(2, false), (12, true)] [] [0, 1] ⟨[(0, kU l0), (1, kH 0), (4, kP 1 0), (6, kI i6_1), (35, kB true)], [], [ob 5 l1, ⟨.blk, 34, 1, 6, .c [.s (.k .i64 0), .s (.k .i64 0), .s (.k .i64 0), .s (.k .i64 0), .s (.k .i64 0), .s (.k .i64 0)]⟩]⟩ (aP g1 (aP g57 aN)) ?_
    refine Vi (true) (fun _ => ?_) (fun hb => by cases hb)
    refine Vrs hT [1] ⟨[(4, kP 0 0), (5, kE 31 (some 2))], [], [⟨.blk, 34, 1, 6, .c [.s (.k .i64 0), .s (.k .i64 0), .s (.k .i64 0), .s (.k .i64 0), .s (.k .i64 0), .s (.k .i64 0)]⟩]⟩ ?_
    refine Vc [] [0] (pReadTime_R (0, 0, 0, 0, 0, 0, (some 2))) (W_ret ?_)
    exact ⟨.inl rfl, by cases h; rfl⟩
   ·replace h := bif_f h g57
    obtain ⟨g58, g59, g60, h⟩ := gd3 h
    refine Vg hT fN [(2, false), (12, false)] [] [0, 1] ⟨[(0, kU l0), (1, kH 0), (4, kP 1 0), (6, kI i6_1), (35, kB ((l1.getD ((i6_1 - 1).toNat) 0) != 90))], [], [ob 5 l1, ⟨.blk, 34, 1, 6, .c [.s (.k .i64 0), .s (.k .i64 0), .s (.k .i64 0), .s (.k .i64 0), .s (.k .i64 0), .s (.k .i64 0)]⟩]⟩ (aP g1 (aP g57 (aP g58 (aP g59 (aP g60 aN))))) ?_
    refine Vi (((l1.getD ((i6_1 - 1).toNat) 0) != 90)) (fun g110 => ?_) (fun g110 => ?_)
    ·replace h := bif_t h g110
     refine Vrs hT [1] ⟨[(4, kP 0 0), (5, kE 31 (some 2))], [], [⟨.blk, 34, 1, 6, .c [.s (.k .i64 0), .s (.k .i64 0), .s (.k .i64 0), .s (.k .i64 0), .s (.k .i64 0), .s (.k .i64 0)]⟩]⟩ ?_
     refine Vc [] [0] (pReadTime_R (0, 0, 0, 0, 0, 0, (some 2))) (W_ret ?_)
     exact ⟨.inl rfl, by cases h; rfl⟩
    ·replace h := bif_f h g110
     refine W_skip ?_
     refine Vrs hT [0, 1] ⟨[(0, kU l0), (1, kH 0), (4, kP 1 0), (6, kI i6_1), (7, .c (.nils))], [], [ob 5 l1, ⟨.blk, 34, 1, 6, .c [.s (.k .i64 0), .s (.k .i64 0), .s (.k .i64 0), .s (.k .i64 0), .s (.k .i64 0), .s (.k .i64 0)]⟩]⟩ ?_
     refine W_seq ?_
     refine Vrs hT [0, 1] ⟨[(0, kU l0), (1, kH 0), (4, kP 1 0), (6, kI i6_1), (7, .c (.nils)), (8, kI 0)], [], [ob 5 l1, ⟨.blk, 34, 1, 6, .c [.s (.k .i64 0), .s (.k .i64 0), .s (.k .i64 0), .s (.k .i64 0), .s (.k .i64 0), .s (.k .i64 0)]⟩]⟩ ?_
     refine W_block ?_
     refine Vc [.nil 7 3 1 (.z [])] [0, 1, 2] (pReadTime_l2_E l0 l1 i6_1 [] 0) (W_lp ((pReadTime_l2_P n l0 l1 i6_1 r)) n ⟨_, _, rfl, h⟩ ?_)
     rintro fu_l2 _ ⟨z7_6, i8_3, rfl, h⟩
     cases fu_l2 with
     | zero => cases h
     | succ fu_l2 =>
      refine ⟨fu_l2, rfl, ?_⟩
      rw [pReadTime_l2] at h
      refine W_seq ?_
      obtain ⟨g61, h⟩ := gd_some h
      refine Vgs hT fN [] [] [0, 1, 2] ⟨[(0, kU l0), (1, kH 0), (4, kP 1 0), (6, kI i6_1), (7, kH 2), (8, kI i8_3), (41, kB (decide (i8_3 < (i6_1 - 1))))], [], [ob 5 l1, ⟨.blk, 34, 1, 6, .c [.s (.k .i64 0), .s (.k .i64 0), .s (.k .i64 0), .s (.k .i64 0), .s (.k .i64 0), .s (.k .i64 0)]⟩, nz 3 z7_6]⟩ (aP g61 aN) ?_
      refine Vi ((decide (i8_3 < (i6_1 - 1)))) (fun g109 => ?_) (fun g109 => ?_)
      ·replace h := bif_t h g109
       refine Vc [] [0, 1, 2] ⟨[(0, kU l0), (1, kH 0), (4, kP 1 0), (6, kI i6_1), (7, kH 2), (8, kI i8_3)], [], [ob 5 l1, ⟨.blk, 34, 1, 6, .c [.s (.k .i64 0), .s (.k .i64 0), .s (.k .i64 0), .s (.k .i64 0), .s (.k .i64 0), .s (.k .i64 0)]⟩, nz 3 z7_6]⟩ (W_skip ?_)
       refine W_seq ?_
       refine W_block ?_
       refine W_seq ?_
       refine W_seq ?_
       obtain ⟨g62, g63, h⟩ := gd2 h
       rcases Bool.eq_false_or_eq_true (decide ((l1.getD i8_3.toNat 0) < (48 : UInt8))) with g64 | g64
       ·replace h := bif_t h g64
        refine Vg hT fN [(5, true)] [] [0, 1, 2] ⟨[(0, kU l0), (1, kH 0), (4, kP 1 0), (6, kI i6_1), (7, kH 2), (8, kI i8_3), (71, kB true)], [], [ob 5 l1, ⟨.blk, 34, 1, 6, .c [.s (.k .i64 0), .s (.k .i64 0), .s (.k .i64 0), .s (.k .i64 0), .s (.k .i64 0), .s (.k .i64 0)]⟩, nz 3 z7_6]⟩ (aP g62 (aP g63 (aP g64 aN))) ?_
        refine Vi (true) (fun _ => ?_) (fun hb => by cases hb)
        refine Vrs hT [1] ⟨[(4, kP 0 0), (5, kE 31 (some 2))], [], [⟨.blk, 34, 1, 6, .c [.s (.k .i64 0), .s (.k .i64 0), .s (.k .i64 0), .s (.k .i64 0), .s (.k .i64 0), .s (.k .i64 0)]⟩]⟩ ?_
        refine Vc [] [0] (pReadTime_R (0, 0, 0, 0, 0, 0, (some 2))) (W_ret ?_)
        exact ⟨.inl rfl, by cases h; rfl⟩
       ·replace h := bif_f h g64
        obtain ⟨g65, g66, h⟩ := gd2 h
        rcases Bool.eq_false_or_eq_true (decide ((57 : UInt8) < (l1.getD i8_3.toNat 0))) with g67 | g67
        ·replace h := bif_t h g67
         refine Vg hT fN [(5, false), (12, true)] [] [0, 1, 2] ⟨[(0, kU l0), (1, kH 0), (4, kP 1 0), (6, kI i6_1), (7, kH 2), (8, kI i8_3), (71, kB true)], [], [ob 5 l1, ⟨.blk, 34, 1, 6, .c [.s (.k .i64 0), .s (.k .i64 0), .s (.k .i64 0), .s (.k .i64 0), .s (.k .i64 0), .s (.k .i64 0)]⟩, nz 3 z7_6]⟩ (aP g62 (aP g63 (aP g64 (aP g65 (aP g66 (aP g67 aN)))))) ?_
         refine Vi (true) (fun _ => ?_) (fun hb => by cases hb)
         refine Vrs hT [1] ⟨[(4, kP 0 0), (5, kE 31 (some 2))], [], [⟨.blk, 34, 1, 6, .c [.s (.k .i64 0), .s (.k .i64 0), .s (.k .i64 0), .s (.k .i64 0), .s (.k .i64 0), .s (.k .i64 0)]⟩]⟩ ?_
         refine Vc [] [0] (pReadTime_R (0, 0, 0, 0, 0, 0, (some 2))) (W_ret ?_)
         exact ⟨.inl rfl, by cases h; rfl⟩
        ·replace h := bif_f h g67
         obtain ⟨g68, g69, g70, h⟩ := gd3 h
         rcases Bool.eq_false_or_eq_true (decide ((l1.getD ((i8_3 + 1).toNat) 0) < (48 : UInt8))) with g71 | g71
         ·replace h := bif_t h g71
          refine Vg hT fN [(5, false), (12, false), (20, true)] [] [0, 1, 2] ⟨[(0, kU l0), (1, kH 0), (4, kP 1 0), (6, kI i6_1), (7, kH 2), (8, kI i8_3), (71, kB true)], [], [ob 5 l1, ⟨.blk, 34, 1, 6, .c [.s (.k .i64 0), .s (.k .i64 0), .s (.k .i64 0), .s (.k .i64 0), .s (.k .i64 0), .s (.k .i64 0)]⟩, nz 3 z7_6]⟩ (aP g62 (aP g63 (aP g64 (aP g65 (aP g66 (aP g67 (aP g68 (aP g69 (aP g70 (aP g71 aN)))))))))) ?_
          refine Vi (true) (fun _ => ?_) (fun hb => by cases hb)
          refine Vrs hT [1] ⟨[(4, kP 0 0), (5, kE 31 (some 2))], [], [⟨.blk, 34, 1, 6, .c [.s (.k .i64 0), .s (.k .i64 0), .s (.k .i64 0), .s (.k .i64 0), .s (.k .i64 0), .s (.k .i64 0)]⟩]⟩ ?_
          refine Vc [] [0] (pReadTime_R (0, 0, 0, 0, 0, 0, (some 2))) (W_ret ?_)
          exact ⟨.inl rfl, by cases h; rfl⟩
         ·replace h := bif_f h g71
          obtain ⟨g72, g73, g74, h⟩ := gd3 h
          refine Vg hT fN [(5, false), (12, false), (20, false)] [] [0, 1, 2] ⟨[(0, kU l0), (1, kH 0), (4, kP 1 0), (6, kI i6_1), (7, kH 2), (8, kI i8_3), (71, kB (decide ((57 : UInt8) < (l1.getD ((i8_3 + 1).toNat) 0))))], [], [ob 5 l1, ⟨.blk, 34, 1, 6, .c [.s (.k .i64 0), .s (.k .i64 0), .s (.k .i64 0), .s (.k .i64 0), .s (.k .i64 0), .s (.k .i64 0)]⟩, nz 3 z7_6]⟩ (aP g62 (aP g63 (aP g64 (aP g65 (aP g66 (aP g67 (aP g68 (aP g69 (aP g70 (aP g71 (aP g72 (aP g73 (aP g74 aN))))))))))))) ?_
          refine Vi ((decide ((57 : UInt8) < (l1.getD ((i8_3 + 1).toNat) 0)))) (fun g84 => ?_) (fun g84 => ?_)
          ·replace h := bif_t h g84
           refine Vrs hT [1] ⟨[(4, kP 0 0), (5, kE 31 (some 2))], [], [⟨.blk, 34, 1, 6, .c [.s (.k .i64 0), .s (.k .i64 0), .s (.k .i64 0), .s (.k .i64 0), .s (.k .i64 0), .s (.k .i64 0)]⟩]⟩ ?_
           refine Vc [] [0] (pReadTime_R (0, 0, 0, 0, 0, 0, (some 2))) (W_ret ?_)
           exact ⟨.inl rfl, by cases h; rfl⟩
          ·replace h := bif_f h g84
           refine W_skip ?_
           obtain ⟨g75, g76, g77, g78, g79, h⟩ := gd5 h
           obtain ⟨g80, g81, g82, h⟩ := gd3 h
           refine Vd hT fN 17 [] [(0, false), (1, false), (4, false), (6, false), (7, false), (8, false), (74, false), (90, false)] [] [0, 1, 4] ⟨[(0, kU l0), (1, kH 0), (4, kP 1 0), (6, kI i6_1), (7, kH 2), (8, kI i8_3)], [], [ob 5 l1, ⟨.blk, 34, 1, 6, .c [.s (.k .i64 0), .s (.k .i64 0), .s (.k .i64 0), .s (.k .i64 0), .s (.k .i64 0), .s (.k .i64 0)]⟩, nz 3 (z7_6 ++ [((((((l1.getD i8_3.toNat 0) - (48 : UInt8)).toNat : Nat) : Int) * 10) + ((((l1.getD ((i8_3 + 1).toNat) 0) - (48 : UInt8)).toNat : Nat) : Int))])]⟩ (aP g75 (aP g76 (aP g77 (aP g78 (aP g79 (aP g80 (aP g81 (aP g82 aN)))))))) ?_
           obtain ⟨g83, h⟩ := gd_some h
           refine Vg hT fN [] [] [0, 1, 2] (pReadTime_l2_E l0 l1 i6_1 (z7_6 ++ [((((((l1.getD i8_3.toNat 0) - (48 : UInt8)).toNat : Nat) : Int) * 10) + ((((l1.getD ((i8_3 + 1).toNat) 0) - (48 : UInt8)).toNat : Nat) : Int))]) (i8_3 + 2)) (aP g83 aN) ?_
           exact ⟨_, _, rfl, h⟩
      ·replace h := bif_f h g109
       refine Vc [] [1, 2] ⟨[(0, kU l0), (4, kP 0 0), (7, kH 1)], [], [⟨.blk, 34, 1, 6, .c [.s (.k .i64 0), .s (.k .i64 0), .s (.k .i64 0), .s (.k .i64 0), .s (.k .i64 0), .s (.k .i64 0)]⟩, nz 3 z7_6]⟩ (W_exit ?_)
       refine W_join (pReadTime_j4_P n l0 r) ?_ ?_
       ·rintro _ ⟨z7_7, rfl, h⟩
        unfold pReadTime_j4 at h
        obtain ⟨g85, g86, g87, g88, g89, h⟩ := gd5 h
        obtain ⟨g90, g91, g92, g93, g94, h⟩ := gd5 h
        obtain ⟨g95, g96, g97, g98, g99, h⟩ := gd5 h
        obtain ⟨g100, h⟩ := gd_some h
        refine Vds hT fN 25 [] [(0, false), (4, false), (10, false), (125, false)] [] [0, 2] ⟨[(0, kU l0), (4, kP 0 0), (10, kP 1 0)], [], [⟨.blk, 34, 1, 6, .c [.s (.k .i64 0), .s (.k .i64 0), .s (.k .i64 0), .s (.k .i64 0), .s (.k .i64 0), .s (.k .i64 0)]⟩, ⟨.blk, 34, 1, 6, .c [.s (.k .i64 (((z7_7.getD 0 0) * 100) + (z7_7.getD 1 0))), .s (.k .i64 (z7_7.getD 2 0)), .s (.k .i64 (z7_7.getD 3 0)), .s (.k .i64 (z7_7.getD 4 0)), .s (.k .i64 (z7_7.getD 5 0)), .s (.k .i64 (z7_7.getD 6 0))]⟩]⟩ (aP g85 (aP g86 (aP g87 (aP g88 (aP g89 (aP g90 (aP g91 (aP g92 (aP g93 (aP g94 (aP g95 (aP g96 (aP g97 (aP g98 (aP g99 (aP g100 aN)))))))))))))))) ?_
        refine W_seq ?_
        obtain ⟨r128_3, g101, h⟩ := bind_some' h
        refine Vgs hT (fT 1 (pTime_ok n r128_3) fN) [] [] [0, 1] ⟨[(0, kU l0), (4, kP 0 0), (10, kP 1 0), (11, kU r128_3.1), (13, kE 31 r128_3.2.2)], [], [⟨.blk, 34, 1, 6, .c [.s (.k .i64 0), .s (.k .i64 0), .s (.k .i64 0), .s (.k .i64 0), .s (.k .i64 0), .s (.k .i64 0)]⟩, ⟨.blk, 34, 1, 6, .c [.s (.k .i64 (((z7_7.getD 0 0) * 100) + (z7_7.getD 1 0))), .s (.k .i64 (z7_7.getD 2 0)), .s (.k .i64 (z7_7.getD 3 0)), .s (.k .i64 (z7_7.getD 4 0)), .s (.k .i64 (z7_7.getD 5 0)), .s (.k .i64 (z7_7.getD 6 0))]⟩]⟩ (aP g101 aN) ?_
        refine W_seq ?_
        rcases Bool.eq_false_or_eq_true (!((r128_3.2.2).isNone)) with g102 | g102
        ·replace h := bif_t h g102
         refine Vg hT fN [(2, true)] [] [0, 1] ⟨[(4, kP 0 0), (10, kP 1 0), (138, kB true)], [], [⟨.blk, 34, 1, 6, .c [.s (.k .i64 0), .s (.k .i64 0), .s (.k .i64 0), .s (.k .i64 0), .s (.k .i64 0), .s (.k .i64 0)]⟩, ⟨.blk, 34, 1, 6, .c [.s (.k .i64 (((z7_7.getD 0 0) * 100) + (z7_7.getD 1 0))), .s (.k .i64 (z7_7.getD 2 0)), .s (.k .i64 (z7_7.getD 3 0)), .s (.k .i64 (z7_7.getD 4 0)), .s (.k .i64 (z7_7.getD 5 0)), .s (.k .i64 (z7_7.getD 6 0))]⟩]⟩ (aP g102 aN) ?_
         refine Vi (true) (fun _ => ?_) (fun hb => by cases hb)
         refine Vrs hT [0] ⟨[(4, kP 0 0), (5, kE 31 (some 2))], [], [⟨.blk, 34, 1, 6, .c [.s (.k .i64 0), .s (.k .i64 0), .s (.k .i64 0), .s (.k .i64 0), .s (.k .i64 0), .s (.k .i64 0)]⟩]⟩ ?_
         refine Vc [] [0] (pReadTime_R (0, 0, 0, 0, 0, 0, (some 2))) (W_ret ?_)
         exact ⟨.inl rfl, by cases h; rfl⟩
        ·replace h := bif_f h g102
         refine Vg hT fN [(2, false)] [] [0, 1] ⟨[(4, kP 0 0), (10, kP 1 0), (138, kB (r128_3.1 != l0))], [], [⟨.blk, 34, 1, 6, .c [.s (.k .i64 0), .s (.k .i64 0), .s (.k .i64 0), .s (.k .i64 0), .s (.k .i64 0), .s (.k .i64 0)]⟩, ⟨.blk, 34, 1, 6, .c [.s (.k .i64 (((z7_7.getD 0 0) * 100) + (z7_7.getD 1 0))), .s (.k .i64 (z7_7.getD 2 0)), .s (.k .i64 (z7_7.getD 3 0)), .s (.k .i64 (z7_7.getD 4 0)), .s (.k .i64 (z7_7.getD 5 0)), .s (.k .i64 (z7_7.getD 6 0))]⟩]⟩ (aP g102 aN) ?_
         refine Vi ((r128_3.1 != l0)) (fun g103 => ?_) (fun g103 => ?_)
         ·replace h := bif_t h g103
          refine Vrs hT [0] ⟨[(4, kP 0 0), (5, kE 31 (some 2))], [], [⟨.blk, 34, 1, 6, .c [.s (.k .i64 0), .s (.k .i64 0), .s (.k .i64 0), .s (.k .i64 0), .s (.k .i64 0), .s (.k .i64 0)]⟩]⟩ ?_
          refine Vc [] [0] (pReadTime_R (0, 0, 0, 0, 0, 0, (some 2))) (W_ret ?_)
          exact ⟨.inl rfl, by cases h; rfl⟩
         ·replace h := bif_f h g103
          refine W_skip ?_
          refine Vrs hT [0] ⟨[(4, kP 0 0), (5, .c (.s (.v .nilIface)))], [], [⟨.blk, 34, 1, 6, .c [.s (.k .i64 (((z7_7.getD 0 0) * 100) + (z7_7.getD 1 0))), .s (.k .i64 (z7_7.getD 2 0)), .s (.k .i64 (z7_7.getD 3 0)), .s (.k .i64 (z7_7.getD 4 0)), .s (.k .i64 (z7_7.getD 5 0)), .s (.k .i64 (z7_7.getD 6 0))]⟩]⟩ ?_
          refine Vc [.er 5 31 .i64] [0] (pReadTime_R ((((z7_7.getD 0 0) * 100) + (z7_7.getD 1 0)), (z7_7.getD 2 0), (z7_7.getD 3 0), (z7_7.getD 4 0), (z7_7.getD 5 0), (z7_7.getD 6 0), none)) (W_ret ?_)
          exact ⟨.inl rfl, by cases h; rfl⟩
       ·refine W_seq ?_
        refine Vr hT [0, 1] ⟨[(0, kU l0), (4, kP 0 0), (7, kH 1), (93, kB (l0 == 23))], [], [⟨.blk, 34, 1, 6, .c [.s (.k .i64 0), .s (.k .i64 0), .s (.k .i64 0), .s (.k .i64 0), .s (.k .i64 0), .s (.k .i64 0)]⟩, nz 3 z7_6]⟩ ?_
        refine Vi ((l0 == 23)) (fun g108 => ?_) (fun g108 => ?_)
        ·replace h := bif_t h g108
         refine Vrs hT [0, 1] ⟨[(0, kU l0), (4, kP 0 0), (7, kH 1), (9, kI 20)], [], [⟨.blk, 34, 1, 6, .c [.s (.k .i64 0), .s (.k .i64 0), .s (.k .i64 0), .s (.k .i64 0), .s (.k .i64 0), .s (.k .i64 0)]⟩, nz 3 z7_6]⟩ ?_
         refine W_join (pReadTime_j5_P n l0 z7_6 r) ?_ ?_
         ·rintro _ ⟨i9_7, rfl, h⟩
          unfold pReadTime_j5 at h
          obtain ⟨g104, h⟩ := gd_some h
          refine Vg hT fN [] [] [0, 3] (pReadTime_j4_E l0 ([i9_7] ++ z7_6)) (aP g104 aN) ?_
          exact ⟨_, rfl, h⟩
         ·refine W_seq ?_
          obtain ⟨g105, g106, h⟩ := gd2 h
          refine Vg hT fN [] [] [0, 1] ⟨[(0, kU l0), (4, kP 0 0), (7, kH 1), (9, kI 20), (97, kB (decide ((50 : Int) ≤ (z7_6.getD 0 0))))], [], [⟨.blk, 34, 1, 6, .c [.s (.k .i64 0), .s (.k .i64 0), .s (.k .i64 0), .s (.k .i64 0), .s (.k .i64 0), .s (.k .i64 0)]⟩, nz 3 z7_6]⟩ (aP g105 (aP g106 aN)) ?_
          refine Vi ((decide ((50 : Int) ≤ (z7_6.getD 0 0)))) (fun g107 => ?_) (fun g107 => ?_)
          ·replace h := bif_t h g107
           refine Vr hT [0, 1] (pReadTime_j5_E l0 z7_6 19) ?_
           exact ⟨_, rfl, h⟩
          ·replace h := bif_f h g107
           refine Vc [] [0, 1] (pReadTime_j5_E l0 z7_6 20) (W_skip ?_)
           exact ⟨_, rfl, h⟩
        ·replace h := bif_f h g108
         refine Vc [] [0, 1] (pReadTime_j4_E l0 z7_6) (W_skip ?_)
         exact ⟨_, rfl, h⟩
 ·refine W_seq ?_
  refine Vr hT [0, 1] ⟨[(0, kU l0), (1, kH 0), (4, kP 1 0), (6, kI 13), (15, kB (l0 == 24))], [], [ob 5 l1, ⟨.blk, 34, 1, 6, .c [.s (.k .i64 0), .s (.k .i64 0), .s (.k .i64 0), .s (.k .i64 0), .s (.k .i64 0), .s (.k .i64 0)]⟩]⟩ ?_
  refine Vi ((l0 == 24)) (fun g111 => ?_) (fun g111 => ?_)
  ·replace h := bif_t h g111
   refine Vr hT [0, 1] (pReadTime_j1_E l0 l1 15) ?_
   exact ⟨_, rfl, h⟩
  ·replace h := bif_f h g111
   refine Vc [] [0, 1] (pReadTime_j1_E l0 l1 13) (W_skip ?_)
   exact ⟨_, rfl, h⟩
end Go.Proofs.Ytliilihbnhdemaa
end
