import Derived.Test.YtliilihbnhdemaaZ1
import Derived.Test.YtliilihbnhdemaaProg
import Derived.Shelf.RegionOpenPlain
import Derived.WalkKit
import Derived.Deep.LoopGhost
import Derived.Lib.Walk
import Derived.Sort.WalkB12
import Derived.Lib.SlicesMore
import Derived.Lib.Strings
import Derived.Lib.Bytealg
import Derived.BigCall
import Derived.Lib.OthersKept
import Derived.Lib.TrimU
import Derived.Lib.DecodeN
import Derived.Deep.Draws
import Derived.Shelf.Abstract
import Derived.Lib.MakeNoZero
import Derived.Laws.Externs
set_option linter.unusedVariables false
set_option linter.unusedSimpArgs false
section
namespace Go.Sx
open Go.RowKit Go.Ch
abbrev kI (n : Int) : AV := .c (.s (.k .i64 n))
abbrev kB (b : Bool) : AV := .c (.s (.b b))
abbrev kH (i : Nat) : AV := .c (.wh i)
abbrev kU (x : UInt8) : AV := .c (.s (.u8 x))
abbrev kX (x : UInt32) : AV := .c (.s (.u32 x))
abbrev kT (l : List UInt8) : AV := .c (.s (.str l))
abbrev kE (t : TypeId) (o : Option Int) : AV := .c (.s (.er t .i64 o))
abbrev kP (i off : Nat) : AV := .c (.pt i off)
abbrev ob (e : TypeId) (l : List UInt8) : Oj := ⟨.ro false, e, 1, l.length, .b l⟩
abbrev ow (e : TypeId) (l : List UInt32) : Oj := ⟨.ro false, e, 1, l.length, .w l⟩
abbrev nb (e : TypeId) (l : List UInt8) : Oj := ⟨.row, e, 1, l.length, .b l⟩
abbrev nw (e : TypeId) (l : List UInt32) : Oj := ⟨.row, e, 1, l.length, .w l⟩
theorem aP {p : Prop} {ps : List Prop} (h : p) (hs : allP ps) : allP (p :: ps) := allP_cons.2 ⟨h, hs⟩
theorem aN : allP [] := allP_nil
section
variable {P : Program} {T : Tab} {ρ : Pls} {w w' : World} {bs : Bs} {w0 : World} {s : S} {a : Act} {N : Nat} {ft : Nat → FT} {Q : Exit → S → Prop}
theorem fT (k : Nat) {J : World → Prop} {f : FuncId} {F : Ct} {l : List (Nat × FuncId × Ct)} (h : FnOk P Tr f F) (hl : ∀ i, FtOk P J (ftL l i)) : ∀ i, FtOk P J (ftL ((k, f, F) :: l) i) := ftL_cons h (fun _ _ => True.intro) hl
theorem fN {J : World → Prop} : ∀ i, FtOk P J (ftL [] i) := ftL_nil
theorem Vr (hT : TabOk P T) {id : Nat} {l : List Oper} (objs : List Nat) (s' : S) (hQ : Q .normal s') (h : reg T (ftL []) N [] [] (s'.fr.map (·.1)) objs l s = some ([], s') := by kernel_rfl) :
  W P N bs w0 (.region id l.toArray false) s Q := W_reg hT ftL_nil [] [] _ objs h allP_nil hQ
theorem Vrs (hT : TabOk P T) {id : Nat} {l : List Oper} {y : Code} (objs : List Nat) (s' : S) (hQ : W P N bs w0 y s' Q) (h : reg T (ftL []) N [] [] (s'.fr.map (·.1)) objs l s = some ([], s') := by kernel_rfl) :
  W P N bs w0 (.seq (.region id l.toArray false) y) s Q := W_seq (Vr hT objs s' hQ h)
theorem Vg (hT : TabOk P T) (hF : ∀ i, FtOk P (Kp bs w0) (ft i)) {id : Nat} {l : List Oper} (asm : List (Nat × Bool)) (cs : List Co) (objs : List Nat) {g : List Prop} (s' : S) (hg : allP g) (hQ : Q .normal s') (h : reg T ft N asm cs (s'.fr.map (·.1)) objs l s = some (g, s') := by kernel_rfl) :
  W P N bs w0 (.region id l.toArray false) s Q := W_reg hT hF asm cs _ objs h hg hQ
theorem Vgs (hT : TabOk P T) (hF : ∀ i, FtOk P (Kp bs w0) (ft i)) {id : Nat} {l : List Oper} {y : Code} (asm : List (Nat × Bool)) (cs : List Co) (objs : List Nat) {g : List Prop} (s' : S) (hg : allP g) (hQ : W P N bs w0 y s' Q) (h : reg T ft N asm cs (s'.fr.map (·.1)) objs l s = some (g, s') := by kernel_rfl) :
  W P N bs w0 (.seq (.region id l.toArray false) y) s Q := W_seq (Vg hT hF asm cs objs s' hg hQ h)
theorem Vd (hT : TabOk P T) (hF : ∀ i, FtOk P (Kp bs w0) (ft i)) {id : Nat} {l : List Oper} (k : Nat) (asm ks : List (Nat × Bool)) (cs : List Co) (objs : List Nat) {g : List Prop} (s' : S) (hg : allP g) (hQ : Q .normal s')
  (hm : P.follows .mixedOrders = true := by kernel_rfl) (hr : (okRegion l.toArray k N && decide (k ≤ l.length)) = true := by kernel_rfl) (h : regD T ft N k asm ks cs (s'.fr.map (·.1)) objs l s = some (g, s') := by kernel_rfl) :
  W P N bs w0 (.region id l.toArray true) s Q := W_regD hT hF hm k asm ks cs _ objs hr h hg hQ
theorem Vds (hT : TabOk P T) (hF : ∀ i, FtOk P (Kp bs w0) (ft i)) {id : Nat} {l : List Oper} {y : Code} (k : Nat) (asm ks : List (Nat × Bool)) (cs : List Co) (objs : List Nat) {g : List Prop} (s' : S) (hg : allP g) (hQ : W P N bs w0 y s' Q)
  (hm : P.follows .mixedOrders = true := by kernel_rfl) (hr : (okRegion l.toArray k N && decide (k ≤ l.length)) = true := by kernel_rfl) (h : regD T ft N k asm ks cs (s'.fr.map (·.1)) objs l s = some (g, s') := by kernel_rfl) :
  W P N bs w0 (.seq (.region id l.toArray true) y) s Q := W_seq (Vd hT hF k asm ks cs objs s' hg hQ hm hr h)
theorem Vc {c : Code} (cs : List Co) (objs : List Nat) (s' : S) (hW : W P N bs w0 c s' Q) (h : after cs (s'.fr.map (·.1)) objs s = some s' := by kernel_rfl) : W P N bs w0 c s Q := W_co cs _ objs h hW
theorem Vi {t : Nat} {x y : Code} (b : Bool) (hx : b = true → W P N bs w0 x s Q) (hy : b = false → W P N bs w0 y s Q) (hb : s.fr.lookup t = some (.c (.s (.b b))) := by kernel_rfl) : W P N bs w0 (.cond (.tmp t) x y) s Q := W_cond hb hx hy
end
theorem gd2 {α : Type} {p q : Prop} [Decidable p] [Decidable q] {x : Option α} {r : α} (h : gd p (gd q x) = some r) : p ∧ q ∧ x = some r := ⟨(gd_some h).1, gd_some (gd_some h).2⟩
theorem gd3 {α : Type} {p q p3 : Prop} [Decidable p] [Decidable q] [Decidable p3] {x : Option α} {r : α} (h : gd p (gd q (gd p3 x)) = some r) : p ∧ q ∧ p3 ∧ x = some r := ⟨(gd_some h).1, gd2 (gd_some h).2⟩
theorem gd4 {α : Type} {p q p3 p4 : Prop} [Decidable p] [Decidable q] [Decidable p3] [Decidable p4] {x : Option α} {r : α} (h : gd p (gd q (gd p3 (gd p4 x))) = some r) : p ∧ q ∧ p3 ∧ p4 ∧ x = some r := ⟨(gd_some h).1, gd3 (gd_some h).2⟩
theorem gd5 {α : Type} {p q p3 p4 p5 : Prop} [Decidable p] [Decidable q] [Decidable p3] [Decidable p4] [Decidable p5] {x : Option α} {r : α} (h : gd p (gd q (gd p3 (gd p4 (gd p5 x)))) = some r) : p ∧ q ∧ p3 ∧ p4 ∧ p5 ∧ x = some r := ⟨(gd_some h).1, gd4 (gd_some h).2⟩
def ct0 (k : Hp → List Prop × AV × List Oj) : Ct := fun args H => match args with | [] => some (k H) | _ => none
def ctc {α : Type} (rd : Hp → AV → Option α) (k : AV → α → Ct) : Ct := fun args H => match args with | x :: xs => (match rd H x with | some a => k x a xs H | none => none) | [] => none
theorem ct0_inv {k : Hp → List Prop × AV × List Oj} {args : List AV} {H : Hp} {g : List Prop} {av : AV} {os : List Oj} (h : ct0 k args H = some (g, av, os)) : args = [] ∧ (k H).1 = g ∧ (k H).2.1 = av ∧ (k H).2.2 = os := by
 unfold ct0 at h
 split at h
 ·injection h with h; rw [h]; exact ⟨rfl, rfl, rfl, rfl⟩
 ·cases h
theorem ctc_inv {α : Type} {rd : Hp → AV → Option α} {k : AV → α → Ct} {args : List AV} {H : Hp} {y : List Prop × AV × List Oj} (h : ctc rd k args H = some y) : ∃ x xs a, args = x :: xs ∧ rd H x = some a ∧ k x a xs H = some y := by
 cases args with
 | nil => cases h
 | cons x xs =>
  simp only [ctc] at h
  split at h
  ·rename_i a ha; exact ⟨x, xs, a, rfl, ha, h⟩
  ·cases h
end Go.Sx
end
section
namespace Go.Sx
open Go.RowKit Go.Ch
structure Rd (α : Type) where
 rd : Hp → AV → Option α
 op : Nat → α → AV
 os : α → List Oj
 pr : α → Prop
 ok : ∀ {ρ : Pls} {w : World} {H : Hp} {x : AV} {a : α} {v : Value}, HpR ρ w H → rd H x = some a → avR ρ x v → pr a ∧ ∃ ps : List Pl, F2 (fun o p => ∀ ρ, objR ρ w p o) (os a) ps ∧ allRo (os a) = true ∧ ∀ (k : Nat) (ρ' : Pls), (∀ j p, ps[j]? = some p → ρ' (k + j) = p) → avR ρ' (op k a) v
structure RdL (α : Type) where
 n : Nat
 rd : Hp → List Cl → Option α
 op : Nat → α → List Cl
 os : α → List Oj
 ok : ∀ {ρ : Pls} {w : World} {H : Hp} {x : List Cl} {a : α} {v : List Value}, HpR ρ w H → rd H x = some a → F2 (clR ρ) x v → ∃ ps : List Pl, F2 (fun o p => ∀ ρ, objR ρ w p o) (os a) ps ∧ allRo (os a) = true ∧ ∀ (k : Nat) (ρ' : Pls), (∀ j p, ps[j]? = some p → ρ' (k + j) = p) → F2 (clR ρ') (op k a) v
theorem allRo_append : ∀ {a b : Hp}, allRo a = true → allRo b = true → allRo (a ++ b) = true
 | [], _, _, hb => hb
 | x :: l, b, ha, hb => by
  simp only [allRo, Bool.and_eq_true, List.cons_append] at ha ⊢
  exact ⟨ha.1, allRo_append ha.2 hb⟩
abbrev rB (e : TypeId) : Rd (List UInt8) := ⟨aB, fun k _ => kH k, fun l => [ob e l], fun _ => True, fun hp h hv => by
 obtain ⟨p, s, o⟩ := aB_ok hp h hv e
 exact ⟨True.intro, [p], F2.cons o F2.nil, rfl, fun k ρ' hk => by have e := hk 0 p rfl; rw [Nat.add_zero] at e; show _ = _; rw [e]; exact s⟩⟩
abbrev rW (e : TypeId) : Rd (List UInt32) := ⟨aW, fun k _ => kH k, fun l => [ow e l], fun _ => True, fun hp h hv => by
 obtain ⟨p, s, o⟩ := aW_ok hp h hv e
 exact ⟨True.intro, [p], F2.cons o F2.nil, rfl, fun k ρ' hk => by have e := hk 0 p rfl; rw [Nat.add_zero] at e; show _ = _; rw [e]; exact s⟩⟩
abbrev rI : Rd Int := ⟨fun _ => aI, fun _ n => kI n, fun _ => [], fun _ => True, fun _ h hv => ⟨True.intro, [], F2.nil, rfl, fun _ _ _ => aI_ok h hv⟩⟩
abbrev rU8 : Rd UInt8 := ⟨fun _ => aU8, fun _ n => kU n, fun _ => [], fun _ => True, fun _ h hv => ⟨True.intro, [], F2.nil, rfl, fun _ _ _ => aU8_ok h hv⟩⟩
abbrev rS : Rd (List UInt8) := ⟨fun _ => aS, fun _ n => kT n, fun _ => [], fun _ => True, fun _ h hv => ⟨True.intro, [], F2.nil, rfl, fun _ _ _ => aS_ok h hv⟩⟩
structure RdC (α : Type) where
 r : Rd α
 cl : Nat → α → Cl
 eq : ∀ k a, r.op k a = .c (cl k a)
abbrev cI : RdC Int := ⟨rI, fun _ n => .s (.k .i64 n), fun _ _ => rfl⟩
abbrev cS : RdC (List UInt8) := ⟨rS, fun _ n => .s (.str n), fun _ _ => rfl⟩
abbrev lN : RdL Unit := ⟨0, fun _ x => match x with | [] => some () | _ => none, fun _ _ => [], fun _ => [], fun {ρ w H x a v} _ h hv => by
 cases x with
 | nil => exact ⟨[], F2.nil, rfl, fun _ _ _ => ⟨hv.1, fun j x y hx => by simp at hx⟩⟩
 | cons y ys => cases h⟩
abbrev lC {α β : Type} (c : RdC α) (l : RdL β) : RdL (α × β) := ⟨l.n + 1, fun H x => match x with | y :: ys => (match c.r.rd H (.c y) with | some a => (match l.rd H ys with | some b => some (a, b) | none => none) | none => none) | [] => none,
 fun k p => c.cl k p.1 :: l.op (k + (c.r.os p.1).length) p.2, fun p => c.r.os p.1 ++ l.os p.2, fun {ρ w H x a v} hp h hv => by
  cases x with
  | nil => cases h
  | cons y ys =>
   dsimp only at h
   split at h
   ·rename_i a1 h1
    split at h
    ·rename_i b1 h2
     injection h with h; subst h
     cases v with
     | nil => have := hv.1; simp at this
     | cons u us =>
      have hu : clR ρ y u := hv.2 0 y u rfl rfl
      have hus : F2 (clR ρ) ys us := ⟨by have := hv.1; simpa using this, fun j x y hx hy => hv.2 (j + 1) x y (by simpa using hx) (by simpa using hy)⟩
      obtain ⟨_, ps, f1, g1, k1⟩ := c.r.ok hp h1 (show avR ρ (.c y) u from hu)
      obtain ⟨qs, f2, g2, k2⟩ := l.ok hp h2 hus
      refine ⟨ps ++ qs, F2.append f1 f2, allRo_append g1 g2, fun k ρ' hk => ?_⟩
      have e1 := k1 k ρ' (fun j p hj => hk j p (by rw [List.getElem?_append_left (List.getElem?_eq_some_iff.1 hj).1]; exact hj))
      rw [c.eq] at e1
      refine F2.cons e1 (k2 _ ρ' fun j p hj => ?_)
      rw [f1.1, Nat.add_assoc]
      exact hk _ p (by rw [List.getElem?_append_right (by omega), Nat.add_sub_cancel_left]; exact hj)
    ·cases h
   ·cases h⟩
abbrev rSt {α : Type} (l : RdL α) : Rd α := ⟨fun H x => match aGc l.n x with | some y => l.rd H y | none => none, fun k a => .g l.n (.c (l.op k a)), l.os, fun _ => True, fun {ρ w H x a v} hp h hv => by
 split at h
 ·rename_i y hy
  have hg : ∃ vs : List Value, F2 (clR ρ) y vs ∧ vs.length = l.n ∧ v = .agg vs.toArray := by
   obtain ⟨vs, h1, rfl, h3⟩ := aGc_ok hy hv
   refine ⟨vs, ⟨?_, fun j x u hx hu => ?_⟩, h1, rfl⟩
   ·unfold aGc at hy
    split at hy
    ·split at hy
     ·rename_i hm
      simp only [Bool.and_eq_true] at hm
      injection hy with hy; subst hy
      rw [h1, ← Nat.eq_of_beq_eq_true hm.2]
     ·cases hy
    ·cases hy
   ·have := h3 j (by rw [← h1]; exact (List.getElem?_eq_some_iff.1 hu).1)
    rw [List.getD_eq_getElem?_getD, hx, List.getD_eq_getElem?_getD, hu] at this
    exact this
  obtain ⟨vs, h1, h2, rfl⟩ := hg
  obtain ⟨ps, f1, g1, k1⟩ := l.ok hp h h1
  exact ⟨True.intro, ps, f1, g1, fun k ρ' hk => ⟨vs, k1 k ρ' hk, h2, rfl⟩⟩
 ·cases h⟩
def HO (P : Program) (I : World → Prop) (f : FuncId) (F : Ct) (az : List AV) (os : Hp) : Prop :=
 ∀ (args : List AV) (H : Hp) (g : List Prop) (av : AV) (objs : List Oj), F args H = some (g, av, objs) → allP g → ∀ (ρ : Pls) (w : World) (vals : List Value), I w → HpR ρ w H → F2 (avR ρ) args vals →
  ∀ (ps : List Pl) (v0 : List Value), F2 (fun o p => ∀ ρ, objR ρ w p o) os ps → allRo os = true → (∀ ρ' : Pls, (∀ j p, ps[j]? = some p → ρ' j = p) → F2 (avR ρ') az v0) →
   Calls P f (v0 ++ vals).toArray w (Ret fun v w' => Ext w w' ∧ ∃ ps, Left ρ w H av objs v w' ps)
section
variable {P : Program} {I : World → Prop} {f : FuncId} {az : List AV} {os : Hp} {T : Tab}
theorem HO_c {α : Type} (r : Rd α) {K : α → Ct} (h : ∀ a, r.pr a → HO P I f (K a) (az ++ [r.op os.length a]) (os ++ r.os a)) : HO P I f (ctc r.rd fun _ => K) az os := by
 intro args H g av objs hF hg ρ w vals hI hp ha ps v0 f0 g0 k0
 obtain ⟨x, xs, a, rfl, hx, hF⟩ := ctc_inv hF
 obtain ⟨v, vs, rfl, hv, ha⟩ := F2.inv ha
 obtain ⟨hpr, qs, f1, g1, k1⟩ := r.ok hp hx hv
 have := h a hpr xs H g av objs hF hg ρ w vs hI hp ha (ps ++ qs) (v0 ++ [v]) (F2.append f0 f1) (allRo_append g0 g1) (fun ρ' hk => F2.append (k0 ρ' fun j p hj => hk j p (by rw [List.getElem?_append_left (List.getElem?_eq_some_iff.1 hj).1]; exact hj)) (F2.cons (k1 _ ρ' fun j p hj => by
  rw [f0.1]
  exact hk _ p (by rw [List.getElem?_append_right (by omega), Nat.add_sub_cancel_left]; exact hj)) F2.nil))
 rw [List.append_assoc] at this
 exact this
theorem HO_0 (hT : TabOk P T) (R : S) (rs : List ResultVar) (keep : List Nat) (n : Nat) {fn : Func} {c : Code} {gs : Prop} {x : AV} {os' : List Oj} (hf : P.funcs[f]? = some fn) (hW : ∀ w, I w → gs → W P n (noB (fun _ => undef)) w c ⟨args0 0 az, [], os⟩ (fun e s => (e = .ret ∨ e = .normal) ∧ s = R))
  (hb : fn.body = some c := by rfl) (hn : fn.ntmps = n := by rfl) (hres : fn.results = rs.toArray := by rfl) (hr : retS T R rs keep = some (x, os') := by kernel_rfl) (hl : Nat.ble az.length n = true := by kernel_rfl) :
  HO P I f (ct0 fun H => ([gs], shA H.length x, shH H.length os')) az os := by
 intro args H g av objs hF hg ρ w vals hI hp ha ps v0 f0 g0 k0
 obtain ⟨rfl, rfl, rfl, rfl⟩ := ct0_inv hF
 obtain rfl := F2.inv0 ha
 rw [List.append_nil]
 have hv := k0 (plL ps) (fun j p hj => by unfold plL; rw [hj])
 have hR0 := rel0 (gv := fun _ => undef) (n := n) (w := w) (gl := []) (hpL f0) (allRo_ok g0) hv GlR.nil (by rw [← hv.1]; exact Nat.le_of_ble_eq_true hl)
 refine calls_W hf hb hn hR0 (hW w hI hg) ?_
 rintro e s' ⟨he, rfl⟩
 exact ⟨he, fun a' w' hr' => retS_ok hT hr' (rs := rs) hres hr⟩
theorem fnok {F : Ct} {fn : Func} (hf : P.funcs[f]? = some fn) (h : HO P I f F [] []) (h1 : ((fn.name == "runtime.NumGoroutine") = false) := by kernel_rfl) (h2 : fn.body.isNone = false := by kernel_rfl) : FnOk P I f F :=
 ⟨fun args H g av objs hF hg ρ w vals hI hp ha => h args H g av objs hF hg ρ w vals hI hp ha [] [] F2.nil rfl (fun _ _ => F2.nil), fn, hf, h1, h2⟩
end
end Go.Sx
end
section
namespace Go.Proofs.Ytliilihbnhdemaa
open Go.RowKit Go.Ch Go.Sx
theorem cloneb_info : (Try.prog.info? 5).map (fun i => (i.zero, i.size, i.bytes)) = some (some (.int .u8 0), 1, 1) := by kernel_rfl
set_option maxHeartbeats 400000 in
set_option maxRecDepth 100000 in
theorem cloneb_c (w : World) (B : Nat) (v : Value) (l : List UInt8) (hv : Sl w B v (l.map bU)) (hl : l.length ≤ 1000000000000) :
  Calls Try.prog 49 #[v] w (Ret fun v' w' => Ext w w' ∧ Own w' w.heap.size 5 v' (l.map bU)) := by
 obtain ⟨i5, hi5, hz5, hs5, hb5⟩ := info_parts cloneb_info
 go_enter Try.func49, Try.ntmps49
 go_wp2_with (first
  | ((with_reducible refine g_at (d := 4) ?_); refine wpl_eq_nil rfl Try.underlying22 hv ?_; intro b4 hb4; try (conv in (Act.put _ _ _) => simp only [Act.put, List.setIfInBounds_toArray, List.set_cons_succ, List.set_cons_zero]))
  | ((with_reducible refine g_at (d := 5) ?_); refine wpl_buildSlice (vs := []) Try.underlying22 hi5 hz5 hs5 rfl (xs := []) rfl rfl rfl (by simp) (by omega) ?_; intro v5 w5 h5 hx5 ha5; try (conv in (Act.put _ _ _) => simp only [Act.put, List.setIfInBounds_toArray, List.set_cons_succ, List.set_cons_zero]))
  | ((with_reducible refine g_at (d := 7) ?_); refine wpl_append (v := v5) rfl rfl Try.underlying22 hi5 hz5 hs5 hb5 rfl h5 (hv.ext hx5) (bU_one l) (by first | omega | (simp <;> omega)) (by omega) hx5.size ?_; intro v7 w7 h7 hg7 ha7 hx7; try (conv in (Act.put _ _ _) => simp only [Act.put, List.setIfInBounds_toArray, List.set_cons_succ, List.set_cons_zero])))
 ·go_ret
  have := hb4 (by assumption)
  exact ⟨_, rfl, Below.refl _ _, by rw [this]; exact World.ownsRow_nil _ _ _ _⟩
 ·go_ret
  exact ⟨_, rfl, hx5.trans hx7, by simpa using h7⟩
def cloneb_ct : Ct := fun args H => match args with
 | [x] => (match aB H x with | some l => some ([l.length ≤ 1000000000000], .c (.wh H.length), [⟨.row, 5, 1, l.length, .b l⟩]) | none => none)
 | _ => none
theorem cloneb_h : FnOk Try.prog Tr 49 cloneb_ct := by
 refine ⟨fun args H g av objs hF hg ρ w vals hG hp ha => ?_, _, Try.func49, by kernel_rfl, by kernel_rfl⟩
 unfold cloneb_ct at hF
 split at hF
 ·split at hF
  ·rename_i x l hl
   simp only [Option.some.injEq, Prod.mk.injEq] at hF
   obtain ⟨rfl, rfl, rfl⟩ := hF
   obtain ⟨v, vals, rfl, k, ha⟩ := F2.inv ha
   obtain rfl := F2.inv0 ha
   obtain ⟨p, hI⟩ := aB_ok hp hl k 5
   have hb : l.length ≤ 1000000000000 := by simpa [allP] using hg
   exact calls_mono (cloneb_c w _ v l (hI.sl (fun _ _ h => csR_b.1 h) (by simp)) hb) fun v w' ⟨hx, hv⟩ => ⟨hx, left_row hv (fun _ => csR_b.2 rfl) (by simp)⟩
  ·cases hF
 ·cases hF
end Go.Proofs.Ytliilihbnhdemaa
end
section
namespace Go.Proofs.Ytliilihbnhdemaa
open Go.RowKit Go.Ch Go.Sx Go.Lib Go.Sort Go.Shelf Go.Proofs
theorem u8_info : (Try.prog.info? 5).map (fun i => (i.zero, i.size, i.bytes)) = some (some (.int .u8 0), 1, 1) := by kernel_rfl
set_option maxHeartbeats 1600000 in
set_option maxRecDepth 1000000 in
theorem rev_arr (blk off cap : Nat) (d : Array UInt8) (w : World) (hH : Holds bU w blk off d) (hsz : d.size ≤ 9223372036854775807) :
  Calls Try.prog 81 #[.slice (some ⟨blk, off, none⟩) d.size cap] w fun e w' => e = .returned (.tuple #[]) ∧ ∃ n, w' = putRow bU (Sort.ahead w n) blk off d.reverse := by
 have mixed : Try.prog.follows .mixedOrders = true := by kernel_rfl
 have t3 : Try.prog.underlying 3 = some (.int .i64) := by kernel_rfl
 have t4 : Try.prog.underlying 4 = some .bool := by kernel_rfl
 have t22 : Try.prog.underlying 22 = some (.slice 5) := by kernel_rfl
 have t5 : Try.prog.underlying 5 = some (.int .u8) := by kernel_rfl
 have a3 : ∀ w, (isAgg 3).run Try.prog w = .ok false w := fun w => run_isAgg_no t3 rfl
 have a4 : ∀ w, (isAgg 4).run Try.prog w = .ok false w := fun w => run_isAgg_no t4 rfl
 have a22 : ∀ w, (isAgg 22).run Try.prog w = .ok false w := fun w => run_isAgg_no t22 rfl
 have a23 : ∀ w, (isAgg 5).run Try.prog w = .ok false w := fun w => run_isAgg_no t5 rfl
 have z3 : ∀ w, (Go.sizeOf 3).run Try.prog w = .ok 1 w := fun w => by kernel_rfl
 have z4 : ∀ w, (Go.sizeOf 4).run Try.prog w = .ok 1 w := fun w => by kernel_rfl
 have z22 : ∀ w, (Go.sizeOf 22).run Try.prog w = .ok 1 w := fun w => by kernel_rfl
 have z23 : ∀ w, (Go.sizeOf 5).run Try.prog w = .ok 1 w := fun w => by kernel_rfl
 go_enter Try.func81, Try.ntmps81
 go_wp2
 go_loopg [2, 3] d.size (fun k s2 s3 wr => ∃ (i jn : Nat) (jz : Int) (dk : Array UInt8) (n : Nat), s2 = .int .i64 i ∧ s3 = .int .i64 jz ∧ ((i : Int) < jz → jz = jn ∧ jn < d.size) ∧ (¬ (i : Int) < jz → ¬ i < jn) ∧ jn - i ≤ k ∧
  dk.size = d.size ∧ wr = putRow bU (Sort.ahead w n) blk off dk ∧ reverseLoop i jn dk = reverseLoop 0 (d.size - 1) d)
 case atStart => exact ⟨0, d.size - 1, (d.size : Int) - 1, d, 0, rfl, rfl, fun h => ⟨by omega, by omega⟩, fun h => by omega, by omega, rfl, (putRow_self bU w blk off d hH).symm, rfl⟩
 case round =>
  obtain ⟨i, jn, jz, dk, n, rfl, rfl, h1, h2, hk, hds, hwr, heq⟩ := hrel
  by_cases hlt : (i : Int) < jz
  ·obtain ⟨rfl, hjn⟩ := h1 hlt
   have hij : i < jn := by omega
   have hHk : Holds bU wr blk off dk := by rw [hwr]; exact holds_putRow bU _ blk off d dk (holds_ahead bU w n blk off d hH) hds
   obtain ⟨ci, fi⟩ := hHk i (by omega)
   obtain ⟨cj, fj⟩ := hHk jn (by omega)
   simp only [bU] at ci cj
   have A : Aside (wr = putRow bU (Sort.ahead w n) blk off dk) := hwr
   clear hwr hHk hH h1 h2
   go_wp2_with fail
   go_region_o
   go_wp2
   go_roundg (jn - 1 - (i + 1))
   case measure => omega
   case rel =>
    rw [reverseLoop, if_pos hij] at heq
    exact ⟨i + 1, jn - 1, (jn : Int) - 1, swp dk i jn, n + 1, by simp, rfl, fun h => ⟨by omega, by omega⟩, fun h => by omega, Nat.le_refl _, by rw [size_swp]; exact hds,
     swap_world bU (by omega) (by omega) A.out (by first | rfl | simp [bU, getElem!_pos, show jn < dk.size by omega]) (by first | rfl | simp [bU, getElem!_pos, show i < dk.size by omega]), heq⟩
  ·have hnot := h2 hlt
   go_wp2
   go_end0
   refine ⟨rfl, n, ?_⟩
   rw [reverseLoop, if_neg hnot] at heq
   rw [← Lib.reverseLoop_reverse, ← heq]
theorem heap_put (w : World) (n blk : Nat) (d : Array UInt8) (k : Nat) : (putRow bU (Sort.ahead w n) blk 0 d).heap[k]? = if blk = k then (w.heap[k]?).map (onCells (putCells bU 0 d)) else w.heap[k]? := by
 show (w.heap.modify blk (onCells (putCells bU 0 d)))[k]? = _
 rw [Array.getElem?_modify]
theorem rev_c (w : World) (B : Nat) (v : Value) (l : List UInt8) (hv : Own w B 5 v (l.map bU)) (hne : l ≠ []) :
  Calls Try.prog 81 #[v] w (Ret fun v' w' => Own w' B 5 v (l.reverse.map bU) ∧ w.grownBy w' v.ownBlock) := by
 obtain ⟨h1, h2⟩ := hv
 rcases h2 with ⟨_, h0⟩ | ⟨g, cap, cur, rfl, hB, hg, hc, hm, hs, ht⟩
 ·rw [List.length_map] at h0
  exact absurd (List.eq_nil_of_length_eq_zero h0) hne
 ·rw [List.length_map] at *
  rw [Nat.mul_one] at ht hs
  have hlen : l.length ≤ cur.size := by omega
  have hH : Holds bU w g 0 l.toArray := by
   intro j hj
   have hj' : j < l.length := by simpa using hj
   have hcj : cur.toList[j]? = some (bU l[j]) := by
    have := congrArg (·[j]?) ht
    simp only [List.getElem?_take, if_pos hj', List.getElem?_map, List.getElem?_eq_getElem hj', Option.map_some] at this
    exact this
   refine ⟨?_, ?_⟩
   ·simp only [World.cell?, hg, Nat.zero_add]
    rw [getElem!_pos l.toArray j hj]
    simpa using hcj
   ·simp only [World.frozen?, hg]
    simp
  have hr := rev_arr g 0 cap l.toArray w hH (by simp; unfold maxLen at hm; omega)
  rw [List.size_toArray] at hr
  refine hr.mono fun e w' ⟨he, n, hw⟩ => ?_
  refine ⟨_, he, ?_, ?_⟩
  ·refine ⟨by simp, .inr ⟨g, cap, putCells bU 0 l.reverse.toArray cur, by simp, hB, ?_, by simpa using hc, hm, ?_, ?_⟩⟩
   ·rw [hw, List.reverse_toArray, heap_put, if_pos rfl, hg]; rfl
   ·simp [putCells, hs]
   ·apply List.ext_getElem?
    intro j
    simp only [List.length_map, List.length_reverse, Nat.mul_one, List.getElem?_take, putCells, Array.getElem?_toList, Array.getElem?_mapIdx, List.getElem?_map]
    by_cases hj : j < l.length
    ·have hjs : j < cur.size := by omega
     have hjr : j < l.reverse.length := by simpa using hj
     rw [if_pos hj, Array.getElem?_eq_getElem hjs, List.getElem?_eq_getElem hjr]
     simp only [Option.map_some, Nat.zero_le, true_and, Nat.zero_add, Nat.sub_zero, List.size_toArray, List.length_reverse, hj, if_true]
     rw [getElem!_pos l.reverse.toArray j (by simpa using hj)]
     simp
    ·rw [if_neg hj, List.getElem?_eq_none (by simpa using hj)]; rfl
  ·refine ⟨by rw [hw]; rfl, by rw [hw]; rfl, by rw [hw]; rfl, by rw [hw]; simp [putRow, mapBlock, Sort.ahead], fun k hk hne => ?_⟩
   rw [hw, List.reverse_toArray, heap_put, if_neg (fun h => hne (by rw [h]; rfl))]
section words
variable {P : Program} {w : World}
theorem run_or8 (t : TypeId) (ex ey : Operand) (x y : UInt8) (w : World) : binRun P .or t ex ey (bU x) (bU y) w = .ok (bU (x ||| y)) w := by
 have e : ∀ x : UInt8, BitVec.ofInt 8 (x.toNat : Int) = x.toBitVec := fun x => by
  rw [BitVec.ofInt_natCast]
  apply BitVec.eq_of_toNat_eq
  simp
 have b : ∀ r : BitVec 8, IntKind.u8.wrap (r.toNat : Int) = (r.toNat : Int) := fun r => by
  have := r.isLt
  rw [IntKind.wrap_u8]; omega
 simp only [binRun, bU, Sem.run_bind, guard_int, Result.andThen_ok]
 simp only [binOp, if_neg (show ¬ (IntKind.u8 ≠ IntKind.u8) by simp), Op.intBits, Sem.run_pure]
 show Result.ok (Value.int .u8 (IntKind.u8.wrap ((BitVec.ofInt 8 (x.toNat : Int) ||| BitVec.ofInt 8 (y.toNat : Int)).toNat : Int))) w = _
 rw [e, e, b]
 rfl
theorem run_gt32 (t : TypeId) (ex ey : Operand) (x y : UInt32) (w : World) : binRun P .gtr t ex ey (w32 x) (w32 y) w = .ok (.bool (decide (y < x))) w := by
 simp only [binRun, w32, Sem.run_bind, guard_int, Result.andThen_ok]
 simp only [binOp, if_neg (show ¬ (IntKind.u32 ≠ IntKind.u32) by simp), Op.intCmp, Sem.run_pure]
 congr 2
 rw [Bool.eq_iff_iff]
 simp [UInt32.lt_iff_toNat_lt]
end words
def grpT : Nat → UInt32 → List UInt8
 | 0, _ => []
 | f + 1, n => if n = 0 then [] else ((n &&& 127).toUInt8 ||| 128) :: grpT f (n >>> 7)
def grp (n : UInt32) : List UInt8 := ((n &&& 127).toUInt8 :: grpT 5 (n >>> 7)).reverse
theorem shr7 (n : UInt32) : (n >>> UInt32.ofNat 7).toNat = n.toNat / 128 := by
 rw [UInt32.toNat_shiftRight, Nat.shiftRight_eq_div_pow]; rfl
theorem shr7' (n : UInt32) : (n >>> 7) = (n >>> UInt32.ofNat 7) := rfl
set_option maxHeartbeats 800000 in
theorem group_c (w : World) (n : UInt32) :
  Calls Try.prog 65 #[w32 n] w (Ret fun v' w' => Ext w w' ∧ Own w' w.heap.size 5 v' ((grp n).map bU)) := by
 obtain ⟨i5, hi5, hz5, hs5, hb5⟩ := info_parts u8_info
 go_enter Try.func65, Try.ntmps65
 go_wp2_with (first
  | ((with_reducible refine g_at (d := 5) ?_); refine wpl_bin rfl rfl (by exact run_and32 _ _ _ n 127 _) ?_; try (conv in (Act.put _ _ _) => simp only [Act.put, List.setIfInBounds_toArray, List.set_cons_succ, List.set_cons_zero]))
  | ((with_reducible refine g_at (d := 6) ?_); refine wpl_conv rfl (by exact conv_wb Try.underlying89 Try.underlying5 _ _) ?_; try (conv in (Act.put _ _ _) => simp only [Act.put, List.setIfInBounds_toArray, List.set_cons_succ, List.set_cons_zero]))
  | ((with_reducible refine g_at (d := 7) ?_); refine wpl_buildSlice (vs := [bU (n &&& 127).toUInt8]) Try.underlying22 hi5 hz5 hs5 rfl (xs := [(.tmp 6)]) rfl rfl rfl (by intro u hu; simp at hu; subst hu; rfl) (by omega) ?_; intro v7 w7 h7 hx7 ha7; try (conv in (Act.put _ _ _) => simp only [Act.put, List.setIfInBounds_toArray, List.set_cons_succ, List.set_cons_zero]))
  | ((with_reducible refine g_at (d := 9) ?_); refine wpl_bin rfl rfl (by exact run_shr32 _ _ _ n .u64 7 (by decide) _) ?_; try (conv in (Act.put _ _ _) => simp only [Act.put, List.setIfInBounds_toArray, List.set_cons_succ, List.set_cons_zero]))
  | ((with_reducible refine g_at (d := 17) ?_); refine wpl_conv rfl (by exact conv_wb Try.underlying89 Try.underlying5 _ _) ?_; try (conv in (Act.put _ _ _) => simp only [Act.put, List.setIfInBounds_toArray, List.set_cons_succ, List.set_cons_zero])))
 generalize ha : (n &&& 127).toUInt8 = a at *
 generalize hm : n >>> UInt32.ofNat 7 = m0
 have hm0 : m0.toNat < 128 ^ 5 := by rw [← hm, shr7]; have := lt32 n; omega
 have hgrp : grp n = (a :: grpT 5 m0).reverse := by unfold grp; rw [ha, shr7', hm]
 have HG := Lib.hid hgrp
 clear hgrp hm ha
 go_loopw [0, 3] (fun nv o wr => ∃ (k : Nat) (m : UInt32) (xs : List UInt8), nv = w32 m ∧ k ≤ 5 ∧ m.toNat < 128 ^ k ∧ xs.length + k = 6 ∧ Own wr w.heap.size 5 o (xs.map bU) ∧ Ext w wr ∧ Hid (xs ++ grpT k m = a :: grpT 5 m0)) (fun nv _ _ => (RowKit.intOf nv).toNat)
 case atStart => exact ⟨5, m0, [a], rfl, Nat.le_refl _, hm0, rfl, h7, hx7, Lib.hid rfl⟩
 case round =>
  obtain ⟨k, m, xs, rfl, hk, hmk, hxl, ho, hx, hxs⟩ := hrel
  by_cases hz : m = 0
  ·have E11 : Hid (∀ t ex ey w, binRun Try.prog .gtr t ex ey (w32 m) (.int .u32 0) w = .ok (.bool false) w) := Lib.hid (fun t ex ey w => (run_gt32 t ex ey m 0 w).trans (by rw [hz]; rfl))
   have HZ := Lib.hid hz
   clear hz
   go_wp2_with (first
    | ((with_reducible refine g_at (d := 11) ?_); refine wpl_bin rfl rfl (by exact E11.out _ _ _ _) ?_; try (conv in (Act.put _ _ _) => simp only [Act.put, List.setIfInBounds_toArray, List.set_cons_succ, List.set_cons_zero]))
    | ((with_reducible refine g_at (d := 22) ?_); refine wpl_call Try.func81 (by kernel_rfl) (by kernel_rfl) rfl (rev_c _ _ _ xs ho (by intro h; rw [h] at hxl; simp at hxl; omega)) ?_; rintro v22 w22 ⟨h22, hg22⟩; try (conv in (Act.put _ _ _) => simp only [Act.put, List.setIfInBounds_toArray, List.set_cons_succ, List.set_cons_zero]))
    | ((with_reducible refine g_at (d := 6) ?_); refine wpl_conv rfl (by exact conv_wb Try.underlying89 Try.underlying5 _ _) ?_; try (conv in (Act.put _ _ _) => simp only [Act.put, List.setIfInBounds_toArray, List.set_cons_succ, List.set_cons_zero]))
    | ((with_reducible refine g_at (d := 17) ?_); refine wpl_conv rfl (by exact conv_wb Try.underlying89 Try.underlying5 _ _) ?_; try (conv in (Act.put _ _ _) => simp only [Act.put, List.setIfInBounds_toArray, List.set_cons_succ, List.set_cons_zero])))
   go_ret
   have hl : xs = a :: grpT 5 m0 := by
    have h := hxs.out
    rw [HZ.out] at h
    have h0 : grpT k 0 = [] := by cases k <;> rfl
    rwa [h0, List.append_nil] at h
   refine ⟨_, rfl, hx.grown hg22 hx.size (fun b hb => (ho.lt b hb).1), ?_⟩
   rw [HG.out, ← hl]; exact h22
  ·have E11 : Hid (∀ t ex ey w, binRun Try.prog .gtr t ex ey (w32 m) (.int .u32 0) w = .ok (.bool true) w) := Lib.hid (fun t ex ey w => (run_gt32 t ex ey m 0 w).trans (by
    rw [decide_eq_true (by
     rw [UInt32.lt_iff_toNat_lt]
     exact Nat.pos_of_ne_zero fun h => hz (UInt32.toNat_inj.1 h))]))
   have HZ := Lib.hid hz
   clear hz
   go_wp2_with (first
    | ((with_reducible refine g_at (d := 11) ?_); refine wpl_bin rfl rfl (by exact E11.out _ _ _ _) ?_; try (conv in (Act.put _ _ _) => simp only [Act.put, List.setIfInBounds_toArray, List.set_cons_succ, List.set_cons_zero]))
    | ((with_reducible refine g_at (d := 16) ?_); refine wpl_bin rfl rfl (by exact run_and32 _ _ _ m 127 _) ?_; try (conv in (Act.put _ _ _) => simp only [Act.put, List.setIfInBounds_toArray, List.set_cons_succ, List.set_cons_zero]))
    | ((with_reducible refine g_at (d := 17) ?_); refine wpl_conv rfl (by exact conv_wb Try.underlying89 Try.underlying5 _ _) ?_; try (conv in (Act.put _ _ _) => simp only [Act.put, List.setIfInBounds_toArray, List.set_cons_succ, List.set_cons_zero]))
    | ((with_reducible refine g_at (d := 18) ?_); refine wpl_bin rfl rfl (by exact run_or8 _ _ _ _ 128 _) ?_; try (conv in (Act.put _ _ _) => simp only [Act.put, List.setIfInBounds_toArray, List.set_cons_succ, List.set_cons_zero]))
    | ((with_reducible refine g_at (d := 19) ?_); refine wpl_buildSlice (vs := [bU ((m &&& 127).toUInt8 ||| 128)]) Try.underlying22 hi5 hz5 hs5 rfl (xs := [(.tmp 18)]) rfl rfl rfl (by intro u hu; simp at hu; subst hu; rfl) (by omega) ?_; intro v19 w19 h19 hx19 ha19; try (conv in (Act.put _ _ _) => simp only [Act.put, List.setIfInBounds_toArray, List.set_cons_succ, List.set_cons_zero]))
    | ((with_reducible refine g_at (d := 20) ?_); refine wpl_append (v := u3) rfl rfl Try.underlying22 hi5 hz5 hs5 hb5 rfl (ho.ext hx19) h19.sl (bU_one [_]) (by first | omega | (simp <;> omega)) (by omega) (Nat.le_trans hx.size hx19.size) ?_; intro v20 w20 h20 hg20 ha20 hx20; try (conv in (Act.put _ _ _) => simp only [Act.put, List.setIfInBounds_toArray, List.set_cons_succ, List.set_cons_zero]))
    | ((with_reducible refine g_at (d := 13) ?_); refine wpl_bin rfl rfl (by exact run_shr32 _ _ _ m .u64 7 (by decide) _) ?_; try (conv in (Act.put _ _ _) => simp only [Act.put, List.setIfInBounds_toArray, List.set_cons_succ, List.set_cons_zero]))
    | ((with_reducible refine g_at (d := 6) ?_); refine wpl_conv rfl (by exact conv_wb Try.underlying89 Try.underlying5 _ _) ?_; try (conv in (Act.put _ _ _) => simp only [Act.put, List.setIfInBounds_toArray, List.set_cons_succ, List.set_cons_zero])))
   go_roundw
   case rel =>
    have hm := HZ.out
    obtain ⟨k, rfl⟩ : ∃ k', k = k' + 1 := ⟨k - 1, by
     cases k with
     | zero => exact absurd (UInt32.toNat_inj.1 (show m.toNat = 0 by simpa using hmk)) hm
     | succ k => rfl⟩
    refine ⟨k, m >>> UInt32.ofNat 7, xs ++ [(m &&& 127).toUInt8 ||| 128], rfl, by omega, ?_, by rw [List.length_append, List.length_singleton]; omega, by rw [List.map_append]; exact h20, (hx.tr hx19).trans hx20, Lib.hid ?_⟩
    ·rw [shr7, Nat.div_lt_iff_lt_mul (by decide)]; rwa [Nat.pow_succ] at hmk
    ·have h := hxs.out
     rw [grpT, if_neg hm, shr7'] at h
     rw [List.append_assoc]; exact h
   case measure =>
    show (((m >>> UInt32.ofNat 7).toNat : Nat) : Int).toNat < ((m.toNat : Nat) : Int).toNat
    rw [shr7, Int.toNat_natCast, Int.toNat_natCast]
    have : m.toNat ≠ 0 := fun h => HZ.out (UInt32.toNat_inj.1 h)
    omega
def group_ct : Ct := fun args H => match args with
 | [.c (.s (.u32 x))] => some ([], .c (.wh H.length), [⟨.row, 5, 1, (grp x).length, .b (grp x)⟩])
 | _ => none
theorem group_h : FnOk Try.prog Tr 65 group_ct := by
 refine ⟨fun args H g av objs hF hg ρ w vals hG hp ha => ?_, _, Try.func65, by kernel_rfl, by kernel_rfl⟩
 unfold group_ct at hF
 split at hF
 ·rename_i x
  simp only [Option.some.injEq, Prod.mk.injEq] at hF
  obtain ⟨rfl, rfl, rfl⟩ := hF
  obtain ⟨v, vals, rfl, k, ha⟩ := F2.inv ha
  obtain rfl := F2.inv0 ha
  have e : v = w32 x := k
  rw [e]
  exact calls_mono (group_c w x) fun v w' ⟨hx, hv⟩ => ⟨hx, left_row hv (fun _ => csR_b.2 rfl) (by simp)⟩
 ·cases hF
end Go.Proofs.Ytliilihbnhdemaa
end
section
namespace Go.Proofs.Ytliilihbnhdemaa
open Go.RowKit Go.Ch Go.Sx
def tabL_pr : List (TypeId × Ti) := [(2, ⟨.int .i64, 1, 8, true, some [.int .i64]⟩),
 (3, ⟨.int .i64, 1, 8, true, some [.int .i64]⟩),
 (5, ⟨.int .u8, 1, 1, true, some [.int .u8]⟩),
 (9, ⟨.str, 1, 16, true, some [.str]⟩),
 (22, ⟨.sl 5, 1, 24, false, some [.nils]⟩),
 (28, ⟨.ifc, 1, 16, true, some [.ifc]⟩),
 (31, ⟨.int .i64, 1, 8, true, some [.int .i64]⟩),
 (34, ⟨.st [(3, 0), (3, 1), (3, 2), (3, 3), (3, 4), (3, 5)], 6, 48, true, some [.int .i64, .int .i64, .int .i64, .int .i64, .int .i64, .int .i64]⟩),
 (60, ⟨.sl 89, 1, 24, false, some [.nils]⟩),
 (76, ⟨.sl 3, 1, 24, false, some [.nils]⟩),
 (89, ⟨.int .u32, 1, 4, true, some [.int .u32]⟩),
 (91, ⟨.int .i8, 1, 1, true, some [.int .i8]⟩),
 (102, ⟨.int .u64, 1, 8, true, some [.int .u64]⟩)]
def tab_pr : Tab := fun t => (tabL_pr).lookup t
theorem tabE_pr : (tabL_pr.map fun p => tiOf Try.prog p.1) = tabL_pr.map fun p => some p.2 := by kernel_rfl
theorem tabO_pr : TabOk Try.prog tab_pr := tab_of tabE_pr
def pspare (n : Nat) (a0 : List UInt8) : Option (Bool) :=
 gd (0 ≤ (0 : Int)) <|
 gd ((0 : Int) < ((a0.length : Nat) : Int)) <|
 bif ((a0.getD 0 0) == 0) then
 gd (0 ≤ (1 : Int)) <|
 gd ((1 : Int) < ((a0.length : Nat) : Int)) <|
 bif (decide ((a0.getD 1 0) < (128 : UInt8))) then
 some true
 else
 gd (0 ≤ (0 : Int)) <|
 gd ((0 : Int) < ((a0.length : Nat) : Int)) <|
 bif ((a0.getD 0 0) == 255) then
 gd (0 ≤ (1 : Int)) <|
 gd ((1 : Int) < ((a0.length : Nat) : Int)) <|
 some (decide ((128 : UInt8) ≤ (a0.getD 1 0)))
 else
 some false
 else
 gd (0 ≤ (0 : Int)) <|
 gd ((0 : Int) < ((a0.length : Nat) : Int)) <|
 bif ((a0.getD 0 0) == 255) then
 gd (0 ≤ (1 : Int)) <|
 gd ((1 : Int) < ((a0.length : Nat) : Int)) <|
 some (decide ((128 : UInt8) ≤ (a0.getD 1 0)))
 else
 some false
def pReadInt_l1 (n : Nat) (a0 : List UInt8) : Nat → Int → Int → Option (Int × Option Int)
 | 0, _, _ => none
 | fu_l1 + 1, i4_2, i34_2 =>
 bif (decide (i34_2 < (((a0.length - 1) : Nat) : Int))) then
 gd (0 ≤ i34_2) <|
 gd (i34_2 < (((a0.length - 1) : Nat) : Int)) <|
 gd (0 ≤ (8 : Int)) <|
 gd ((8 : Int) ≤ (((IntKind.i64).bits : Nat) : Int)) <|
 gd (okI .i64 (i4_2 * 2 ^ 8)) <|
 gd (okI .i64 (i34_2 + 1)) <|
 (pReadInt_l1 n a0 fu_l1) (bitI .or .i64 (i4_2 * 2 ^ 8) (((((a0.drop 1).take (a0.length - 1)).getD i34_2.toNat 0).toNat : Nat) : Int)) (i34_2 + 1)
 else
 some (i4_2, none)
def pReadInt_l2 (n : Nat) (a0 : List UInt8) : Nat → Int → Int → Option (Int × Option Int)
 | 0, _, _ => none
 | fu_l2 + 1, i4_3, i34_3 =>
 bif (decide (i34_3 < (((a0.length - 1) : Nat) : Int))) then
 gd (0 ≤ i34_3) <|
 gd (i34_3 < (((a0.length - 1) : Nat) : Int)) <|
 gd (0 ≤ (8 : Int)) <|
 gd ((8 : Int) ≤ (((IntKind.i64).bits : Nat) : Int)) <|
 gd (okI .i64 (i4_3 * 2 ^ 8)) <|
 gd (okI .i64 (i34_3 + 1)) <|
 (pReadInt_l2 n a0 fu_l2) (bitI .or .i64 (i4_3 * 2 ^ 8) (((((a0.drop 1).take (a0.length - 1)).getD i34_3.toNat 0).toNat : Nat) : Int)) (i34_3 + 1)
 else
 some (i4_3, none)
def pReadInt (n : Nat) (a0 : List UInt8) : Option (Int × Option Int) :=
 bif (((a0.length : Nat) : Int) == 0) then
  some (0, (some 2))
 else
  bif (decide ((1 : Int) < ((a0.length : Nat) : Int))) then
   (pspare n a0).bind fun r17 =>
   bif r17 then
    some (0, (some 2))
   else
    bif (decide ((8 : Int) < ((a0.length : Nat) : Int))) then
     some (0, (some 4))
    else
     gd (0 ≤ (0 : Int)) <|
     gd ((0 : Int) < ((a0.length : Nat) : Int)) <|
     gd (okI .i64 (IntKind.i8.wrap (((a0.getD 0 0).toNat : Nat) : Int))) <|
     gd (0 ≤ (1 : Int)) <|
     gd ((1 : Int) ≤ ((a0.length : Nat) : Int)) <|
     pReadInt_l1 n a0 n (IntKind.i8.wrap (((a0.getD 0 0).toNat : Nat) : Int)) 0
  else
   bif (decide ((8 : Int) < ((a0.length : Nat) : Int))) then
    some (0, (some 4))
   else
    gd (0 ≤ (0 : Int)) <|
    gd ((0 : Int) < ((a0.length : Nat) : Int)) <|
    gd (okI .i64 (IntKind.i8.wrap (((a0.getD 0 0).toNat : Nat) : Int))) <|
    gd (0 ≤ (1 : Int)) <|
    gd ((1 : Int) ≤ ((a0.length : Nat) : Int)) <|
    pReadInt_l2 n a0 n (IntKind.i8.wrap (((a0.getD 0 0).toNat : Nat) : Int)) 0
def pident (n : Nat) (a0 : List UInt32) : Option (Bool) :=
 bif (decide (((a0.length : Nat) : Int) < (2 : Int))) then
 some false
 else
 bif (decide ((16 : Int) < ((a0.length : Nat) : Int))) then
 some false
 else
 gd (0 ≤ (0 : Int)) <|
 gd ((0 : Int) < ((a0.length : Nat) : Int)) <|
 bif (decide ((2 : UInt32) < (a0.getD 0 0))) then
 some false
 else
 gd (0 ≤ (0 : Int)) <|
 gd ((0 : Int) < ((a0.length : Nat) : Int)) <|
 bif (decide ((a0.getD 0 0) < (2 : UInt32))) then
 gd (0 ≤ (1 : Int)) <|
 gd ((1 : Int) < ((a0.length : Nat) : Int)) <|
 some (decide ((a0.getD 1 0) < (40 : UInt32)))
 else
 gd (0 ≤ (1 : Int)) <|
 gd ((1 : Int) < ((a0.length : Nat) : Int)) <|
 some (decide ((((a0.getD 1 0).toUInt64) + (80 : UInt64)) < (4294967296 : UInt64)))
def pOid_l1 (n : Nat) (a0 : List UInt32) : Nat → List UInt8 → Int → Option (List UInt8 × Option Int)
 | 0, _, _ => none
 | fu_l1 + 1, l4_1, i23_1 =>
 bif (decide (i23_1 < (((a0.length - 2) : Nat) : Int))) then
 gd (0 ≤ i23_1) <|
 gd (i23_1 < (((a0.length - 2) : Nat) : Int)) <|
 gd (rmB (l4_1.length + ((grp (((a0.drop 2).take (a0.length - 2)).getD i23_1.toNat 0)).length)) 1) <|
 gd (okI .i64 (i23_1 + 1)) <|
 (pOid_l1 n a0 fu_l1) (l4_1 ++ (grp (((a0.drop 2).take (a0.length - 2)).getD i23_1.toNat 0))) (i23_1 + 1)
 else
 some (l4_1, none)
def pOid (n : Nat) (a0 : List UInt32) : Option (List UInt8 × Option Int) :=
 (pident n a0).bind fun r8 =>
 bif (!r8) then
  some ([], (some 1))
 else
  gd (0 ≤ (0 : Int)) <|
  gd ((0 : Int) < ((a0.length : Nat) : Int)) <|
  gd (0 ≤ (1 : Int)) <|
  gd ((1 : Int) < ((a0.length : Nat) : Int)) <|
  gd (0 ≤ (2 : Int)) <|
  gd ((2 : Int) ≤ ((a0.length : Nat) : Int)) <|
  pOid_l1 n a0 n (grp (((40 : UInt32) * (a0.getD 0 0)) + (a0.getD 1 0))) 0
def pleap (n : Nat) (a0 : Int) : Option (Bool) :=
 gd ((4 : Int) ≠ 0) <|
 bif ((Int.tmod a0 4) == 0) then
 gd ((100 : Int) ≠ 0) <|
 bif ((Int.tmod a0 100) != 0) then
 some true
 else
 gd ((400 : Int) ≠ 0) <|
 some ((Int.tmod a0 400) == 0)
 else
 some false
def pdays_j1 (n : Nat) (a0 : Int) (a1 : Int) (p6_1 : Bool) : Option (Int) :=
 bif p6_1 then
  some 30
 else
  bif (a1 == 2) then
   (pleap n a0).bind fun r14 =>
   bif r14 then
    some 29
   else
    some 28
  else
   some 31
def pdays (n : Nat) (a0 : Int) (a1 : Int) : Option (Int) :=
 bif (a1 == 4) then
 pdays_j1 n a0 a1 (a1 == 4)
 else
 bif (a1 == 6) then
 pdays_j1 n a0 a1 (a1 == 6)
 else
 bif (a1 == 9) then
 pdays_j1 n a0 a1 (a1 == 9)
 else
 pdays_j1 n a0 a1 (a1 == 11)
def pvalid (n : Nat) (a0_0 : Int) (a0_1 : Int) (a0_2 : Int) (a0_3 : Int) (a0_4 : Int) (a0_5 : Int) : Option (Bool) :=
 bif (decide (a0_0 < (1 : Int))) then
  some false
 else
  bif (decide ((9999 : Int) < a0_0)) then
   some false
  else
   bif (decide (a0_1 < (1 : Int))) then
    some false
   else
    bif (decide ((12 : Int) < a0_1)) then
     some false
    else
     bif (decide (a0_2 < (1 : Int))) then
      some false
     else
      (pdays n a0_0 a0_1).bind fun r33 =>
      bif (decide (r33 < a0_2)) then
       some false
      else
       bif (decide ((0 : Int) ≤ a0_3)) then
        bif (decide (a0_3 ≤ (23 : Int))) then
         bif (decide ((0 : Int) ≤ a0_4)) then
          bif (decide (a0_4 ≤ (59 : Int))) then
           bif (decide ((0 : Int) ≤ a0_5)) then
            some (decide (a0_5 ≤ (59 : Int)))
           else
            some false
          else
           some false
         else
          some false
        else
         some false
       else
        some false
def pTime_l1 (n : Nat) (b5_1 : UInt8) (z6_1 : List Int) (m6_1 : Nat) : Nat → List UInt8 → Int → Option (UInt8 × List UInt8 × Option Int)
 | 0, _, _ => none
 | fu_l1 + 1, l7_1, i43_1 =>
 bif (decide (i43_1 < ((m6_1 : Nat) : Int))) then
 gd (0 ≤ i43_1) <|
 gd (i43_1 < ((m6_1 : Nat) : Int)) <|
 gd ((10 : Int) ≠ 0) <|
 gd (okI .i64 (Int.tdiv (z6_1.getD i43_1.toNat 0) 10)) <|
 gd (okI .i64 (48 + (Int.tdiv (z6_1.getD i43_1.toNat 0) 10))) <|
 gd ((10 : Int) ≠ 0) <|
 gd (okI .i64 (48 + (Int.tmod (z6_1.getD i43_1.toNat 0) 10))) <|
 gd (rmB (l7_1.length + 2) 1) <|
 gd (okI .i64 (i43_1 + 1)) <|
 (pTime_l1 n b5_1 z6_1 m6_1 fu_l1) (l7_1 ++ [(UInt8.ofInt (48 + (Int.tdiv (z6_1.getD i43_1.toNat 0) 10))), (UInt8.ofInt (48 + (Int.tmod (z6_1.getD i43_1.toNat 0) 10)))]) (i43_1 + 1)
 else
 gd (rmB (l7_1.length + 1) 1) <|
 some (b5_1, (l7_1 ++ [90]), none)
def pTime_j1 (n : Nat) (b5_1 : UInt8) (z6_1 : List Int) (m6_1 : Nat) : Option (UInt8 × List UInt8 × Option Int) :=
 pTime_l1 n b5_1 z6_1 m6_1 n [] 0
def pTime (n : Nat) (a0_0 : Int) (a0_1 : Int) (a0_2 : Int) (a0_3 : Int) (a0_4 : Int) (a0_5 : Int) : Option (UInt8 × List UInt8 × Option Int) :=
 (pvalid n a0_0 a0_1 a0_2 a0_3 a0_4 a0_5).bind fun r11 =>
 bif (!r11) then
  some (0, [], (some 1))
 else
  gd ((100 : Int) ≠ 0) <|
  gd (okI .i64 (Int.tdiv a0_0 100)) <|
  gd ((100 : Int) ≠ 0) <|
  bif (decide ((1950 : Int) ≤ a0_0)) then
   bif (decide (a0_0 < (2050 : Int))) then
    gd (0 ≤ (1 : Int)) <|
    gd ((1 : Int) ≤ (7 : Int)) <|
    pTime_j1 n 23 (([(Int.tdiv a0_0 100), (Int.tmod a0_0 100), a0_1, a0_2, a0_3, a0_4, a0_5].drop 1).take 6) 6
   else
    pTime_j1 n 24 [(Int.tdiv a0_0 100), (Int.tmod a0_0 100), a0_1, a0_2, a0_3, a0_4, a0_5] 7
  else
   pTime_j1 n 24 [(Int.tdiv a0_0 100), (Int.tmod a0_0 100), a0_1, a0_2, a0_3, a0_4, a0_5] 7
def pahead (n : Nat) (a0 : Int) : Option (Int) :=
 gd (okI .i64 (a0 - 1)) <|
 gd (okI .i64 (365 * (a0 - 1))) <|
 gd ((4 : Int) ≠ 0) <|
 gd (okI .i64 (Int.tdiv (a0 - 1) 4)) <|
 gd (okI .i64 ((365 * (a0 - 1)) + (Int.tdiv (a0 - 1) 4))) <|
 gd ((100 : Int) ≠ 0) <|
 gd (okI .i64 (Int.tdiv (a0 - 1) 100)) <|
 gd (okI .i64 (((365 * (a0 - 1)) + (Int.tdiv (a0 - 1) 4)) - (Int.tdiv (a0 - 1) 100))) <|
 gd ((400 : Int) ≠ 0) <|
 gd (okI .i64 (Int.tdiv (a0 - 1) 400)) <|
 gd (okI .i64 ((((365 * (a0 - 1)) + (Int.tdiv (a0 - 1) 4)) - (Int.tdiv (a0 - 1) 100)) + (Int.tdiv (a0 - 1) 400))) <|
 some ((((365 * (a0 - 1)) + (Int.tdiv (a0 - 1) 4)) - (Int.tdiv (a0 - 1) 100)) + (Int.tdiv (a0 - 1) 400))
def pCount_l1 (n : Nat) (a0_0 : Int) (a0_1 : Int) (a0_2 : Int) (a0_3 : Int) (a0_4 : Int) (a0_5 : Int) : Nat → Int → Int → Option (Int × Option Int)
 | 0, _, _ => none
 | fu_l1 + 1, i4_1, i5_1 =>
  bif (decide (i5_1 < a0_1)) then
   (pdays n a0_0 i5_1).bind fun r27_2 =>
   gd (okI .i64 (i4_1 + r27_2)) <|
   gd (okI .i64 (i5_1 + 1)) <|
   (pCount_l1 n a0_0 a0_1 a0_2 a0_3 a0_4 a0_5 fu_l1) (i4_1 + r27_2) (i5_1 + 1)
  else
   gd (okI .i64 (i4_1 * 86400)) <|
   gd (okI .i64 (a0_3 * 3600)) <|
   gd (okI .i64 (a0_4 * 60)) <|
   gd (okI .i64 ((a0_3 * 3600) + (a0_4 * 60))) <|
   gd (okI .i64 (((a0_3 * 3600) + (a0_4 * 60)) + a0_5)) <|
   gd (okI .i64 ((i4_1 * 86400) + (((a0_3 * 3600) + (a0_4 * 60)) + a0_5))) <|
   some (((i4_1 * 86400) + (((a0_3 * 3600) + (a0_4 * 60)) + a0_5)), none)
def pCount (n : Nat) (a0_0 : Int) (a0_1 : Int) (a0_2 : Int) (a0_3 : Int) (a0_4 : Int) (a0_5 : Int) : Option (Int × Option Int) :=
 (pvalid n a0_0 a0_1 a0_2 a0_3 a0_4 a0_5).bind fun r7 =>
 bif (!r7) then
  some (0, (some 1))
 else
  (pahead n a0_0).bind fun r12 =>
  gd (okI .i64 (a0_2 - 1)) <|
  gd (okI .i64 (r12 + (a0_2 - 1))) <|
  pCount_l1 n a0_0 a0_1 a0_2 a0_3 a0_4 a0_5 n (r12 + (a0_2 - 1)) 1
def pInt_j1 (n : Nat) (l3_6 : List UInt8) (m3_4 : Nat) : Option (List UInt8) :=
 gd ((l3_6).length ≤ 1000000000000) <|
 some l3_6
def pInt_l2 (n : Nat) : Nat → List UInt8 → Nat → Option (List UInt8)
 | 0, _, _ => none
 | fu_l2 + 1, l3_7, m3_5 =>
  bif (decide ((1 : Int) < ((m3_5 : Nat) : Int))) then
   (pspare n l3_7).bind fun r21_5 =>
   bif r21_5 then
    gd (0 ≤ (1 : Int)) <|
    gd ((1 : Int) ≤ ((m3_5 : Nat) : Int)) <|
    (pInt_l2 n fu_l2) ((l3_7.drop 1).take (m3_5 - 1)) (m3_5 - 1)
   else
    pInt_j1 n l3_7 m3_5
  else
   pInt_j1 n l3_7 m3_5
def pInt_l1 (n : Nat) (a0 : Int) : Nat → List UInt8 → Int → Option (List UInt8)
 | 0, _, _ => none
 | fu_l1 + 1, l3_4, i4_1 =>
 bif (decide ((0 : Int) ≤ i4_1)) then
 gd (0 ≤ i4_1) <|
 gd (i4_1 ≤ (((IntKind.i64).bits : Nat) : Int)) <|
 gd (rmB (l3_4.length + 1) 1) <|
 gd (okI .i64 (i4_1 - 8)) <|
 (pInt_l1 n a0 fu_l1) (l3_4 ++ [(UInt8.ofInt (a0 / 2 ^ i4_1.toNat))]) (i4_1 - 8)
 else
 pInt_l2 n n l3_4 l3_4.length
def pInt (n : Nat) (a0 : Int) : Option (List UInt8) :=
 pInt_l1 n a0 n [] 56
def pup (n : Nat) : Option (Bool) :=
 (pReadInt n [0, 127]).bind fun r12 =>
 (pOid n [1, 2, 840, 113549]).bind fun r17 =>
 (pTime n 2049 12 31 23 59 59).bind fun r22 =>
 (pCount n 1 1 1 0 0 1).bind fun r28 =>
 (pInt n (-129)).bind fun r31 =>
 bif (r31 == ([255, 127] : List UInt8)) then
  gd (¬((r12.2 : Option Int) = none ∧ ((some 2) : Option Int) = none)) <|
  bif (r12.2 == (some 2)) then
   bif ((r17.2).isNone) then
    bif (r17.1 == ([42, 134, 72, 134, 247, 13] : List UInt8)) then
     bif ((r22.2.2).isNone) then
      bif (r22.1 == 23) then
       bif (r22.2.1 == ([52, 57, 49, 50, 51, 49, 50, 51, 53, 57, 53, 57, 90] : List UInt8)) then
        bif ((r28.2).isNone) then
         some (r28.1 == 1)
        else
         some false
       else
        some false
      else
       some false
     else
      some false
    else
     some false
   else
    some false
  else
   some false
 else
  some false
def pspare_R (r : Bool) : S := ⟨[(2, kB r)], [], []⟩
def pspare_ct (n : Nat) (r : Bool) : Ct := ctc (rB 5).rd fun _ l0 => ct0 fun H => ([pspare n l0 = some r], shA H.length (kB r), shH H.length [])
theorem pspare_ok (n : Nat) (r : Bool) : FnOk Try.prog Tr 48 (pspare_ct n r) := by
 refine fnok Try.func48 ?_
 refine HO_c (rB 5) fun l0 _ => HO_0 tabO_pr (pspare_R r) [.tmp 2] [] 25 Try.func48 fun w hG h => ?_
 unfold pspare at h
 have hT := tabO_pr
 refine Vrs hT [0] ⟨[(0, kH 0)], [], [ob 5 l0]⟩ ?_
 refine W_seq ?_
 obtain ⟨g1, g2, h⟩ := gd2 h
 rcases Bool.eq_false_or_eq_true ((l0.getD 0 0) == 0) with g3 | g3
 ·replace h := bif_t h g3
  obtain ⟨g4, g5, h⟩ := gd2 h
  rcases Bool.eq_false_or_eq_true (decide ((l0.getD 1 0) < (128 : UInt8))) with g6 | g6
  ·replace h := bif_t h g6
   refine Vg hT fN [(4, true), (10, true)] [] [] ⟨[(2, kB true)], [], []⟩ (aP g1 (aP g2 (aP g3 (aP g4 (aP g5 (aP g6 aN)))))) ?_
   refine Vc [] [] (pspare_R true) (W_ret ?_)
   exact ⟨.inl rfl, by cases h; rfl⟩
  ·replace h := bif_f h g6
   obtain ⟨g7, g8, h⟩ := gd2 h
   rcases Bool.eq_false_or_eq_true ((l0.getD 0 0) == 255) with g9 | g9
   ·replace h := bif_t h g9
    obtain ⟨g10, g11, h⟩ := gd2 h
    refine Vg hT fN [(4, true), (10, false), (15, true)] [] [] ⟨[(2, kB (decide ((128 : UInt8) ≤ (l0.getD 1 0))))], [], []⟩ (aP g1 (aP g2 (aP g3 (aP g4 (aP g5 (aP g6 (aP g7 (aP g8 (aP g9 (aP g10 (aP g11 aN))))))))))) ?_
    refine Vc [] [] (pspare_R (decide ((128 : UInt8) ≤ (l0.getD 1 0)))) (W_ret ?_)
    exact ⟨.inl rfl, by cases h; rfl⟩
   ·replace h := bif_f h g9
    refine Vg hT fN [(4, true), (10, false), (15, false)] [] [] ⟨[(2, kB false)], [], []⟩ (aP g1 (aP g2 (aP g3 (aP g4 (aP g5 (aP g6 (aP g7 (aP g8 (aP g9 aN))))))))) ?_
    refine Vc [] [] (pspare_R false) (W_ret ?_)
    exact ⟨.inl rfl, by cases h; rfl⟩
 ·replace h := bif_f h g3
  obtain ⟨g12, g13, h⟩ := gd2 h
  rcases Bool.eq_false_or_eq_true ((l0.getD 0 0) == 255) with g14 | g14
  ·replace h := bif_t h g14
   obtain ⟨g15, g16, h⟩ := gd2 h
   refine Vg hT fN [(4, false), (15, true)] [] [] ⟨[(2, kB (decide ((128 : UInt8) ≤ (l0.getD 1 0))))], [], []⟩ (aP g1 (aP g2 (aP g3 (aP g12 (aP g13 (aP g14 (aP g15 (aP g16 aN)))))))) ?_
   refine Vc [] [] (pspare_R (decide ((128 : UInt8) ≤ (l0.getD 1 0)))) (W_ret ?_)
   exact ⟨.inl rfl, by cases h; rfl⟩
  ·replace h := bif_f h g14
   refine Vg hT fN [(4, false), (15, false)] [] [] ⟨[(2, kB false)], [], []⟩ (aP g1 (aP g2 (aP g3 (aP g12 (aP g13 (aP g14 aN)))))) ?_
   refine Vc [] [] (pspare_R false) (W_ret ?_)
   exact ⟨.inl rfl, by cases h; rfl⟩
def pReadInt_l1_E (a0 : List UInt8) (i4_2 : Int) (i34_2 : Int) : S := ⟨[(4, kI i4_2), (32, kH 0), (33, kI (((a0.length - 1) : Nat) : Int)), (34, kI i34_2)], [], [⟨(.ro false), 5, 1, (a0.length - 1), .b ((a0.drop 1).take (a0.length - 1))⟩]⟩
abbrev pReadInt_l1_P (n : Nat) (a0 : List UInt8) (r : Int × Option Int) (fu : Nat) : S → Prop := fun s => ∃ (i4_2 : Int), ∃ (i34_2 : Int), s = pReadInt_l1_E a0 i4_2 i34_2 ∧ pReadInt_l1 n a0 fu i4_2 i34_2 = some r
def pReadInt_l2_E (a0 : List UInt8) (i4_3 : Int) (i34_3 : Int) : S := ⟨[(4, kI i4_3), (32, kH 0), (33, kI (((a0.length - 1) : Nat) : Int)), (34, kI i34_3)], [], [⟨(.ro false), 5, 1, (a0.length - 1), .b ((a0.drop 1).take (a0.length - 1))⟩]⟩
abbrev pReadInt_l2_P (n : Nat) (a0 : List UInt8) (r : Int × Option Int) (fu : Nat) : S → Prop := fun s => ∃ (i4_3 : Int), ∃ (i34_3 : Int), s = pReadInt_l2_E a0 i4_3 i34_3 ∧ pReadInt_l2 n a0 fu i4_3 i34_3 = some r
def pReadInt_R (r : Int × Option Int) : S := ⟨[(2, kI r.1), (3, kE 31 r.2)], [], []⟩
def pReadInt_ct (n : Nat) (r : Int × Option Int) : Ct := ctc (rB 5).rd fun _ l0 => ct0 fun H => ([pReadInt n l0 = some r], shA H.length (.t [.c (.s (.k .i64 r.1)), .c (.s (.er 31 .i64 r.2))]), shH H.length [])
theorem pReadInt_ok (n : Nat) (r : Int × Option Int) : FnOk Try.prog Tr 18 (pReadInt_ct n r) := by
 refine fnok Try.func18 ?_
 refine HO_c (rB 5) fun l0 _ => HO_0 tabO_pr (pReadInt_R r) [.tmp 2, .tmp 3] [] 45 Try.func18 fun w hG h => ?_
 unfold pReadInt at h
 have hT := tabO_pr
 refine Vrs hT [0] ⟨[(0, kH 0)], [], [ob 5 l0]⟩ ?_
 refine W_seq ?_
 refine W_block ?_
 refine W_seq ?_
 rcases Bool.eq_false_or_eq_true (((l0.length : Nat) : Int) == 0) with g1 | g1
 ·replace h := bif_t h g1
  refine Vg hT fN [(3, true)] [] [0] ⟨[(0, kH 0), (7, kB true)], [], [ob 5 l0]⟩ (aP g1 aN) ?_
  refine Vi (true) (fun _ => ?_) (fun hb => by cases hb)
  refine Vrs hT [] ⟨[(2, kI 0), (3, kE 31 (some 2))], [], []⟩ ?_
  refine Vc [] [] (pReadInt_R (0, (some 2))) (W_ret ?_)
  exact ⟨.inl rfl, by cases h; rfl⟩
 ·replace h := bif_f h g1
  rcases Bool.eq_false_or_eq_true (decide ((1 : Int) < ((l0.length : Nat) : Int))) with g2 | g2
  ·replace h := bif_t h g2
   obtain ⟨r17, g3, h⟩ := bind_some' h
   refine Vg hT (fT 9 (pspare_ok n r17) fN) [(3, false), (7, true)] [] [0] ⟨[(0, kH 0), (7, kB r17)], [], [ob 5 l0]⟩ (aP g1 (aP g2 (aP g3 aN))) ?_
   refine Vi (r17) (fun g17 => ?_) (fun g17 => ?_)
   ·replace h := bif_t h g17
    refine Vrs hT [] ⟨[(2, kI 0), (3, kE 31 (some 2))], [], []⟩ ?_
    refine Vc [] [] (pReadInt_R (0, (some 2))) (W_ret ?_)
    exact ⟨.inl rfl, by cases h; rfl⟩
   ·replace h := bif_f h g17
    refine Vrs hT [0] ⟨[(0, kH 0), (21, kB (decide ((8 : Int) < ((l0.length : Nat) : Int))))], [], [ob 5 l0]⟩ ?_
    refine Vi ((decide ((8 : Int) < ((l0.length : Nat) : Int)))) (fun g16 => ?_) (fun g16 => ?_)
    ·replace h := bif_t h g16
     refine Vrs hT [] ⟨[(2, kI 0), (3, kE 31 (some 4))], [], []⟩ ?_
     refine Vc [] [] (pReadInt_R (0, (some 4))) (W_ret ?_)
     exact ⟨.inl rfl, by cases h; rfl⟩
    ·replace h := bif_f h g16
     refine W_skip ?_
     obtain ⟨g4, g5, g6, h⟩ := gd3 h
     refine Vgs hT fN [] [] [0] ⟨[(0, kH 0), (4, kI (IntKind.i8.wrap (((l0.getD 0 0).toNat : Nat) : Int)))], [], [ob 5 l0]⟩ (aP g4 (aP g5 (aP g6 aN))) ?_
     refine W_seq ?_
     obtain ⟨g7, g8, h⟩ := gd2 h
     refine Vgs hT fN [] [] [0] ⟨[(4, kI (IntKind.i8.wrap (((l0.getD 0 0).toNat : Nat) : Int))), (32, .c (.sl 0 1 (l0.length - 1))), (33, kI (((l0.length - 1) : Nat) : Int)), (34, kI 0)], [], [ob 5 l0]⟩ (aP g7 (aP g8 aN)) ?_
     refine W_block ?_
     refine Vc [.vw 32 false] [1] (pReadInt_l1_E l0 (IntKind.i8.wrap (((l0.getD 0 0).toNat : Nat) : Int)) 0) (W_lp ((pReadInt_l1_P n l0 r)) n ⟨_, _, rfl, h⟩ ?_)
     rintro fu_l1 _ ⟨i4_2, i34_2, rfl, h⟩
     cases fu_l1 with
     | zero => cases h
     | succ fu_l1 =>
      refine ⟨fu_l1, rfl, ?_⟩
      rw [pReadInt_l1] at h
      refine Vrs hT [0] ⟨[(4, kI i4_2), (32, kH 0), (33, kI (((l0.length - 1) : Nat) : Int)), (34, kI i34_2), (35, kB (decide (i34_2 < (((l0.length - 1) : Nat) : Int))))], [], [⟨(.ro false), 5, 1, (l0.length - 1), .b ((l0.drop 1).take (l0.length - 1))⟩]⟩ ?_
      refine W_seq ?_
      refine Vi ((decide (i34_2 < (((l0.length - 1) : Nat) : Int)))) (fun g15 => ?_) (fun g15 => ?_)
      ·replace h := bif_t h g15
       refine W_skip ?_
       refine W_seq ?_
       refine W_block ?_
       obtain ⟨g9, g10, h⟩ := gd2 h
       refine Vgs hT fN [] [] [0] ⟨[(4, kI i4_2), (6, kU (((l0.drop 1).take (l0.length - 1)).getD i34_2.toNat 0)), (32, kH 0), (33, kI (((l0.length - 1) : Nat) : Int)), (34, kI i34_2)], [], [⟨(.ro false), 5, 1, (l0.length - 1), .b ((l0.drop 1).take (l0.length - 1))⟩]⟩ (aP g9 (aP g10 aN)) ?_
       obtain ⟨g11, g12, g13, h⟩ := gd3 h
       refine Vg hT fN [] [] [0] ⟨[(4, kI (bitI .or .i64 (i4_2 * 2 ^ 8) (((((l0.drop 1).take (l0.length - 1)).getD i34_2.toNat 0).toNat : Nat) : Int))), (32, kH 0), (33, kI (((l0.length - 1) : Nat) : Int)), (34, kI i34_2)], [], [⟨(.ro false), 5, 1, (l0.length - 1), .b ((l0.drop 1).take (l0.length - 1))⟩]⟩ (aP g11 (aP g12 (aP g13 aN))) ?_
       obtain ⟨g14, h⟩ := gd_some h
       refine Vg hT fN [] [] [0] (pReadInt_l1_E l0 (bitI .or .i64 (i4_2 * 2 ^ 8) (((((l0.drop 1).take (l0.length - 1)).getD i34_2.toNat 0).toNat : Nat) : Int)) (i34_2 + 1)) (aP g14 aN) ?_
       exact ⟨_, _, rfl, h⟩
      ·replace h := bif_f h g15
       refine Vc [] [] ⟨[(4, kI i4_2)], [], []⟩ (W_exit ?_)
       refine Vrs hT [] ⟨[(2, kI i4_2), (3, .c (.s (.v .nilIface)))], [], []⟩ ?_
       refine Vc [.er 3 31 .i64] [] (pReadInt_R (i4_2, none)) (W_ret ?_)
       exact ⟨.inl rfl, by cases h; rfl⟩
  ·replace h := bif_f h g2
   refine Vg hT fN [(3, false), (7, false)] [] [0] ⟨[(0, kH 0), (7, kB false)], [], [ob 5 l0]⟩ (aP g1 (aP g2 aN)) ?_
   refine Vi (false) (fun hb => by cases hb) (fun _ => ?_)
   refine Vrs hT [0] ⟨[(0, kH 0), (21, kB (decide ((8 : Int) < ((l0.length : Nat) : Int))))], [], [ob 5 l0]⟩ ?_
   refine Vi ((decide ((8 : Int) < ((l0.length : Nat) : Int)))) (fun g30 => ?_) (fun g30 => ?_)
   ·replace h := bif_t h g30
    refine Vrs hT [] ⟨[(2, kI 0), (3, kE 31 (some 4))], [], []⟩ ?_
    refine Vc [] [] (pReadInt_R (0, (some 4))) (W_ret ?_)
    exact ⟨.inl rfl, by cases h; rfl⟩
   ·replace h := bif_f h g30
    refine W_skip ?_
    obtain ⟨g18, g19, g20, h⟩ := gd3 h
    refine Vgs hT fN [] [] [0] ⟨[(0, kH 0), (4, kI (IntKind.i8.wrap (((l0.getD 0 0).toNat : Nat) : Int)))], [], [ob 5 l0]⟩ (aP g18 (aP g19 (aP g20 aN))) ?_
    refine W_seq ?_
    obtain ⟨g21, g22, h⟩ := gd2 h
    refine Vgs hT fN [] [] [0] ⟨[(4, kI (IntKind.i8.wrap (((l0.getD 0 0).toNat : Nat) : Int))), (32, .c (.sl 0 1 (l0.length - 1))), (33, kI (((l0.length - 1) : Nat) : Int)), (34, kI 0)], [], [ob 5 l0]⟩ (aP g21 (aP g22 aN)) ?_
    refine W_block ?_
    refine Vc [.vw 32 false] [1] (pReadInt_l2_E l0 (IntKind.i8.wrap (((l0.getD 0 0).toNat : Nat) : Int)) 0) (W_lp ((pReadInt_l2_P n l0 r)) n ⟨_, _, rfl, h⟩ ?_)
    rintro fu_l2 _ ⟨i4_3, i34_3, rfl, h⟩
    cases fu_l2 with
    | zero => cases h
    | succ fu_l2 =>
     refine ⟨fu_l2, rfl, ?_⟩
     rw [pReadInt_l2] at h
     refine Vrs hT [0] ⟨[(4, kI i4_3), (32, kH 0), (33, kI (((l0.length - 1) : Nat) : Int)), (34, kI i34_3), (35, kB (decide (i34_3 < (((l0.length - 1) : Nat) : Int))))], [], [⟨(.ro false), 5, 1, (l0.length - 1), .b ((l0.drop 1).take (l0.length - 1))⟩]⟩ ?_
     refine W_seq ?_
     refine Vi ((decide (i34_3 < (((l0.length - 1) : Nat) : Int)))) (fun g29 => ?_) (fun g29 => ?_)
     ·replace h := bif_t h g29
      refine W_skip ?_
      refine W_seq ?_
      refine W_block ?_
      obtain ⟨g23, g24, h⟩ := gd2 h
      refine Vgs hT fN [] [] [0] ⟨[(4, kI i4_3), (6, kU (((l0.drop 1).take (l0.length - 1)).getD i34_3.toNat 0)), (32, kH 0), (33, kI (((l0.length - 1) : Nat) : Int)), (34, kI i34_3)], [], [⟨(.ro false), 5, 1, (l0.length - 1), .b ((l0.drop 1).take (l0.length - 1))⟩]⟩ (aP g23 (aP g24 aN)) ?_
      obtain ⟨g25, g26, g27, h⟩ := gd3 h
      refine Vg hT fN [] [] [0] ⟨[(4, kI (bitI .or .i64 (i4_3 * 2 ^ 8) (((((l0.drop 1).take (l0.length - 1)).getD i34_3.toNat 0).toNat : Nat) : Int))), (32, kH 0), (33, kI (((l0.length - 1) : Nat) : Int)), (34, kI i34_3)], [], [⟨(.ro false), 5, 1, (l0.length - 1), .b ((l0.drop 1).take (l0.length - 1))⟩]⟩ (aP g25 (aP g26 (aP g27 aN))) ?_
      obtain ⟨g28, h⟩ := gd_some h
      refine Vg hT fN [] [] [0] (pReadInt_l2_E l0 (bitI .or .i64 (i4_3 * 2 ^ 8) (((((l0.drop 1).take (l0.length - 1)).getD i34_3.toNat 0).toNat : Nat) : Int)) (i34_3 + 1)) (aP g28 aN) ?_
      exact ⟨_, _, rfl, h⟩
     ·replace h := bif_f h g29
      refine Vc [] [] ⟨[(4, kI i4_3)], [], []⟩ (W_exit ?_)
      refine Vrs hT [] ⟨[(2, kI i4_3), (3, .c (.s (.v .nilIface)))], [], []⟩ ?_
      refine Vc [.er 3 31 .i64] [] (pReadInt_R (i4_3, none)) (W_ret ?_)
      exact ⟨.inl rfl, by cases h; rfl⟩
def pident_R (r : Bool) : S := ⟨[(2, kB r)], [], []⟩
def pident_ct (n : Nat) (r : Bool) : Ct := ctc (rW 89).rd fun _ l0 => ct0 fun H => ([pident n l0 = some r], shA H.length (kB r), shH H.length [])
theorem pident_ok (n : Nat) (r : Bool) : FnOk Try.prog Tr 64 (pident_ct n r) := by
 refine fnok Try.func64 ?_
 refine HO_c (rW 89) fun l0 _ => HO_0 tabO_pr (pident_R r) [.tmp 2] [] 31 Try.func64 fun w hG h => ?_
 unfold pident at h
 have hT := tabO_pr
 refine Vrs hT [0] ⟨[(0, kH 0)], [], [ow 89 l0]⟩ ?_
 refine W_seq ?_
 refine W_seq ?_
 rcases Bool.eq_false_or_eq_true (decide (((l0.length : Nat) : Int) < (2 : Int))) with g1 | g1
 ·replace h := bif_t h g1
  refine Vg hT fN [(3, true)] [] [0] ⟨[(0, kH 0), (16, kB true)], [], [ow 89 l0]⟩ (aP g1 aN) ?_
  refine Vi (true) (fun _ => ?_) (fun hb => by cases hb)
  refine Vrs hT [] ⟨[(2, kB false)], [], []⟩ ?_
  refine Vc [] [] (pident_R false) (W_ret ?_)
  exact ⟨.inl rfl, by cases h; rfl⟩
 ·replace h := bif_f h g1
  rcases Bool.eq_false_or_eq_true (decide ((16 : Int) < ((l0.length : Nat) : Int))) with g2 | g2
  ·replace h := bif_t h g2
   refine Vg hT fN [(3, false), (8, true)] [] [0] ⟨[(0, kH 0), (16, kB true)], [], [ow 89 l0]⟩ (aP g1 (aP g2 aN)) ?_
   refine Vi (true) (fun _ => ?_) (fun hb => by cases hb)
   refine Vrs hT [] ⟨[(2, kB false)], [], []⟩ ?_
   refine Vc [] [] (pident_R false) (W_ret ?_)
   exact ⟨.inl rfl, by cases h; rfl⟩
  ·replace h := bif_f h g2
   obtain ⟨g3, g4, h⟩ := gd2 h
   refine Vg hT fN [(3, false), (8, false)] [] [0] ⟨[(0, kH 0), (16, kB (decide ((2 : UInt32) < (l0.getD 0 0))))], [], [ow 89 l0]⟩ (aP g1 (aP g2 (aP g3 (aP g4 aN)))) ?_
   refine Vi ((decide ((2 : UInt32) < (l0.getD 0 0)))) (fun g12 => ?_) (fun g12 => ?_)
   ·replace h := bif_t h g12
    refine Vrs hT [] ⟨[(2, kB false)], [], []⟩ ?_
    refine Vc [] [] (pident_R false) (W_ret ?_)
    exact ⟨.inl rfl, by cases h; rfl⟩
   ·replace h := bif_f h g12
    refine W_skip ?_
    refine W_seq ?_
    obtain ⟨g5, g6, h⟩ := gd2 h
    refine Vgs hT fN [] [] [0] ⟨[(0, kH 0), (20, kB (decide ((l0.getD 0 0) < (2 : UInt32))))], [], [ow 89 l0]⟩ (aP g5 (aP g6 aN)) ?_
    refine Vi ((decide ((l0.getD 0 0) < (2 : UInt32)))) (fun g11 => ?_) (fun g11 => ?_)
    ·replace h := bif_t h g11
     obtain ⟨g7, g8, h⟩ := gd2 h
     refine Vgs hT fN [] [] [] ⟨[(2, kB (decide ((l0.getD 1 0) < (40 : UInt32))))], [], []⟩ (aP g7 (aP g8 aN)) ?_
     refine Vc [] [] (pident_R (decide ((l0.getD 1 0) < (40 : UInt32)))) (W_ret ?_)
     exact ⟨.inl rfl, by cases h; rfl⟩
    ·replace h := bif_f h g11
     refine W_skip ?_
     obtain ⟨g9, g10, h⟩ := gd2 h
     refine Vgs hT fN [] [] [] ⟨[(2, kB (decide ((((l0.getD 1 0).toUInt64) + (80 : UInt64)) < (4294967296 : UInt64))))], [], []⟩ (aP g9 (aP g10 aN)) ?_
     refine Vc [] [] (pident_R (decide ((((l0.getD 1 0).toUInt64) + (80 : UInt64)) < (4294967296 : UInt64)))) (W_ret ?_)
     exact ⟨.inl rfl, by cases h; rfl⟩
def pOid_l1_E (a0 : List UInt32) (l4_1 : List UInt8) (i23_1 : Int) : S := ⟨[(4, kH 0), (21, kH 1), (22, kI (((a0.length - 2) : Nat) : Int)), (23, kI i23_1)], [], [nb 5 l4_1, ⟨(.ro false), 89, 1, (a0.length - 2), .w ((a0.drop 2).take (a0.length - 2))⟩]⟩
abbrev pOid_l1_P (n : Nat) (a0 : List UInt32) (r : List UInt8 × Option Int) (fu : Nat) : S → Prop := fun s => ∃ (l4_1 : List UInt8), ∃ (i23_1 : Int), s = pOid_l1_E a0 l4_1 i23_1 ∧ pOid_l1 n a0 fu l4_1 i23_1 = some r
def pOid_R (r : List UInt8 × Option Int) : S := ⟨[(2, kH 0), (3, kE 31 r.2)], [], [nb 5 r.1]⟩
def pOid_ct (n : Nat) (r : List UInt8 × Option Int) : Ct := ctc (rW 89).rd fun _ l0 => ct0 fun H => ([pOid n l0 = some r], shA H.length (.t [.c (.wh 0), .c (.s (.er 31 .i64 r.2))]), shH H.length [nb 5 r.1])
theorem pOid_ok (n : Nat) (r : List UInt8 × Option Int) : FnOk Try.prog Tr 32 (pOid_ct n r) := by
 refine fnok Try.func32 ?_
 refine HO_c (rW 89) fun l0 _ => HO_0 tabO_pr (pOid_R r) [.tmp 2, .tmp 3] [0] 33 Try.func32 fun w hG h => ?_
 unfold pOid at h
 have hT := tabO_pr
 refine Vrs hT [0] ⟨[(0, kH 0)], [], [ow 89 l0]⟩ ?_
 refine W_seq ?_
 obtain ⟨r8, g1, h⟩ := bind_some' h
 refine Vgs hT (fT 1 (pident_ok n r8) fN) [] [] [0] ⟨[(0, kH 0), (9, kB (!r8))], [], [ow 89 l0]⟩ (aP g1 aN) ?_
 refine Vi ((!r8)) (fun g13 => ?_) (fun g13 => ?_)
 ·replace h := bif_t h g13
  refine Vrs hT [] ⟨[(2, .c (.nils)), (3, kE 31 (some 1))], [], []⟩ ?_
  refine Vc [.nil 2 5 1 (.b [])] [0] (pOid_R ([], (some 1))) (W_ret ?_)
  exact ⟨.inl rfl, by cases h; rfl⟩
 ·replace h := bif_f h g13
  refine W_skip ?_
  obtain ⟨g2, g3, g4, g5, h⟩ := gd4 h
  refine Vds hT (fT 8 group_h fN) 7 [] [(0, false), (14, false), (17, false)] [] [0, 1] ⟨[(0, kH 0), (4, kH 1)], [], [ow 89 l0, nb 5 (grp (((40 : UInt32) * (l0.getD 0 0)) + (l0.getD 1 0)))]⟩ (aP g2 (aP g3 (aP g4 (aP g5 aN)))) ?_
  refine W_seq ?_
  obtain ⟨g6, g7, h⟩ := gd2 h
  refine Vgs hT fN [] [] [1, 0] ⟨[(4, kH 0), (21, .c (.sl 1 2 (l0.length - 2))), (22, kI (((l0.length - 2) : Nat) : Int)), (23, kI 0)], [], [nb 5 (grp (((40 : UInt32) * (l0.getD 0 0)) + (l0.getD 1 0))), ow 89 l0]⟩ (aP g6 (aP g7 aN)) ?_
  refine W_block ?_
  refine Vc [.vw 21 false] [0, 2] (pOid_l1_E l0 (grp (((40 : UInt32) * (l0.getD 0 0)) + (l0.getD 1 0))) 0) (W_lp ((pOid_l1_P n l0 r)) n ⟨_, _, rfl, h⟩ ?_)
  rintro fu_l1 _ ⟨l4_1, i23_1, rfl, h⟩
  cases fu_l1 with
  | zero => cases h
  | succ fu_l1 =>
   refine ⟨fu_l1, rfl, ?_⟩
   rw [pOid_l1] at h
   refine Vrs hT [0, 1] ⟨[(4, kH 0), (21, kH 1), (22, kI (((l0.length - 2) : Nat) : Int)), (23, kI i23_1), (24, kB (decide (i23_1 < (((l0.length - 2) : Nat) : Int))))], [], [nb 5 l4_1, ⟨(.ro false), 89, 1, (l0.length - 2), .w ((l0.drop 2).take (l0.length - 2))⟩]⟩ ?_
   refine W_seq ?_
   refine Vi ((decide (i23_1 < (((l0.length - 2) : Nat) : Int)))) (fun g12 => ?_) (fun g12 => ?_)
   ·replace h := bif_t h g12
    refine W_skip ?_
    refine W_seq ?_
    refine W_block ?_
    obtain ⟨g8, g9, h⟩ := gd2 h
    refine Vgs hT fN [] [] [0, 1] ⟨[(4, kH 0), (6, kX (((l0.drop 2).take (l0.length - 2)).getD i23_1.toNat 0)), (21, kH 1), (22, kI (((l0.length - 2) : Nat) : Int)), (23, kI i23_1)], [], [nb 5 l4_1, ⟨(.ro false), 89, 1, (l0.length - 2), .w ((l0.drop 2).take (l0.length - 2))⟩]⟩ (aP g8 (aP g9 aN)) ?_
    obtain ⟨g10, h⟩ := gd_some h
    refine Vg hT (fT 2 group_h fN) [] [] [3, 1] ⟨[(4, kH 0), (21, kH 1), (22, kI (((l0.length - 2) : Nat) : Int)), (23, kI i23_1)], [], [nb 5 (l4_1 ++ (grp (((l0.drop 2).take (l0.length - 2)).getD i23_1.toNat 0))), ⟨(.ro false), 89, 1, (l0.length - 2), .w ((l0.drop 2).take (l0.length - 2))⟩]⟩ (aP g10 aN) ?_
    obtain ⟨g11, h⟩ := gd_some h
    refine Vg hT fN [] [] [0, 1] (pOid_l1_E l0 (l4_1 ++ (grp (((l0.drop 2).take (l0.length - 2)).getD i23_1.toNat 0))) (i23_1 + 1)) (aP g11 aN) ?_
    exact ⟨_, _, rfl, h⟩
   ·replace h := bif_f h g12
    refine Vc [] [0] ⟨[(4, kH 0)], [], [nb 5 l4_1]⟩ (W_exit ?_)
    refine Vrs hT [0] ⟨[(2, kH 0), (3, .c (.s (.v .nilIface)))], [], [nb 5 l4_1]⟩ ?_
    refine Vc [.er 3 31 .i64] [0] (pOid_R (l4_1, none)) (W_ret ?_)
    exact ⟨.inl rfl, by cases h; rfl⟩
def pleap_R (r : Bool) : S := ⟨[(2, kB r)], [], []⟩
def pleap_ct (n : Nat) (r : Bool) : Ct := ctc rI.rd fun _ l0 => ct0 fun H => ([pleap n l0 = some r], shA H.length (kB r), shH H.length [])
theorem pleap_ok (n : Nat) (r : Bool) : FnOk Try.prog Tr 76 (pleap_ct n r) := by
 refine fnok Try.func76 ?_
 refine HO_c rI fun l0 _ => HO_0 tabO_pr (pleap_R r) [.tmp 2] [] 16 Try.func76 fun w hG h => ?_
 unfold pleap at h
 have hT := tabO_pr
 refine Vrs hT [] ⟨[(0, kI l0)], [], []⟩ ?_
 refine W_seq ?_
 obtain ⟨g1, h⟩ := gd_some h
 rcases Bool.eq_false_or_eq_true ((Int.tmod l0 4) == 0) with g2 | g2
 ·replace h := bif_t h g2
  obtain ⟨g3, h⟩ := gd_some h
  rcases Bool.eq_false_or_eq_true ((Int.tmod l0 100) != 0) with g4 | g4
  ·replace h := bif_t h g4
   refine Vg hT fN [(3, true), (7, true)] [] [] ⟨[(2, kB true)], [], []⟩ (aP g1 (aP g2 (aP g3 (aP g4 aN)))) ?_
   refine Vc [] [] (pleap_R true) (W_ret ?_)
   exact ⟨.inl rfl, by cases h; rfl⟩
  ·replace h := bif_f h g4
   obtain ⟨g5, h⟩ := gd_some h
   refine Vg hT fN [(3, true), (7, false)] [] [] ⟨[(2, kB ((Int.tmod l0 400) == 0))], [], []⟩ (aP g1 (aP g2 (aP g3 (aP g4 (aP g5 aN))))) ?_
   refine Vc [] [] (pleap_R ((Int.tmod l0 400) == 0)) (W_ret ?_)
   exact ⟨.inl rfl, by cases h; rfl⟩
 ·replace h := bif_f h g2
  refine Vg hT fN [(3, false)] [] [] ⟨[(2, kB false)], [], []⟩ (aP g1 (aP g2 aN)) ?_
  refine Vc [] [] (pleap_R false) (W_ret ?_)
  exact ⟨.inl rfl, by cases h; rfl⟩
def pdays_j1_E (a0 : Int) (a1 : Int) (p6_1 : Bool) : S := ⟨[(0, kI a0), (5, kI a1), (6, kB p6_1)], [], []⟩
abbrev pdays_j1_P (n : Nat) (a0 : Int) (a1 : Int) (r : Int) : S → Prop := fun s => ∃ (p6_1 : Bool), s = pdays_j1_E a0 a1 p6_1 ∧ pdays_j1 n a0 a1 p6_1 = some r
def pdays_R (r : Int) : S := ⟨[(4, kI r)], [], []⟩
def pdays_ct (n : Nat) (r : Int) : Ct := ctc rI.rd fun _ l0 => ctc rI.rd fun _ l1 => ct0 fun H => ([pdays n l0 l1 = some r], shA H.length (kI r), shH H.length [])
theorem pdays_ok (n : Nat) (r : Int) : FnOk Try.prog Tr 52 (pdays_ct n r) := by
 refine fnok Try.func52 ?_
 refine HO_c rI fun l0 _ => HO_c rI fun l1 _ => HO_0 tabO_pr (pdays_R r) [.tmp 4] [] 15 Try.func52 fun w hG h => ?_
 unfold pdays at h
 have hT := tabO_pr
 refine Vrs hT [] ⟨[(0, kI l0), (1, kI l1)], [], []⟩ ?_
 refine W_seq ?_
 refine Vrs hT [] ⟨[(0, kI l0), (5, kI l1)], [], []⟩ ?_
 refine W_block ?_
 refine W_join (pdays_j1_P n l0 l1 r) ?_ ?_
 ·rintro _ ⟨p6_1, rfl, h⟩
  unfold pdays_j1 at h
  refine Vi (p6_1) (fun g4 => ?_) (fun g4 => ?_)
  ·replace h := bif_t h g4
   refine Vrs hT [] ⟨[(4, kI 30)], [], []⟩ ?_
   refine Vc [] [] (pdays_R 30) (W_ret ?_)
   exact ⟨.inl rfl, by cases h; rfl⟩
  ·replace h := bif_f h g4
   refine Vrs hT [] ⟨[(0, kI l0), (11, kB (l1 == 2))], [], []⟩ ?_
   refine Vi ((l1 == 2)) (fun g3 => ?_) (fun g3 => ?_)
   ·replace h := bif_t h g3
    refine W_seq ?_
    obtain ⟨r14, g1, h⟩ := bind_some' h
    refine Vgs hT (fT 1 (pleap_ok n r14) fN) [] [] [] ⟨[(14, kB r14)], [], []⟩ (aP g1 aN) ?_
    refine Vi (r14) (fun g2 => ?_) (fun g2 => ?_)
    ·replace h := bif_t h g2
     refine Vrs hT [] ⟨[(4, kI 29)], [], []⟩ ?_
     refine Vc [] [] (pdays_R 29) (W_ret ?_)
     exact ⟨.inl rfl, by cases h; rfl⟩
    ·replace h := bif_f h g2
     refine W_skip ?_
     refine Vrs hT [] ⟨[(4, kI 28)], [], []⟩ ?_
     refine Vc [] [] (pdays_R 28) (W_ret ?_)
     exact ⟨.inl rfl, by cases h; rfl⟩
   ·replace h := bif_f h g3
    refine W_skip ?_
    refine Vrs hT [] ⟨[(4, kI 31)], [], []⟩ ?_
    refine Vc [] [] (pdays_R 31) (W_ret ?_)
    exact ⟨.inl rfl, by cases h; rfl⟩
 ·refine W_seq ?_
  refine Vr hT [] ⟨[(0, kI l0), (5, kI l1), (6, kB (l1 == 4))], [], []⟩ ?_
  refine Vi ((l1 == 4)) (fun g7 => ?_) (fun g7 => ?_)
  ·replace h := bif_t h g7
   refine Vc [] [] (pdays_j1_E l0 l1 (l1 == 4)) (W_skip ?_)
   exact ⟨_, rfl, h⟩
  ·replace h := bif_f h g7
   refine Vrs hT [] ⟨[(0, kI l0), (5, kI l1), (6, kB (l1 == 6))], [], []⟩ ?_
   refine Vi ((l1 == 6)) (fun g6 => ?_) (fun g6 => ?_)
   ·replace h := bif_t h g6
    refine Vc [] [] (pdays_j1_E l0 l1 (l1 == 6)) (W_skip ?_)
    exact ⟨_, rfl, h⟩
   ·replace h := bif_f h g6
    refine Vrs hT [] ⟨[(0, kI l0), (5, kI l1), (6, kB (l1 == 9))], [], []⟩ ?_
    refine Vi ((l1 == 9)) (fun g5 => ?_) (fun g5 => ?_)
    ·replace h := bif_t h g5
     refine Vc [] [] (pdays_j1_E l0 l1 (l1 == 9)) (W_skip ?_)
     exact ⟨_, rfl, h⟩
    ·replace h := bif_f h g5
     refine Vr hT [] (pdays_j1_E l0 l1 (l1 == 11)) ?_
     exact ⟨_, rfl, h⟩
def pvalid_R (r : Bool) : S := ⟨[(2, kB r)], [], []⟩
def pvalid_ct (n : Nat) (r : Bool) : Ct := ctc (rSt (lC cI (lC cI (lC cI (lC cI (lC cI (lC cI lN))))))).rd fun _ y0 => ct0 fun H => ([pvalid n y0.1 y0.2.1 y0.2.2.1 y0.2.2.2.1 y0.2.2.2.2.1 y0.2.2.2.2.2.1 = some r], shA H.length (kB r), shH H.length [])
theorem pvalid_ok (n : Nat) (r : Bool) : FnOk Try.prog Tr 50 (pvalid_ct n r) := by
 refine fnok Try.func50 ?_
 refine HO_c (rSt (lC cI (lC cI (lC cI (lC cI (lC cI (lC cI lN))))))) fun p0 _ => ?_
 obtain ⟨l0_0, l0_1, l0_2, l0_3, l0_4, l0_5, _⟩ := p0
 refine HO_0 tabO_pr (pvalid_R r) [.tmp 2] [] 64 Try.func50 fun w hG h => ?_
 have h : pvalid n l0_0 l0_1 l0_2 l0_3 l0_4 l0_5 = some r := h
 unfold pvalid at h
 have hT := tabO_pr
 refine Vrs hT [0] ⟨[(1, kP 0 0)], [], [⟨.blk, 34, 1, 6, .c [.s (.k .i64 l0_0), .s (.k .i64 l0_1), .s (.k .i64 l0_2), .s (.k .i64 l0_3), .s (.k .i64 l0_4), .s (.k .i64 l0_5)]⟩]⟩ ?_
 refine W_seq ?_
 refine W_seq ?_
 rcases Bool.eq_false_or_eq_true (decide (l0_0 < (1 : Int))) with g1 | g1
 ·replace h := bif_t h g1
  refine Vd hT fN 31 [(3, true)] [(1, false), (26, false), (28, false), (33, false)] [] [0] ⟨[(1, kP 0 0), (35, kB true)], [], [⟨.blk, 34, 1, 6, .c [.s (.k .i64 l0_0), .s (.k .i64 l0_1), .s (.k .i64 l0_2), .s (.k .i64 l0_3), .s (.k .i64 l0_4), .s (.k .i64 l0_5)]⟩]⟩ (aP g1 aN) ?_
  refine Vi (true) (fun _ => ?_) (fun hb => by cases hb)
  refine Vrs hT [] ⟨[(2, kB false)], [], []⟩ ?_
  refine Vc [] [] (pvalid_R false) (W_ret ?_)
  exact ⟨.inl rfl, by cases h; rfl⟩
 ·replace h := bif_f h g1
  rcases Bool.eq_false_or_eq_true (decide ((9999 : Int) < l0_0)) with g2 | g2
  ·replace h := bif_t h g2
   refine Vd hT fN 31 [(3, false), (8, true)] [(1, false), (26, false), (28, false), (33, false)] [] [0] ⟨[(1, kP 0 0), (35, kB true)], [], [⟨.blk, 34, 1, 6, .c [.s (.k .i64 l0_0), .s (.k .i64 l0_1), .s (.k .i64 l0_2), .s (.k .i64 l0_3), .s (.k .i64 l0_4), .s (.k .i64 l0_5)]⟩]⟩ (aP g1 (aP g2 aN)) ?_
   refine Vi (true) (fun _ => ?_) (fun hb => by cases hb)
   refine Vrs hT [] ⟨[(2, kB false)], [], []⟩ ?_
   refine Vc [] [] (pvalid_R false) (W_ret ?_)
   exact ⟨.inl rfl, by cases h; rfl⟩
  ·replace h := bif_f h g2
   rcases Bool.eq_false_or_eq_true (decide (l0_1 < (1 : Int))) with g3 | g3
   ·replace h := bif_t h g3
    refine Vd hT fN 31 [(3, false), (8, false), (13, true)] [(1, false), (26, false), (28, false), (33, false)] [] [0] ⟨[(1, kP 0 0), (35, kB true)], [], [⟨.blk, 34, 1, 6, .c [.s (.k .i64 l0_0), .s (.k .i64 l0_1), .s (.k .i64 l0_2), .s (.k .i64 l0_3), .s (.k .i64 l0_4), .s (.k .i64 l0_5)]⟩]⟩ (aP g1 (aP g2 (aP g3 aN))) ?_
    refine Vi (true) (fun _ => ?_) (fun hb => by cases hb)
    refine Vrs hT [] ⟨[(2, kB false)], [], []⟩ ?_
    refine Vc [] [] (pvalid_R false) (W_ret ?_)
    exact ⟨.inl rfl, by cases h; rfl⟩
   ·replace h := bif_f h g3
    rcases Bool.eq_false_or_eq_true (decide ((12 : Int) < l0_1)) with g4 | g4
    ·replace h := bif_t h g4
     refine Vd hT fN 31 [(3, false), (8, false), (13, false), (18, true)] [(1, false), (26, false), (28, false), (33, false)] [] [0] ⟨[(1, kP 0 0), (35, kB true)], [], [⟨.blk, 34, 1, 6, .c [.s (.k .i64 l0_0), .s (.k .i64 l0_1), .s (.k .i64 l0_2), .s (.k .i64 l0_3), .s (.k .i64 l0_4), .s (.k .i64 l0_5)]⟩]⟩ (aP g1 (aP g2 (aP g3 (aP g4 aN)))) ?_
     refine Vi (true) (fun _ => ?_) (fun hb => by cases hb)
     refine Vrs hT [] ⟨[(2, kB false)], [], []⟩ ?_
     refine Vc [] [] (pvalid_R false) (W_ret ?_)
     exact ⟨.inl rfl, by cases h; rfl⟩
    ·replace h := bif_f h g4
     rcases Bool.eq_false_or_eq_true (decide (l0_2 < (1 : Int))) with g5 | g5
     ·replace h := bif_t h g5
      refine Vd hT fN 31 [(3, false), (8, false), (13, false), (18, false), (23, true)] [(1, false), (26, false), (28, false), (33, false)] [] [0] ⟨[(1, kP 0 0), (35, kB true)], [], [⟨.blk, 34, 1, 6, .c [.s (.k .i64 l0_0), .s (.k .i64 l0_1), .s (.k .i64 l0_2), .s (.k .i64 l0_3), .s (.k .i64 l0_4), .s (.k .i64 l0_5)]⟩]⟩ (aP g1 (aP g2 (aP g3 (aP g4 (aP g5 aN))))) ?_
      refine Vi (true) (fun _ => ?_) (fun hb => by cases hb)
      refine Vrs hT [] ⟨[(2, kB false)], [], []⟩ ?_
      refine Vc [] [] (pvalid_R false) (W_ret ?_)
      exact ⟨.inl rfl, by cases h; rfl⟩
     ·replace h := bif_f h g5
      obtain ⟨r33, g6, h⟩ := bind_some' h
      refine Vd hT (fT 30 (pdays_ok n r33) fN) 31 [(3, false), (8, false), (13, false), (18, false), (23, false)] [(1, false), (26, false), (28, false), (33, false)] [] [0] ⟨[(1, kP 0 0), (35, kB (decide (r33 < l0_2)))], [], [⟨.blk, 34, 1, 6, .c [.s (.k .i64 l0_0), .s (.k .i64 l0_1), .s (.k .i64 l0_2), .s (.k .i64 l0_3), .s (.k .i64 l0_4), .s (.k .i64 l0_5)]⟩]⟩ (aP g1 (aP g2 (aP g3 (aP g4 (aP g5 (aP g6 aN)))))) ?_
      refine Vi ((decide (r33 < l0_2))) (fun g12 => ?_) (fun g12 => ?_)
      ·replace h := bif_t h g12
       refine Vrs hT [] ⟨[(2, kB false)], [], []⟩ ?_
       refine Vc [] [] (pvalid_R false) (W_ret ?_)
       exact ⟨.inl rfl, by cases h; rfl⟩
      ·replace h := bif_f h g12
       refine Vc [] [0] ⟨[(1, kP 0 0)], [], [⟨.blk, 34, 1, 6, .c [.s (.k .i64 l0_0), .s (.k .i64 l0_1), .s (.k .i64 l0_2), .s (.k .i64 l0_3), .s (.k .i64 l0_4), .s (.k .i64 l0_5)]⟩]⟩ (W_skip ?_)
       refine W_seq ?_
       rcases Bool.eq_false_or_eq_true (decide ((0 : Int) ≤ l0_3)) with g7 | g7
       ·replace h := bif_t h g7
        rcases Bool.eq_false_or_eq_true (decide (l0_3 ≤ (23 : Int))) with g8 | g8
        ·replace h := bif_t h g8
         rcases Bool.eq_false_or_eq_true (decide ((0 : Int) ≤ l0_4)) with g9 | g9
         ·replace h := bif_t h g9
          rcases Bool.eq_false_or_eq_true (decide (l0_4 ≤ (59 : Int))) with g10 | g10
          ·replace h := bif_t h g10
           rcases Bool.eq_false_or_eq_true (decide ((0 : Int) ≤ l0_5)) with g11 | g11
           ·replace h := bif_t h g11
            refine Vg hT fN [(3, true), (8, true), (13, true), (18, true), (23, true)] [] [] ⟨[(2, kB (decide (l0_5 ≤ (59 : Int))))], [], []⟩ (aP g7 (aP g8 (aP g9 (aP g10 (aP g11 aN))))) ?_
            refine Vc [] [] (pvalid_R (decide (l0_5 ≤ (59 : Int)))) (W_ret ?_)
            exact ⟨.inl rfl, by cases h; rfl⟩
           ·replace h := bif_f h g11
            refine Vg hT fN [(3, true), (8, true), (13, true), (18, true), (23, false)] [] [] ⟨[(2, kB false)], [], []⟩ (aP g7 (aP g8 (aP g9 (aP g10 (aP g11 aN))))) ?_
            refine Vc [] [] (pvalid_R false) (W_ret ?_)
            exact ⟨.inl rfl, by cases h; rfl⟩
          ·replace h := bif_f h g10
           refine Vg hT fN [(3, true), (8, true), (13, true), (18, false)] [] [] ⟨[(2, kB false)], [], []⟩ (aP g7 (aP g8 (aP g9 (aP g10 aN)))) ?_
           refine Vc [] [] (pvalid_R false) (W_ret ?_)
           exact ⟨.inl rfl, by cases h; rfl⟩
         ·replace h := bif_f h g9
          refine Vg hT fN [(3, true), (8, true), (13, false)] [] [] ⟨[(2, kB false)], [], []⟩ (aP g7 (aP g8 (aP g9 aN))) ?_
          refine Vc [] [] (pvalid_R false) (W_ret ?_)
          exact ⟨.inl rfl, by cases h; rfl⟩
        ·replace h := bif_f h g8
         refine Vg hT fN [(3, true), (8, false)] [] [] ⟨[(2, kB false)], [], []⟩ (aP g7 (aP g8 aN)) ?_
         refine Vc [] [] (pvalid_R false) (W_ret ?_)
         exact ⟨.inl rfl, by cases h; rfl⟩
       ·replace h := bif_f h g7
        refine Vg hT fN [(3, false)] [] [] ⟨[(2, kB false)], [], []⟩ (aP g7 aN) ?_
        refine Vc [] [] (pvalid_R false) (W_ret ?_)
        exact ⟨.inl rfl, by cases h; rfl⟩
def pTime_l1_E (b5_1 : UInt8) (z6_1 : List Int) (m6_1 : Nat) (l7_1 : List UInt8) (i43_1 : Int) : S := ⟨[(5, kU b5_1), (7, kH 0), (41, kH 1), (42, kI ((m6_1 : Nat) : Int)), (43, kI i43_1)], [], [nb 5 l7_1, ⟨(.ro true), 3, 1, m6_1, .z z6_1⟩]⟩
abbrev pTime_l1_P (n : Nat) (b5_1 : UInt8) (z6_1 : List Int) (m6_1 : Nat) (r : UInt8 × List UInt8 × Option Int) (fu : Nat) : S → Prop := fun s => ∃ (l7_1 : List UInt8), ∃ (i43_1 : Int), s = pTime_l1_E b5_1 z6_1 m6_1 l7_1 i43_1 ∧ pTime_l1 n b5_1 z6_1 m6_1 fu l7_1 i43_1 = some r
def pTime_j1_E (b5_1 : UInt8) (z6_1 : List Int) (m6_1 : Nat) : S := ⟨[(5, kU b5_1), (6, kH 0)], [], [⟨(.ro true), 3, 1, m6_1, .z z6_1⟩]⟩
abbrev pTime_j1_P (n : Nat) (r : UInt8 × List UInt8 × Option Int) : S → Prop := fun s => ∃ (b5_1 : UInt8), ∃ (z6_1 : List Int), ∃ (m6_1 : Nat), s = pTime_j1_E b5_1 z6_1 m6_1 ∧ pTime_j1 n b5_1 z6_1 m6_1 = some r
def pTime_R (r : UInt8 × List UInt8 × Option Int) : S := ⟨[(2, kU r.1), (3, kH 0), (4, kE 31 r.2.2)], [], [nb 5 r.2.1]⟩
def pTime_ct (n : Nat) (r : UInt8 × List UInt8 × Option Int) : Ct := ctc (rSt (lC cI (lC cI (lC cI (lC cI (lC cI (lC cI lN))))))).rd fun _ y0 => ct0 fun H => ([pTime n y0.1 y0.2.1 y0.2.2.1 y0.2.2.2.1 y0.2.2.2.2.1 y0.2.2.2.2.2.1 = some r], shA H.length (.t [.c (.s (.u8 r.1)), .c (.wh 0), .c (.s (.er 31 .i64 r.2.2))]), shH H.length [nb 5 r.2.1])
theorem pTime_ok (n : Nat) (r : UInt8 × List UInt8 × Option Int) : FnOk Try.prog Tr 20 (pTime_ct n r) := by
 refine fnok Try.func20 ?_
 refine HO_c (rSt (lC cI (lC cI (lC cI (lC cI (lC cI (lC cI lN))))))) fun p0 _ => ?_
 obtain ⟨l0_0, l0_1, l0_2, l0_3, l0_4, l0_5, _⟩ := p0
 refine HO_0 tabO_pr (pTime_R r) [.tmp 2, .tmp 3, .tmp 4] [0] 63 Try.func20 fun w hG h => ?_
 have h : pTime n l0_0 l0_1 l0_2 l0_3 l0_4 l0_5 = some r := h
 unfold pTime at h
 have hT := tabO_pr
 refine Vrs hT [0] ⟨[(1, kP 0 0)], [], [⟨.blk, 34, 1, 6, .c [.s (.k .i64 l0_0), .s (.k .i64 l0_1), .s (.k .i64 l0_2), .s (.k .i64 l0_3), .s (.k .i64 l0_4), .s (.k .i64 l0_5)]⟩]⟩ ?_
 refine W_seq ?_
 obtain ⟨r11, g1, h⟩ := bind_some' h
 refine Vgs hT (fT 1 (pvalid_ok n r11) fN) [] [] [0] ⟨[(1, kP 0 0), (12, kB (!r11))], [], [⟨.blk, 34, 1, 6, .c [.s (.k .i64 l0_0), .s (.k .i64 l0_1), .s (.k .i64 l0_2), .s (.k .i64 l0_3), .s (.k .i64 l0_4), .s (.k .i64 l0_5)]⟩]⟩ (aP g1 aN) ?_
 refine Vi ((!r11)) (fun g20 => ?_) (fun g20 => ?_)
 ·replace h := bif_t h g20
  refine Vrs hT [] ⟨[(2, kU 0), (3, .c (.nils)), (4, kE 31 (some 1))], [], []⟩ ?_
  refine Vc [.nil 3 5 1 (.b [])] [0] (pTime_R (0, [], (some 1))) (W_ret ?_)
  exact ⟨.inl rfl, by cases h; rfl⟩
 ·replace h := bif_f h g20
  refine W_skip ?_
  obtain ⟨g2, g3, g4, h⟩ := gd3 h
  refine Vds hT fN 18 [] [(1, false), (5, false), (30, false)] [] [0, 1] ⟨[(1, kP 0 0), (5, kU 24), (6, kH 1)], [], [⟨.blk, 34, 1, 6, .c [.s (.k .i64 l0_0), .s (.k .i64 l0_1), .s (.k .i64 l0_2), .s (.k .i64 l0_3), .s (.k .i64 l0_4), .s (.k .i64 l0_5)]⟩, ⟨.row, 3, 1, 7, .z [(Int.tdiv l0_0 100), (Int.tmod l0_0 100), l0_1, l0_2, l0_3, l0_4, l0_5]⟩]⟩ (aP g2 (aP g3 (aP g4 aN))) ?_
  refine W_join (pTime_j1_P n r) ?_ ?_
  ·rintro _ ⟨b5_1, z6_1, m6_1, rfl, h⟩
   unfold pTime_j1 at h
   refine Vrs hT [0] ⟨[(5, kU b5_1), (6, kH 0), (7, .c (.nils))], [], [⟨(.ro true), 3, 1, m6_1, .z z6_1⟩]⟩ ?_
   refine W_seq ?_
   refine Vrs hT [0] ⟨[(5, kU b5_1), (7, .c (.nils)), (41, kH 0), (42, kI ((m6_1 : Nat) : Int)), (43, kI 0)], [], [⟨(.ro true), 3, 1, m6_1, .z z6_1⟩]⟩ ?_
   refine W_block ?_
   refine Vc [.nil 7 5 1 (.b [])] [1, 0] (pTime_l1_E b5_1 z6_1 m6_1 [] 0) (W_lp ((pTime_l1_P n b5_1 z6_1 m6_1 r)) n ⟨_, _, rfl, h⟩ ?_)
   rintro fu_l1 _ ⟨l7_1, i43_1, rfl, h⟩
   cases fu_l1 with
   | zero => cases h
   | succ fu_l1 =>
    refine ⟨fu_l1, rfl, ?_⟩
    rw [pTime_l1] at h
    refine Vrs hT [0, 1] ⟨[(5, kU b5_1), (7, kH 0), (41, kH 1), (42, kI ((m6_1 : Nat) : Int)), (43, kI i43_1), (44, kB (decide (i43_1 < ((m6_1 : Nat) : Int))))], [], [nb 5 l7_1, ⟨(.ro true), 3, 1, m6_1, .z z6_1⟩]⟩ ?_
    refine W_seq ?_
    refine Vi ((decide (i43_1 < ((m6_1 : Nat) : Int)))) (fun g15 => ?_) (fun g15 => ?_)
    ·replace h := bif_t h g15
     refine W_skip ?_
     refine W_seq ?_
     refine W_block ?_
     obtain ⟨g5, g6, h⟩ := gd2 h
     refine Vgs hT fN [] [] [0, 1] ⟨[(5, kU b5_1), (7, kH 0), (9, kI (z6_1.getD i43_1.toNat 0)), (41, kH 1), (42, kI ((m6_1 : Nat) : Int)), (43, kI i43_1)], [], [nb 5 l7_1, ⟨(.ro true), 3, 1, m6_1, .z z6_1⟩]⟩ (aP g5 (aP g6 aN)) ?_
     obtain ⟨g7, g8, g9, g10, g11, h⟩ := gd5 h
     obtain ⟨g12, h⟩ := gd_some h
     refine Vg hT fN [] [] [3, 1] ⟨[(5, kU b5_1), (7, kH 0), (41, kH 1), (42, kI ((m6_1 : Nat) : Int)), (43, kI i43_1)], [], [nb 5 (l7_1 ++ [(UInt8.ofInt (48 + (Int.tdiv (z6_1.getD i43_1.toNat 0) 10))), (UInt8.ofInt (48 + (Int.tmod (z6_1.getD i43_1.toNat 0) 10)))]), ⟨(.ro true), 3, 1, m6_1, .z z6_1⟩]⟩ (aP g7 (aP g8 (aP g9 (aP g10 (aP g11 (aP g12 aN)))))) ?_
     obtain ⟨g13, h⟩ := gd_some h
     refine Vg hT fN [] [] [0, 1] (pTime_l1_E b5_1 z6_1 m6_1 (l7_1 ++ [(UInt8.ofInt (48 + (Int.tdiv (z6_1.getD i43_1.toNat 0) 10))), (UInt8.ofInt (48 + (Int.tmod (z6_1.getD i43_1.toNat 0) 10)))]) (i43_1 + 1)) (aP g13 aN) ?_
     exact ⟨_, _, rfl, h⟩
    ·replace h := bif_f h g15
     refine Vc [] [0] ⟨[(5, kU b5_1), (7, kH 0)], [], [nb 5 l7_1]⟩ (W_exit ?_)
     obtain ⟨g14, h⟩ := gd_some h
     refine Vgs hT fN [] [] [2] ⟨[(2, kU b5_1), (3, kH 0), (4, .c (.s (.v .nilIface)))], [], [nb 5 (l7_1 ++ [90])]⟩ (aP g14 aN) ?_
     refine Vc [.er 4 31 .i64] [0] (pTime_R (b5_1, (l7_1 ++ [90]), none)) (W_ret ?_)
     exact ⟨.inl rfl, by cases h; rfl⟩
  ·refine W_seq ?_
   rcases Bool.eq_false_or_eq_true (decide ((1950 : Int) ≤ l0_0)) with g16 | g16
   ·replace h := bif_t h g16
    refine Vg hT fN [(3, true)] [] [1] ⟨[(5, kU 24), (6, kH 0), (38, kB (decide (l0_0 < (2050 : Int))))], [], [⟨.row, 3, 1, 7, .z [(Int.tdiv l0_0 100), (Int.tmod l0_0 100), l0_1, l0_2, l0_3, l0_4, l0_5]⟩]⟩ (aP g16 aN) ?_
    refine Vi ((decide (l0_0 < (2050 : Int)))) (fun g19 => ?_) (fun g19 => ?_)
    ·replace h := bif_t h g19
     obtain ⟨g17, g18, h⟩ := gd2 h
     refine Vd hT fN 3 [] [(5, false), (6, false), (40, false)] [.vw 6 true] [1] (pTime_j1_E 23 (([(Int.tdiv l0_0 100), (Int.tmod l0_0 100), l0_1, l0_2, l0_3, l0_4, l0_5].drop 1).take 6) 6) (aP g17 (aP g18 aN)) ?_
     exact ⟨_, _, _, rfl, h⟩
    ·replace h := bif_f h g19
     refine Vc [.vw 6 true] [1] (pTime_j1_E 24 [(Int.tdiv l0_0 100), (Int.tmod l0_0 100), l0_1, l0_2, l0_3, l0_4, l0_5] 7) (W_skip ?_)
     exact ⟨_, _, _, rfl, h⟩
   ·replace h := bif_f h g16
    refine Vg hT fN [(3, false)] [] [1] ⟨[(5, kU 24), (6, kH 0), (38, kB false)], [], [⟨.row, 3, 1, 7, .z [(Int.tdiv l0_0 100), (Int.tmod l0_0 100), l0_1, l0_2, l0_3, l0_4, l0_5]⟩]⟩ (aP g16 aN) ?_
    refine Vi (false) (fun hb => by cases hb) (fun _ => ?_)
    refine Vc [.vw 6 true] [1] (pTime_j1_E 24 [(Int.tdiv l0_0 100), (Int.tmod l0_0 100), l0_1, l0_2, l0_3, l0_4, l0_5] 7) (W_skip ?_)
    exact ⟨_, _, _, rfl, h⟩
def pahead_R (r : Int) : S := ⟨[(2, kI r)], [], []⟩
def pahead_ct (n : Nat) (r : Int) : Ct := ctc rI.rd fun _ l0 => ct0 fun H => ([pahead n l0 = some r], shA H.length (kI r), shH H.length [])
theorem pahead_ok (n : Nat) (r : Int) : FnOk Try.prog Tr 51 (pahead_ct n r) := by
 refine fnok Try.func51 ?_
 refine HO_c rI fun l0 _ => HO_0 tabO_pr (pahead_R r) [.tmp 2] [] 17 Try.func51 fun w hG h => ?_
 unfold pahead at h
 have hT := tabO_pr
 refine Vrs hT [] ⟨[(0, kI l0)], [], []⟩ ?_
 obtain ⟨g1, h⟩ := gd_some h
 refine Vgs hT fN [] [] [] ⟨[(3, kI (l0 - 1))], [], []⟩ (aP g1 aN) ?_
 obtain ⟨g2, g3, g4, g5, g6, h⟩ := gd5 h
 obtain ⟨g7, g8, g9, g10, g11, h⟩ := gd5 h
 refine Vgs hT fN [] [] [] ⟨[(2, kI ((((365 * (l0 - 1)) + (Int.tdiv (l0 - 1) 4)) - (Int.tdiv (l0 - 1) 100)) + (Int.tdiv (l0 - 1) 400)))], [], []⟩ (aP g2 (aP g3 (aP g4 (aP g5 (aP g6 (aP g7 (aP g8 (aP g9 (aP g10 (aP g11 aN)))))))))) ?_
 refine Vc [] [] (pahead_R ((((365 * (l0 - 1)) + (Int.tdiv (l0 - 1) 4)) - (Int.tdiv (l0 - 1) 100)) + (Int.tdiv (l0 - 1) 400))) (W_ret ?_)
 exact ⟨.inl rfl, by cases h; rfl⟩
def pCount_l1_E (a0_0 : Int) (a0_1 : Int) (a0_2 : Int) (a0_3 : Int) (a0_4 : Int) (a0_5 : Int) (i4_1 : Int) (i5_1 : Int) : S := ⟨[(1, kP 0 0), (4, kI i4_1), (5, kI i5_1)], [], [⟨.blk, 34, 1, 6, .c [.s (.k .i64 a0_0), .s (.k .i64 a0_1), .s (.k .i64 a0_2), .s (.k .i64 a0_3), .s (.k .i64 a0_4), .s (.k .i64 a0_5)]⟩]⟩
abbrev pCount_l1_P (n : Nat) (a0_0 : Int) (a0_1 : Int) (a0_2 : Int) (a0_3 : Int) (a0_4 : Int) (a0_5 : Int) (r : Int × Option Int) (fu : Nat) : S → Prop := fun s => ∃ (i4_1 : Int), ∃ (i5_1 : Int), s = pCount_l1_E a0_0 a0_1 a0_2 a0_3 a0_4 a0_5 i4_1 i5_1 ∧ pCount_l1 n a0_0 a0_1 a0_2 a0_3 a0_4 a0_5 fu i4_1 i5_1 = some r
def pCount_R (r : Int × Option Int) : S := ⟨[(2, kI r.1), (3, kE 31 r.2)], [], []⟩
def pCount_ct (n : Nat) (r : Int × Option Int) : Ct := ctc (rSt (lC cI (lC cI (lC cI (lC cI (lC cI (lC cI lN))))))).rd fun _ y0 => ct0 fun H => ([pCount n y0.1 y0.2.1 y0.2.2.1 y0.2.2.2.1 y0.2.2.2.2.1 y0.2.2.2.2.2.1 = some r], shA H.length (.t [.c (.s (.k .i64 r.1)), .c (.s (.er 31 .i64 r.2))]), shH H.length [])
theorem pCount_ok (n : Nat) (r : Int × Option Int) : FnOk Try.prog Tr 19 (pCount_ct n r) := by
 refine fnok Try.func19 ?_
 refine HO_c (rSt (lC cI (lC cI (lC cI (lC cI (lC cI (lC cI lN))))))) fun p0 _ => ?_
 obtain ⟨l0_0, l0_1, l0_2, l0_3, l0_4, l0_5, _⟩ := p0
 refine HO_0 tabO_pr (pCount_R r) [.tmp 2, .tmp 3] [] 42 Try.func19 fun w hG h => ?_
 have h : pCount n l0_0 l0_1 l0_2 l0_3 l0_4 l0_5 = some r := h
 unfold pCount at h
 have hT := tabO_pr
 refine Vrs hT [0] ⟨[(1, kP 0 0)], [], [⟨.blk, 34, 1, 6, .c [.s (.k .i64 l0_0), .s (.k .i64 l0_1), .s (.k .i64 l0_2), .s (.k .i64 l0_3), .s (.k .i64 l0_4), .s (.k .i64 l0_5)]⟩]⟩ ?_
 refine W_seq ?_
 obtain ⟨r7, g1, h⟩ := bind_some' h
 refine Vgs hT (fT 1 (pvalid_ok n r7) fN) [] [] [0] ⟨[(1, kP 0 0), (8, kB (!r7))], [], [⟨.blk, 34, 1, 6, .c [.s (.k .i64 l0_0), .s (.k .i64 l0_1), .s (.k .i64 l0_2), .s (.k .i64 l0_3), .s (.k .i64 l0_4), .s (.k .i64 l0_5)]⟩]⟩ (aP g1 aN) ?_
 refine Vi ((!r7)) (fun g15 => ?_) (fun g15 => ?_)
 ·replace h := bif_t h g15
  refine Vrs hT [] ⟨[(2, kI 0), (3, kE 31 (some 1))], [], []⟩ ?_
  refine Vc [] [] (pCount_R (0, (some 1))) (W_ret ?_)
  exact ⟨.inl rfl, by cases h; rfl⟩
 ·replace h := bif_f h g15
  refine W_skip ?_
  obtain ⟨r12, g2, h⟩ := bind_some' h
  obtain ⟨g3, g4, h⟩ := gd2 h
  refine Vds hT (fT 2 (pahead_ok n r12) fN) 6 [] [(1, false), (12, false), (15, false)] [] [0] ⟨[(1, kP 0 0), (4, kI (r12 + (l0_2 - 1)))], [], [⟨.blk, 34, 1, 6, .c [.s (.k .i64 l0_0), .s (.k .i64 l0_1), .s (.k .i64 l0_2), .s (.k .i64 l0_3), .s (.k .i64 l0_4), .s (.k .i64 l0_5)]⟩]⟩ (aP g2 (aP g3 (aP g4 aN))) ?_
  refine W_seq ?_
  refine Vrs hT [0] ⟨[(1, kP 0 0), (4, kI (r12 + (l0_2 - 1))), (5, kI 1)], [], [⟨.blk, 34, 1, 6, .c [.s (.k .i64 l0_0), .s (.k .i64 l0_1), .s (.k .i64 l0_2), .s (.k .i64 l0_3), .s (.k .i64 l0_4), .s (.k .i64 l0_5)]⟩]⟩ ?_
  refine W_block ?_
  refine Vc [] [0] (pCount_l1_E l0_0 l0_1 l0_2 l0_3 l0_4 l0_5 (r12 + (l0_2 - 1)) 1) (W_lp ((pCount_l1_P n l0_0 l0_1 l0_2 l0_3 l0_4 l0_5 r)) n ⟨_, _, rfl, h⟩ ?_)
  rintro fu_l1 _ ⟨i4_1, i5_1, rfl, h⟩
  cases fu_l1 with
  | zero => cases h
  | succ fu_l1 =>
   refine ⟨fu_l1, rfl, ?_⟩
   rw [pCount_l1] at h
   refine W_seq ?_
   refine Vrs hT [0] ⟨[(1, kP 0 0), (4, kI i4_1), (5, kI i5_1), (20, kB (decide (i5_1 < l0_1)))], [], [⟨.blk, 34, 1, 6, .c [.s (.k .i64 l0_0), .s (.k .i64 l0_1), .s (.k .i64 l0_2), .s (.k .i64 l0_3), .s (.k .i64 l0_4), .s (.k .i64 l0_5)]⟩]⟩ ?_
   refine Vi ((decide (i5_1 < l0_1))) (fun g14 => ?_) (fun g14 => ?_)
   ·replace h := bif_t h g14
    refine W_skip ?_
    refine W_seq ?_
    refine W_block ?_
    obtain ⟨r27_2, g5, h⟩ := bind_some' h
    obtain ⟨g6, h⟩ := gd_some h
    refine Vg hT (fT 4 (pdays_ok n r27_2) fN) [] [] [0] ⟨[(1, kP 0 0), (4, kI (i4_1 + r27_2)), (5, kI i5_1)], [], [⟨.blk, 34, 1, 6, .c [.s (.k .i64 l0_0), .s (.k .i64 l0_1), .s (.k .i64 l0_2), .s (.k .i64 l0_3), .s (.k .i64 l0_4), .s (.k .i64 l0_5)]⟩]⟩ (aP g5 (aP g6 aN)) ?_
    obtain ⟨g7, h⟩ := gd_some h
    refine Vg hT fN [] [] [0] (pCount_l1_E l0_0 l0_1 l0_2 l0_3 l0_4 l0_5 (i4_1 + r27_2) (i5_1 + 1)) (aP g7 aN) ?_
    exact ⟨_, _, rfl, h⟩
   ·replace h := bif_f h g14
    refine Vc [] [0] ⟨[(1, kP 0 0), (4, kI i4_1)], [], [⟨.blk, 34, 1, 6, .c [.s (.k .i64 l0_0), .s (.k .i64 l0_1), .s (.k .i64 l0_2), .s (.k .i64 l0_3), .s (.k .i64 l0_4), .s (.k .i64 l0_5)]⟩]⟩ (W_exit ?_)
    obtain ⟨g8, g9, g10, g11, g12, h⟩ := gd5 h
    obtain ⟨g13, h⟩ := gd_some h
    refine Vgs hT fN [] [] [] ⟨[(2, kI ((i4_1 * 86400) + (((l0_3 * 3600) + (l0_4 * 60)) + l0_5))), (3, .c (.s (.v .nilIface)))], [], []⟩ (aP g8 (aP g9 (aP g10 (aP g11 (aP g12 (aP g13 aN)))))) ?_
    refine Vc [.er 3 31 .i64] [] (pCount_R (((i4_1 * 86400) + (((l0_3 * 3600) + (l0_4 * 60)) + l0_5)), none)) (W_ret ?_)
    exact ⟨.inl rfl, by cases h; rfl⟩
def pInt_j1_E (l3_6 : List UInt8) (m3_4 : Nat) : S := ⟨[(3, kH 0)], [], [⟨(.ro true), 5, 1, m3_4, .b l3_6⟩]⟩
abbrev pInt_j1_P (n : Nat) (r : List UInt8) : S → Prop := fun s => ∃ (l3_6 : List UInt8), ∃ (m3_4 : Nat), s = pInt_j1_E l3_6 m3_4 ∧ pInt_j1 n l3_6 m3_4 = some r
def pInt_l2_E (l3_7 : List UInt8) (m3_5 : Nat) : S := ⟨[(3, kH 0)], [], [⟨(.ro true), 5, 1, m3_5, .b l3_7⟩]⟩
abbrev pInt_l2_P (n : Nat) (r : List UInt8) (fu : Nat) : S → Prop := fun s => ∃ (l3_7 : List UInt8), ∃ (m3_5 : Nat), s = pInt_l2_E l3_7 m3_5 ∧ pInt_l2 n fu l3_7 m3_5 = some r
def pInt_l1_E (a0 : Int) (l3_4 : List UInt8) (i4_1 : Int) : S := ⟨[(0, kI a0), (3, kH 0), (4, kI i4_1)], [], [nb 5 l3_4]⟩
abbrev pInt_l1_P (n : Nat) (a0 : Int) (r : List UInt8) (fu : Nat) : S → Prop := fun s => ∃ (l3_4 : List UInt8), ∃ (i4_1 : Int), s = pInt_l1_E a0 l3_4 i4_1 ∧ pInt_l1 n a0 fu l3_4 i4_1 = some r
def pInt_R (r : List UInt8) : S := ⟨[(2, kH 0)], [], [nb 5 r]⟩
def pInt_ct (n : Nat) (r : List UInt8) : Ct := ctc rI.rd fun _ l0 => ct0 fun H => ([pInt n l0 = some r], shA H.length (kH 0), shH H.length [nb 5 r])
theorem pInt_ok (n : Nat) (r : List UInt8) : FnOk Try.prog Tr 15 (pInt_ct n r) := by
 refine fnok Try.func15 ?_
 refine HO_c rI fun l0 _ => HO_0 tabO_pr (pInt_R r) [.tmp 2] [0] 27 Try.func15 fun w hG h => ?_
 unfold pInt at h
 have hT := tabO_pr
 refine Vrs hT [] ⟨[(0, kI l0)], [], []⟩ ?_
 refine Vrs hT [] ⟨[(0, kI l0), (3, .c (.nils))], [], []⟩ ?_
 refine W_seq ?_
 refine Vrs hT [] ⟨[(0, kI l0), (3, .c (.nils)), (4, kI 56)], [], []⟩ ?_
 refine W_block ?_
 refine Vc [.nil 3 5 1 (.b [])] [0] (pInt_l1_E l0 [] 56) (W_lp ((pInt_l1_P n l0 r)) n ⟨_, _, rfl, h⟩ ?_)
 rintro fu_l1 _ ⟨l3_4, i4_1, rfl, h⟩
 cases fu_l1 with
 | zero => cases h
 | succ fu_l1 =>
  refine ⟨fu_l1, rfl, ?_⟩
  rw [pInt_l1] at h
  refine W_seq ?_
  refine Vrs hT [0] ⟨[(0, kI l0), (3, kH 0), (4, kI i4_1), (6, kB (decide ((0 : Int) ≤ i4_1)))], [], [nb 5 l3_4]⟩ ?_
  refine Vi ((decide ((0 : Int) ≤ i4_1))) (fun g11 => ?_) (fun g11 => ?_)
  ·replace h := bif_t h g11
   refine W_skip ?_
   refine W_seq ?_
   refine W_block ?_
   obtain ⟨g1, g2, g3, h⟩ := gd3 h
   refine Vg hT fN [] [] [2] ⟨[(0, kI l0), (3, kH 0), (4, kI i4_1)], [], [nb 5 (l3_4 ++ [(UInt8.ofInt (l0 / 2 ^ i4_1.toNat))])]⟩ (aP g1 (aP g2 (aP g3 aN))) ?_
   obtain ⟨g4, h⟩ := gd_some h
   refine Vg hT fN [] [] [0] (pInt_l1_E l0 (l3_4 ++ [(UInt8.ofInt (l0 / 2 ^ i4_1.toNat))]) (i4_1 - 8)) (aP g4 aN) ?_
   exact ⟨_, _, rfl, h⟩
  ·replace h := bif_f h g11
   refine Vc [] [0] ⟨[(3, kH 0)], [], [nb 5 l3_4]⟩ (W_exit ?_)
   refine W_join (pInt_j1_P n r) ?_ ?_
   ·rintro _ ⟨l3_6, m3_4, rfl, h⟩
    unfold pInt_j1 at h
    obtain ⟨g5, h⟩ := gd_some h
    refine Vgs hT (fT 1 cloneb_h fN) [] [] [1] ⟨[(2, kH 0)], [], [nb 5 l3_6]⟩ (aP g5 aN) ?_
    refine Vc [] [0] (pInt_R l3_6) (W_ret ?_)
    exact ⟨.inl rfl, by cases h; rfl⟩
   ·refine W_block ?_
    refine Vc [.vw 3 true] [1] (pInt_l2_E l3_4 l3_4.length) (W_lp ((pInt_l2_P n r)) n ⟨_, _, rfl, h⟩ ?_)
    rintro fu_l2 _ ⟨l3_7, m3_5, rfl, h⟩
    cases fu_l2 with
    | zero => cases h
    | succ fu_l2 =>
     refine ⟨fu_l2, rfl, ?_⟩
     rw [pInt_l2] at h
     refine W_seq ?_
     refine W_seq ?_
     rcases Bool.eq_false_or_eq_true (decide ((1 : Int) < ((m3_5 : Nat) : Int))) with g6 | g6
     ·replace h := bif_t h g6
      obtain ⟨r21_5, g7, h⟩ := bind_some' h
      refine Vg hT (fT 5 (pspare_ok n r21_5) fN) [(3, true)] [] [0] ⟨[(3, kH 0), (22, kB r21_5)], [], [⟨(.ro true), 5, 1, m3_5, .b l3_7⟩]⟩ (aP g6 (aP g7 aN)) ?_
      refine Vi (r21_5) (fun g10 => ?_) (fun g10 => ?_)
      ·replace h := bif_t h g10
       refine W_skip ?_
       refine W_block ?_
       obtain ⟨g8, g9, h⟩ := gd2 h
       refine Vg hT fN [] [.vw 3 true] [1] (pInt_l2_E ((l3_7.drop 1).take (m3_5 - 1)) (m3_5 - 1)) (aP g8 (aP g9 aN)) ?_
       exact ⟨_, _, rfl, h⟩
      ·replace h := bif_f h g10
       refine Vc [] [0] (pInt_j1_E l3_7 m3_5) (W_exit ?_)
       exact ⟨_, _, rfl, h⟩
     ·replace h := bif_f h g6
      refine Vg hT fN [(3, false)] [] [0] ⟨[(3, kH 0), (22, kB false)], [], [⟨(.ro true), 5, 1, m3_5, .b l3_7⟩]⟩ (aP g6 aN) ?_
      refine Vi (false) (fun hb => by cases hb) (fun _ => ?_)
      refine Vc [] [0] (pInt_j1_E l3_7 m3_5) (W_exit ?_)
      exact ⟨_, _, rfl, h⟩
def pup_R (r : Bool) : S := ⟨[(0, kB r)], [], []⟩
def pup_ct (n : Nat) (r : Bool) : Ct := ct0 fun H => ([pup n = some r], shA H.length (kB r), shH H.length [])
theorem pup_ok (n : Nat) (r : Bool) : FnOk Try.prog Tr 14 (pup_ct n r) := by
 refine fnok Try.func14 ?_
 refine HO_0 tabO_pr (pup_R r) [.tmp 0] [] 69 Try.func14 fun w hG h => ?_
 unfold pup at h
 have hT := tabO_pr
 refine Vrs hT [] ⟨[], [], []⟩ ?_
 obtain ⟨r12, g1, h⟩ := bind_some' h
 refine Vgs hT (fT 1 (pReadInt_ok n r12) fN) [] [] [] ⟨[(2, kE 31 r12.2)], [], []⟩ (aP g1 aN) ?_
 obtain ⟨r17, g2, h⟩ := bind_some' h
 refine Vgs hT (fT 1 (pOid_ok n r17) fN) [] [] [1] ⟨[(2, kE 31 r12.2), (3, kH 0), (4, kE 31 r17.2)], [], [nb 5 r17.1]⟩ (aP g2 aN) ?_
 obtain ⟨r22, g3, h⟩ := bind_some' h
 refine Vgs hT (fT 1 (pTime_ok n r22) fN) [] [] [0, 1] ⟨[(2, kE 31 r12.2), (3, kH 0), (4, kE 31 r17.2), (5, kU r22.1), (6, kH 1), (7, kE 31 r22.2.2)], [], [nb 5 r17.1, nb 5 r22.2.1]⟩ (aP g3 aN) ?_
 obtain ⟨r28, g4, h⟩ := bind_some' h
 refine Vgs hT (fT 1 (pCount_ok n r28) fN) [] [] [0, 1] ⟨[(2, kE 31 r12.2), (3, kH 0), (4, kE 31 r17.2), (5, kU r22.1), (6, kH 1), (7, kE 31 r22.2.2), (8, kI r28.1), (9, kE 31 r28.2)], [], [nb 5 r17.1, nb 5 r22.2.1]⟩ (aP g4 aN) ?_
 refine W_seq ?_
 obtain ⟨r31, g5, h⟩ := bind_some' h
 rcases Bool.eq_false_or_eq_true (r31 == ([255, 127] : List UInt8)) with g6 | g6
 ·replace h := bif_t h g6
  obtain ⟨g7, h⟩ := gd_some h
  rcases Bool.eq_false_or_eq_true (r12.2 == (some 2)) with g8 | g8
  ·replace h := bif_t h g8
   rcases Bool.eq_false_or_eq_true ((r17.2).isNone) with g9 | g9
   ·replace h := bif_t h g9
    rcases Bool.eq_false_or_eq_true (r17.1 == ([42, 134, 72, 134, 247, 13] : List UInt8)) with g10 | g10
    ·replace h := bif_t h g10
     rcases Bool.eq_false_or_eq_true ((r22.2.2).isNone) with g11 | g11
     ·replace h := bif_t h g11
      rcases Bool.eq_false_or_eq_true (r22.1 == 23) with g12 | g12
      ·replace h := bif_t h g12
       rcases Bool.eq_false_or_eq_true (r22.2.1 == ([52, 57, 49, 50, 51, 49, 50, 51, 53, 57, 53, 57, 90] : List UInt8)) with g13 | g13
       ·replace h := bif_t h g13
        rcases Bool.eq_false_or_eq_true ((r28.2).isNone) with g14 | g14
        ·replace h := bif_t h g14
         refine Vg hT (fT 0 (pInt_ok n r31) fN) [(3, true), (8, true), (12, true), (17, true), (21, true), (25, true), (30, true), (34, true)] [] [] ⟨[(0, kB (r28.1 == 1))], [], []⟩ (aP g5 (aP g6 (aP g7 (aP g8 (aP g9 (aP g10 (aP g11 (aP g12 (aP g13 (aP g14 aN)))))))))) ?_
         refine Vc [] [] (pup_R (r28.1 == 1)) (W_ret ?_)
         exact ⟨.inl rfl, by cases h; rfl⟩
        ·replace h := bif_f h g14
         refine Vg hT (fT 0 (pInt_ok n r31) fN) [(3, true), (8, true), (12, true), (17, true), (21, true), (25, true), (30, true), (34, false)] [] [] ⟨[(0, kB false)], [], []⟩ (aP g5 (aP g6 (aP g7 (aP g8 (aP g9 (aP g10 (aP g11 (aP g12 (aP g13 (aP g14 aN)))))))))) ?_
         refine Vc [] [] (pup_R false) (W_ret ?_)
         exact ⟨.inl rfl, by cases h; rfl⟩
       ·replace h := bif_f h g13
        refine Vg hT (fT 0 (pInt_ok n r31) fN) [(3, true), (8, true), (12, true), (17, true), (21, true), (25, true), (30, false)] [] [] ⟨[(0, kB false)], [], []⟩ (aP g5 (aP g6 (aP g7 (aP g8 (aP g9 (aP g10 (aP g11 (aP g12 (aP g13 aN))))))))) ?_
        refine Vc [] [] (pup_R false) (W_ret ?_)
        exact ⟨.inl rfl, by cases h; rfl⟩
      ·replace h := bif_f h g12
       refine Vg hT (fT 0 (pInt_ok n r31) fN) [(3, true), (8, true), (12, true), (17, true), (21, true), (25, false)] [] [] ⟨[(0, kB false)], [], []⟩ (aP g5 (aP g6 (aP g7 (aP g8 (aP g9 (aP g10 (aP g11 (aP g12 aN)))))))) ?_
       refine Vc [] [] (pup_R false) (W_ret ?_)
       exact ⟨.inl rfl, by cases h; rfl⟩
     ·replace h := bif_f h g11
      refine Vg hT (fT 0 (pInt_ok n r31) fN) [(3, true), (8, true), (12, true), (17, true), (21, false)] [] [] ⟨[(0, kB false)], [], []⟩ (aP g5 (aP g6 (aP g7 (aP g8 (aP g9 (aP g10 (aP g11 aN))))))) ?_
      refine Vc [] [] (pup_R false) (W_ret ?_)
      exact ⟨.inl rfl, by cases h; rfl⟩
    ·replace h := bif_f h g10
     refine Vg hT (fT 0 (pInt_ok n r31) fN) [(3, true), (8, true), (12, true), (17, false)] [] [] ⟨[(0, kB false)], [], []⟩ (aP g5 (aP g6 (aP g7 (aP g8 (aP g9 (aP g10 aN)))))) ?_
     refine Vc [] [] (pup_R false) (W_ret ?_)
     exact ⟨.inl rfl, by cases h; rfl⟩
   ·replace h := bif_f h g9
    refine Vg hT (fT 0 (pInt_ok n r31) fN) [(3, true), (8, true), (12, false)] [] [] ⟨[(0, kB false)], [], []⟩ (aP g5 (aP g6 (aP g7 (aP g8 (aP g9 aN))))) ?_
    refine Vc [] [] (pup_R false) (W_ret ?_)
    exact ⟨.inl rfl, by cases h; rfl⟩
  ·replace h := bif_f h g8
   refine Vg hT (fT 0 (pInt_ok n r31) fN) [(3, true), (8, false)] [] [] ⟨[(0, kB false)], [], []⟩ (aP g5 (aP g6 (aP g7 (aP g8 aN)))) ?_
   refine Vc [] [] (pup_R false) (W_ret ?_)
   exact ⟨.inl rfl, by cases h; rfl⟩
 ·replace h := bif_f h g6
  refine Vg hT (fT 0 (pInt_ok n r31) fN) [(3, false)] [] [] ⟨[(0, kB false)], [], []⟩ (aP g5 (aP g6 aN)) ?_
  refine Vc [] [] (pup_R false) (W_ret ?_)
  exact ⟨.inl rfl, by cases h; rfl⟩
end Go.Proofs.Ytliilihbnhdemaa
end
section
namespace Go.Proofs.Ytliilihbnhdemaa
open Go.RowKit Go.Ch Go.Sx Go.Lib Go.Proofs
set_option maxHeartbeats 1000000 in
set_option maxRecDepth 100000 in
theorem ix_c (w : World) (l : List UInt8) (c : UInt8) :
  Calls Try.prog 87 #[.string ⟨l.toArray⟩, .int .u8 ((c.toNat : Nat) : Int)] w (Ret fun v w' => Ext w w' ∧ v = .int .i64 (Lib.indexByte l c)) := by
 go_enter Try.func87, Try.ntmps87
 go_wp2
 rw [run_callFunc_extern Try.func90 (by kernel_rfl) (by kernel_rfl) (by kernel_rfl) (e := Extern.BytealgIndexByte.indexByte) (by kernel_rfl), Lib.run_indexByteString]
 simp only [Result.andThen]
 rw [Oper.upon_value]
 go_wp2
 go_ret
 refine ⟨_, rfl, Below.refl _ _, ?_⟩
 simp
def ix_ct : Ct := ctc rS.rd fun _ l0 => ctc rU8.rd fun _ l1 => ct0 fun _ => ([], kI (Lib.indexByte l0 l1), [])
theorem ix_h : FnOk Try.prog Tr 87 ix_ct := by
 refine ⟨fun args H g av objs hF hg ρ w vals hG hp ha => ?_, _, Try.func87, by kernel_rfl, by kernel_rfl⟩
 obtain ⟨x0, _, l0, rfl, e0, hF⟩ := ctc_inv hF
 obtain ⟨x1, _, l1, rfl, e1, hF⟩ := ctc_inv hF
 obtain ⟨rfl, rfl, rfl, rfl⟩ := ct0_inv hF
 obtain ⟨v0, vals, rfl, k0, ha⟩ := F2.inv ha
 obtain ⟨v1, vals, rfl, k1, ha⟩ := F2.inv ha
 obtain rfl := F2.inv0 ha
 obtain rfl := aS_ok e0 k0
 obtain rfl := aU8_ok e1 k1
 exact calls_mono (ix_c w l0 l1) fun v w' ⟨hx, hv⟩ => ⟨hx, left_val fun ρ => hv⟩
end Go.Proofs.Ytliilihbnhdemaa
end
section
namespace Go.Proofs.Ytliilihbnhdemaa
open Go.RowKit Go.Ch Go.Sx
def tabL_ta : List (TypeId × Ti) := [(5, ⟨.int .u8, 1, 1, true, some [.int .u8]⟩),
 (9, ⟨.str, 1, 16, true, some [.str]⟩)]
def tab_ta : Tab := fun t => (tabL_ta).lookup t
theorem tabE_ta : (tabL_ta.map fun p => tiOf Try.prog p.1) = tabL_ta.map fun p => some p.2 := by kernel_rfl
theorem tabO_ta : TabOk Try.prog tab_ta := tab_of tabE_ta
def sIndexByte (n : Nat) (a0 : List UInt8) (a1 : UInt8) : Option (Int) :=
 some (Lib.indexByte a0 a1)
def pprintable (n : Nat) (a0 : UInt8) : Option (Bool) :=
 bif (decide ((97 : UInt8) ≤ a0)) then
  bif (decide (a0 ≤ (122 : UInt8))) then
   some true
  else
   bif (decide ((65 : UInt8) ≤ a0)) then
    bif (decide (a0 ≤ (90 : UInt8))) then
     some true
    else
     bif (decide ((48 : UInt8) ≤ a0)) then
      bif (decide (a0 ≤ (57 : UInt8))) then
       some true
      else
       (sIndexByte n ([32, 39, 40, 41, 43, 44, 45, 46, 47, 58, 61, 63] : List UInt8) a0).bind fun r27 =>
       some (decide ((0 : Int) ≤ r27))
     else
      (sIndexByte n ([32, 39, 40, 41, 43, 44, 45, 46, 47, 58, 61, 63] : List UInt8) a0).bind fun r27 =>
      some (decide ((0 : Int) ≤ r27))
   else
    bif (decide ((48 : UInt8) ≤ a0)) then
     bif (decide (a0 ≤ (57 : UInt8))) then
      some true
     else
      (sIndexByte n ([32, 39, 40, 41, 43, 44, 45, 46, 47, 58, 61, 63] : List UInt8) a0).bind fun r27 =>
      some (decide ((0 : Int) ≤ r27))
    else
     (sIndexByte n ([32, 39, 40, 41, 43, 44, 45, 46, 47, 58, 61, 63] : List UInt8) a0).bind fun r27 =>
     some (decide ((0 : Int) ≤ r27))
 else
  bif (decide ((65 : UInt8) ≤ a0)) then
   bif (decide (a0 ≤ (90 : UInt8))) then
    some true
   else
    bif (decide ((48 : UInt8) ≤ a0)) then
     bif (decide (a0 ≤ (57 : UInt8))) then
      some true
     else
      (sIndexByte n ([32, 39, 40, 41, 43, 44, 45, 46, 47, 58, 61, 63] : List UInt8) a0).bind fun r27 =>
      some (decide ((0 : Int) ≤ r27))
    else
     (sIndexByte n ([32, 39, 40, 41, 43, 44, 45, 46, 47, 58, 61, 63] : List UInt8) a0).bind fun r27 =>
     some (decide ((0 : Int) ≤ r27))
  else
   bif (decide ((48 : UInt8) ≤ a0)) then
    bif (decide (a0 ≤ (57 : UInt8))) then
     some true
    else
     (sIndexByte n ([32, 39, 40, 41, 43, 44, 45, 46, 47, 58, 61, 63] : List UInt8) a0).bind fun r27 =>
     some (decide ((0 : Int) ≤ r27))
   else
    (sIndexByte n ([32, 39, 40, 41, 43, 44, 45, 46, 47, 58, 61, 63] : List UInt8) a0).bind fun r27 =>
    some (decide ((0 : Int) ≤ r27))
def pT1 (n : Nat) (a0 : UInt8) : Option (Bool) :=
 (pprintable n a0).bind fun r4 =>
 some (!r4)
def pT2 (n : Nat) (a0 : UInt8) : Option (Bool) :=
 some (decide ((128 : UInt8) ≤ a0))
def sHasPre0 (n : Nat) (a0 : List UInt8) (a1 : List UInt8) : Option (Bool) :=
 bif (decide (((a1.length : Nat) : Int) ≤ ((a0.length : Nat) : Int))) then
 gd (0 ≤ ((a1.length : Nat) : Int)) <|
 gd (((a1.length : Nat) : Int) ≤ ((a0.length : Nat) : Int)) <|
 some ((a0.take (((a1.length : Nat) : Int).toNat)) == a1)
 else
 some false
def sHasPre (n : Nat) (a0 : List UInt8) (a1 : List UInt8) : Option (Bool) :=
 (sHasPre0 n a0 a1).bind fun r7 =>
 some r7
def sIndexByte_R (r : Int) : S := ⟨[(4, kI r)], [], []⟩
def sIndexByte_ct (n : Nat) (r : Int) : Ct := ctc rS.rd fun _ l0 => ctc rU8.rd fun _ l1 => ct0 fun H => ([sIndexByte n l0 l1 = some r], shA H.length (kI r), shH H.length [])
theorem sIndexByte_ok (n : Nat) (r : Int) : FnOk Try.prog Tr 79 (sIndexByte_ct n r) := by
 refine fnok Try.func79 ?_
 refine HO_c rS fun l0 _ => HO_c rU8 fun l1 _ => HO_0 tabO_ta (sIndexByte_R r) [.tmp 4] [] 8 Try.func79 fun w hG h => ?_
 unfold sIndexByte at h
 have hT := tabO_ta
 refine Vrs hT [] ⟨[(0, kT l0), (1, kU l1)], [], []⟩ ?_
 refine Vgs hT (fT 2 ix_h fN) [] [] [] ⟨[(4, kI (Lib.indexByte l0 l1))], [], []⟩ aN ?_
 refine Vc [] [] (sIndexByte_R (Lib.indexByte l0 l1)) (W_ret ?_)
 exact ⟨.inl rfl, by cases h; rfl⟩
def pprintable_R (r : Bool) : S := ⟨[(2, kB r)], [], []⟩
def pprintable_ct (n : Nat) (r : Bool) : Ct := ctc rU8.rd fun _ l0 => ct0 fun H => ([pprintable n l0 = some r], shA H.length (kB r), shH H.length [])
theorem pprintable_ok (n : Nat) (r : Bool) : FnOk Try.prog Tr 61 (pprintable_ct n r) := by
 refine fnok Try.func61 ?_
 refine HO_c rU8 fun l0 _ => HO_0 tabO_ta (pprintable_R r) [.tmp 2] [] 30 Try.func61 fun w hG h => ?_
 unfold pprintable at h
 have hT := tabO_ta
 refine Vrs hT [] ⟨[(0, kU l0)], [], []⟩ ?_
 refine W_seq ?_
 rcases Bool.eq_false_or_eq_true (decide ((97 : UInt8) ≤ l0)) with g1 | g1
 ·replace h := bif_t h g1
  rcases Bool.eq_false_or_eq_true (decide (l0 ≤ (122 : UInt8))) with g2 | g2
  ·replace h := bif_t h g2
   refine Vg hT fN [(2, true), (6, true)] [] [] ⟨[(2, kB true)], [], []⟩ (aP g1 (aP g2 aN)) ?_
   refine Vc [] [] (pprintable_R true) (W_ret ?_)
   exact ⟨.inl rfl, by cases h; rfl⟩
  ·replace h := bif_f h g2
   rcases Bool.eq_false_or_eq_true (decide ((65 : UInt8) ≤ l0)) with g3 | g3
   ·replace h := bif_t h g3
    rcases Bool.eq_false_or_eq_true (decide (l0 ≤ (90 : UInt8))) with g4 | g4
    ·replace h := bif_t h g4
     refine Vg hT fN [(2, true), (6, false), (9, true), (14, true)] [] [] ⟨[(2, kB true)], [], []⟩ (aP g1 (aP g2 (aP g3 (aP g4 aN)))) ?_
     refine Vc [] [] (pprintable_R true) (W_ret ?_)
     exact ⟨.inl rfl, by cases h; rfl⟩
    ·replace h := bif_f h g4
     rcases Bool.eq_false_or_eq_true (decide ((48 : UInt8) ≤ l0)) with g5 | g5
     ·replace h := bif_t h g5
      rcases Bool.eq_false_or_eq_true (decide (l0 ≤ (57 : UInt8))) with g6 | g6
      ·replace h := bif_t h g6
       refine Vg hT fN [(2, true), (6, false), (9, true), (14, false), (17, true), (22, true)] [] [] ⟨[(2, kB true)], [], []⟩ (aP g1 (aP g2 (aP g3 (aP g4 (aP g5 (aP g6 aN)))))) ?_
       refine Vc [] [] (pprintable_R true) (W_ret ?_)
       exact ⟨.inl rfl, by cases h; rfl⟩
      ·replace h := bif_f h g6
       obtain ⟨r27, g7, h⟩ := bind_some' h
       refine Vg hT (fT 24 (sIndexByte_ok n r27) fN) [(2, true), (6, false), (9, true), (14, false), (17, true), (22, false)] [] [] ⟨[(2, kB (decide ((0 : Int) ≤ r27)))], [], []⟩ (aP g1 (aP g2 (aP g3 (aP g4 (aP g5 (aP g6 (aP g7 aN))))))) ?_
       refine Vc [] [] (pprintable_R (decide ((0 : Int) ≤ r27))) (W_ret ?_)
       exact ⟨.inl rfl, by cases h; rfl⟩
     ·replace h := bif_f h g5
      obtain ⟨r27, g8, h⟩ := bind_some' h
      refine Vg hT (fT 24 (sIndexByte_ok n r27) fN) [(2, true), (6, false), (9, true), (14, false), (17, false)] [] [] ⟨[(2, kB (decide ((0 : Int) ≤ r27)))], [], []⟩ (aP g1 (aP g2 (aP g3 (aP g4 (aP g5 (aP g8 aN)))))) ?_
      refine Vc [] [] (pprintable_R (decide ((0 : Int) ≤ r27))) (W_ret ?_)
      exact ⟨.inl rfl, by cases h; rfl⟩
   ·replace h := bif_f h g3
    rcases Bool.eq_false_or_eq_true (decide ((48 : UInt8) ≤ l0)) with g9 | g9
    ·replace h := bif_t h g9
     rcases Bool.eq_false_or_eq_true (decide (l0 ≤ (57 : UInt8))) with g10 | g10
     ·replace h := bif_t h g10
      refine Vg hT fN [(2, true), (6, false), (9, false), (17, true), (22, true)] [] [] ⟨[(2, kB true)], [], []⟩ (aP g1 (aP g2 (aP g3 (aP g9 (aP g10 aN))))) ?_
      refine Vc [] [] (pprintable_R true) (W_ret ?_)
      exact ⟨.inl rfl, by cases h; rfl⟩
     ·replace h := bif_f h g10
      obtain ⟨r27, g11, h⟩ := bind_some' h
      refine Vg hT (fT 24 (sIndexByte_ok n r27) fN) [(2, true), (6, false), (9, false), (17, true), (22, false)] [] [] ⟨[(2, kB (decide ((0 : Int) ≤ r27)))], [], []⟩ (aP g1 (aP g2 (aP g3 (aP g9 (aP g10 (aP g11 aN)))))) ?_
      refine Vc [] [] (pprintable_R (decide ((0 : Int) ≤ r27))) (W_ret ?_)
      exact ⟨.inl rfl, by cases h; rfl⟩
    ·replace h := bif_f h g9
     obtain ⟨r27, g12, h⟩ := bind_some' h
     refine Vg hT (fT 24 (sIndexByte_ok n r27) fN) [(2, true), (6, false), (9, false), (17, false)] [] [] ⟨[(2, kB (decide ((0 : Int) ≤ r27)))], [], []⟩ (aP g1 (aP g2 (aP g3 (aP g9 (aP g12 aN))))) ?_
     refine Vc [] [] (pprintable_R (decide ((0 : Int) ≤ r27))) (W_ret ?_)
     exact ⟨.inl rfl, by cases h; rfl⟩
 ·replace h := bif_f h g1
  rcases Bool.eq_false_or_eq_true (decide ((65 : UInt8) ≤ l0)) with g13 | g13
  ·replace h := bif_t h g13
   rcases Bool.eq_false_or_eq_true (decide (l0 ≤ (90 : UInt8))) with g14 | g14
   ·replace h := bif_t h g14
    refine Vg hT fN [(2, false), (9, true), (14, true)] [] [] ⟨[(2, kB true)], [], []⟩ (aP g1 (aP g13 (aP g14 aN))) ?_
    refine Vc [] [] (pprintable_R true) (W_ret ?_)
    exact ⟨.inl rfl, by cases h; rfl⟩
   ·replace h := bif_f h g14
    rcases Bool.eq_false_or_eq_true (decide ((48 : UInt8) ≤ l0)) with g15 | g15
    ·replace h := bif_t h g15
     rcases Bool.eq_false_or_eq_true (decide (l0 ≤ (57 : UInt8))) with g16 | g16
     ·replace h := bif_t h g16
      refine Vg hT fN [(2, false), (9, true), (14, false), (17, true), (22, true)] [] [] ⟨[(2, kB true)], [], []⟩ (aP g1 (aP g13 (aP g14 (aP g15 (aP g16 aN))))) ?_
      refine Vc [] [] (pprintable_R true) (W_ret ?_)
      exact ⟨.inl rfl, by cases h; rfl⟩
     ·replace h := bif_f h g16
      obtain ⟨r27, g17, h⟩ := bind_some' h
      refine Vg hT (fT 24 (sIndexByte_ok n r27) fN) [(2, false), (9, true), (14, false), (17, true), (22, false)] [] [] ⟨[(2, kB (decide ((0 : Int) ≤ r27)))], [], []⟩ (aP g1 (aP g13 (aP g14 (aP g15 (aP g16 (aP g17 aN)))))) ?_
      refine Vc [] [] (pprintable_R (decide ((0 : Int) ≤ r27))) (W_ret ?_)
      exact ⟨.inl rfl, by cases h; rfl⟩
    ·replace h := bif_f h g15
     obtain ⟨r27, g18, h⟩ := bind_some' h
     refine Vg hT (fT 24 (sIndexByte_ok n r27) fN) [(2, false), (9, true), (14, false), (17, false)] [] [] ⟨[(2, kB (decide ((0 : Int) ≤ r27)))], [], []⟩ (aP g1 (aP g13 (aP g14 (aP g15 (aP g18 aN))))) ?_
     refine Vc [] [] (pprintable_R (decide ((0 : Int) ≤ r27))) (W_ret ?_)
     exact ⟨.inl rfl, by cases h; rfl⟩
  ·replace h := bif_f h g13
   rcases Bool.eq_false_or_eq_true (decide ((48 : UInt8) ≤ l0)) with g19 | g19
   ·replace h := bif_t h g19
    rcases Bool.eq_false_or_eq_true (decide (l0 ≤ (57 : UInt8))) with g20 | g20
    ·replace h := bif_t h g20
     refine Vg hT fN [(2, false), (9, false), (17, true), (22, true)] [] [] ⟨[(2, kB true)], [], []⟩ (aP g1 (aP g13 (aP g19 (aP g20 aN)))) ?_
     refine Vc [] [] (pprintable_R true) (W_ret ?_)
     exact ⟨.inl rfl, by cases h; rfl⟩
    ·replace h := bif_f h g20
     obtain ⟨r27, g21, h⟩ := bind_some' h
     refine Vg hT (fT 24 (sIndexByte_ok n r27) fN) [(2, false), (9, false), (17, true), (22, false)] [] [] ⟨[(2, kB (decide ((0 : Int) ≤ r27)))], [], []⟩ (aP g1 (aP g13 (aP g19 (aP g20 (aP g21 aN))))) ?_
     refine Vc [] [] (pprintable_R (decide ((0 : Int) ≤ r27))) (W_ret ?_)
     exact ⟨.inl rfl, by cases h; rfl⟩
   ·replace h := bif_f h g19
    obtain ⟨r27, g22, h⟩ := bind_some' h
    refine Vg hT (fT 24 (sIndexByte_ok n r27) fN) [(2, false), (9, false), (17, false)] [] [] ⟨[(2, kB (decide ((0 : Int) ≤ r27)))], [], []⟩ (aP g1 (aP g13 (aP g19 (aP g22 aN)))) ?_
    refine Vc [] [] (pprintable_R (decide ((0 : Int) ≤ r27))) (W_ret ?_)
    exact ⟨.inl rfl, by cases h; rfl⟩
def pT1_R (r : Bool) : S := ⟨[(2, kB r)], [], []⟩
def pT1_ct (n : Nat) (r : Bool) : Ct := ctc rU8.rd fun _ l0 => ct0 fun H => ([pT1 n l0 = some r], shA H.length (kB r), shH H.length [])
theorem pT1_ok (n : Nat) (r : Bool) : FnOk Try.prog Tr 60 (pT1_ct n r) := by
 refine fnok Try.func60 ?_
 refine HO_c rU8 fun l0 _ => HO_0 tabO_ta (pT1_R r) [.tmp 2] [] 6 Try.func60 fun w hG h => ?_
 unfold pT1 at h
 have hT := tabO_ta
 refine Vrs hT [] ⟨[(0, kU l0)], [], []⟩ ?_
 obtain ⟨r4, g1, h⟩ := bind_some' h
 refine Vgs hT (fT 1 (pprintable_ok n r4) fN) [] [] [] ⟨[(2, kB (!r4))], [], []⟩ (aP g1 aN) ?_
 refine Vc [] [] (pT1_R (!r4)) (W_ret ?_)
 exact ⟨.inl rfl, by cases h; rfl⟩
def pT2_R (r : Bool) : S := ⟨[(2, kB r)], [], []⟩
def pT2_ct (n : Nat) (r : Bool) : Ct := ctc rU8.rd fun _ l0 => ct0 fun H => ([pT2 n l0 = some r], shA H.length (kB r), shH H.length [])
theorem pT2_ok (n : Nat) (r : Bool) : FnOk Try.prog Tr 62 (pT2_ct n r) := by
 refine fnok Try.func62 ?_
 refine HO_c rU8 fun l0 _ => HO_0 tabO_ta (pT2_R r) [.tmp 2] [] 5 Try.func62 fun w hG h => ?_
 unfold pT2 at h
 have hT := tabO_ta
 refine Vrs hT [] ⟨[(0, kU l0)], [], []⟩ ?_
 refine Vrs hT [] ⟨[(2, kB (decide ((128 : UInt8) ≤ l0)))], [], []⟩ ?_
 refine Vc [] [] (pT2_R (decide ((128 : UInt8) ≤ l0))) (W_ret ?_)
 exact ⟨.inl rfl, by cases h; rfl⟩
def sHasPre0_R (r : Bool) : S := ⟨[(4, kB r)], [], []⟩
def sHasPre0_ct (n : Nat) (r : Bool) : Ct := ctc rS.rd fun _ l0 => ctc rS.rd fun _ l1 => ct0 fun H => ([sHasPre0 n l0 l1 = some r], shA H.length (kB r), shH H.length [])
theorem sHasPre0_ok (n : Nat) (r : Bool) : FnOk Try.prog Tr 86 (sHasPre0_ct n r) := by
 refine fnok Try.func86 ?_
 refine HO_c rS fun l0 _ => HO_c rS fun l1 _ => HO_0 tabO_ta (sHasPre0_R r) [.tmp 4] [] 18 Try.func86 fun w hG h => ?_
 unfold sHasPre0 at h
 have hT := tabO_ta
 refine Vrs hT [] ⟨[(0, kT l0), (1, kT l1)], [], []⟩ ?_
 refine W_seq ?_
 rcases Bool.eq_false_or_eq_true (decide (((l1.length : Nat) : Int) ≤ ((l0.length : Nat) : Int))) with g1 | g1
 ·replace h := bif_t h g1
  obtain ⟨g2, g3, h⟩ := gd2 h
  refine Vg hT fN [(5, true)] [] [] ⟨[(4, kB ((l0.take (((l1.length : Nat) : Int).toNat)) == l1))], [], []⟩ (aP g1 (aP g2 (aP g3 aN))) ?_
  refine Vc [] [] (sHasPre0_R ((l0.take (((l1.length : Nat) : Int).toNat)) == l1)) (W_ret ?_)
  exact ⟨.inl rfl, by cases h; rfl⟩
 ·replace h := bif_f h g1
  refine Vg hT fN [(5, false)] [] [] ⟨[(4, kB false)], [], []⟩ (aP g1 aN) ?_
  refine Vc [] [] (sHasPre0_R false) (W_ret ?_)
  exact ⟨.inl rfl, by cases h; rfl⟩
def sHasPre_R (r : Bool) : S := ⟨[(4, kB r)], [], []⟩
def sHasPre_ct (n : Nat) (r : Bool) : Ct := ctc rS.rd fun _ l0 => ctc rS.rd fun _ l1 => ct0 fun H => ([sHasPre n l0 l1 = some r], shA H.length (kB r), shH H.length [])
theorem sHasPre_ok (n : Nat) (r : Bool) : FnOk Try.prog Tr 77 (sHasPre_ct n r) := by
 refine fnok Try.func77 ?_
 refine HO_c rS fun l0 _ => HO_c rS fun l1 _ => HO_0 tabO_ta (sHasPre_R r) [.tmp 4] [] 8 Try.func77 fun w hG h => ?_
 unfold sHasPre at h
 have hT := tabO_ta
 refine Vrs hT [] ⟨[(0, kT l0), (1, kT l1)], [], []⟩ ?_
 obtain ⟨r7, g1, h⟩ := bind_some' h
 refine Vgs hT (fT 2 (sHasPre0_ok n r7) fN) [] [] [] ⟨[(4, kB r7)], [], []⟩ (aP g1 aN) ?_
 refine Vc [] [] (sHasPre_R r7) (W_ret ?_)
 exact ⟨.inl rfl, by cases h; rfl⟩
end Go.Proofs.Ytliilihbnhdemaa
end
section
namespace Go.Proofs.Ytliilihbnhdemaa
open Go.RowKit Go.Ch Go.Sx Go.Lib Go.Proofs
def prB (x : UInt8) : Bool := decide (97 ≤ x) && decide (x ≤ 122) || decide (65 ≤ x) && decide (x ≤ 90) || decide (48 ≤ x) && decide (x ≤ 57) || [32, 39, 40, 41, 43, 44, 45, 46, 47, 58, 61, 63].contains x
def prtN (x : UInt8) : Bool := !prB x
def hiB (x : UInt8) : Bool := decide (128 ≤ x)
theorem pT1_all : ∀ i : Fin 256, pT1 0 (UInt8.ofNat i.1) = some (prtN (UInt8.ofNat i.1)) := by decide +kernel
theorem pT1_is (x : UInt8) : pT1 0 x = some (prtN x) := by
 have := pT1_all ⟨x.toNat, x.toNat_lt⟩
 simpa using this
def Tells (g : Nat) (p : UInt8 → Bool) : Prop := ∀ (x : UInt8) (w : World), Calls Try.prog g #[bU x] w (Ret fun v w' => Ext w w' ∧ v = .bool (p x))
theorem tells1 : Tells 60 prtN := fun x w =>
 calls_mono ((pT1_ok 0 (prtN x)).ct [.c (.s (.u8 x))] [] _ _ _ rfl (allP_cons.2 ⟨pT1_is x, allP_nil⟩) (plL []) w [bU x] True.intro (fun i o h => by simp at h) (F2.cons rfl F2.nil)) fun v w' ⟨hx, _, hL⟩ => ⟨hx, hL.val⟩
theorem tells2 : Tells 62 hiB := fun x w =>
 calls_mono ((pT2_ok 0 (hiB x)).ct [.c (.s (.u8 x))] [] _ _ _ rfl (allP_cons.2 ⟨rfl, allP_nil⟩) (plL []) w [bU x] True.intro (fun i o h => by simp at h) (F2.cons rfl F2.nil)) fun v w' ⟨hx, _, hL⟩ => ⟨hx, hL.val⟩
theorem enters1 : ∀ args w, (callFunc 60 args).run Try.prog w = .ok (.enter 60 args) w := enters_of Try.func60 (by kernel_rfl) rfl
theorem enters2 : ∀ args w, (callFunc 62 args).run Try.prog w = .ok (.enter 62 args) w := enters_of Try.func62 (by kernel_rfl) rfl
set_option maxHeartbeats 2000000 in
theorem idxf_c (g : Nat) (p : UInt8 → Bool) (eg : ∀ args w, (callFunc g args).run Try.prog w = .ok (.enter g args) w) (hp : Tells g p) (w : World) (ad : Addr) (c n : Nat) (zs : List UInt8) (hz : n ≤ zs.length) (hbig : n ≤ 9223372036854775807)
  (hc : ∀ j, j < zs.length → w.cell? (ad.add j) = some (bU zs[j]!)) :
  Calls Try.prog 78 #[.slice (some ad) n c, .func (.func g) #[] #[]] w fun e w' => ∃ r : Int, e = .returned (.int .i64 r) ∧ Ext w w' ∧ decide (0 ≤ r) = (zs.take n).any p := by
 go_enter Try.func78, Try.ntmps78
 go_wp2
 go_loopg [5, 8] n (fun gg _ s8 wr => ∃ kk : Nat, kk ≤ n ∧ n - kk ≤ gg ∧ s8 = .int .i64 kk ∧ Ext w wr ∧ Aside (∀ j, j < kk → p zs[j]! = false))
 case atStart => exact ⟨0, Nat.zero_le _, by omega, rfl, Below.refl _ _, fun j hj => absurd hj (Nat.not_lt_zero _)⟩
 case round =>
  obtain ⟨kk, hkk, hg, rfl, hx, A⟩ := hrel
  by_cases hlt : kk < n
  ·have hltz : (kk : Int) < (n : Int) := by omega
   have hcell : wr.cell? (ad.add kk) = some (bU zs[kk]!) := by
    have h1 := hc kk (by omega)
    have h2 := World.block_lt_of_cell? _ _ h1
    rw [World.cell?_of_block (hx.block _ h2)]; exact h1
   clear hc
   generalize hy : zs[kk]! = y at hcell
   have B : Aside (zs[kk]! = y) := hy
   clear hy
   have hcall : Calls Try.prog g #[bU y] wr (Ret fun v w' => Ext wr w' ∧ v = .bool (p y)) := hp y wr
   unfold bU at hcell hcall
   cases hq : p y with
   | true =>
    rw [hq] at hcall
    go_wp2_with (go_at_fn g; refine hcall.mono ?_; rintro e w' ⟨v, rfl, hx2, rfl⟩)
    go_ret
    refine ⟨(kk : Int), rfl, hx.tr hx2, ?_⟩
    rw [decide_eq_true (by omega)]
    symm
    rw [List.any_eq_true]
    refine ⟨y, ?_, hq⟩
    rw [← B.out, List.mem_take_iff_getElem]
    exact ⟨kk, by omega, by rw [getElem!_pos zs kk (by omega)]⟩
   | false =>
    rw [hq] at hcall
    go_wp2_with (go_at_fn g; refine hcall.mono ?_; rintro e w' ⟨v, rfl, hx2, rfl⟩)
    go_roundg (n - (kk + 1))
    case measure => omega
    case rel =>
     refine ⟨kk + 1, by omega, by omega, by go_num, hx.tr hx2, (show Aside _ from fun j hj => ?_)⟩
     by_cases e : j = kk
     ·subst e
      rw [B.out]; exact hq
     ·exact A.out j (by omega)
  ·have hltz : ¬ (kk : Int) < (n : Int) := by omega
   have he : kk = n := by omega
   subst he
   go_wp2
   go_ret
   refine ⟨-1, rfl, hx, ?_⟩
   rw [decide_eq_false (by omega)]
   symm
   rw [Bool.eq_false_iff]
   intro h
   rw [List.any_eq_true] at h
   obtain ⟨x, hx, hpx⟩ := h
   obtain ⟨j, hj, rfl⟩ := List.mem_take_iff_getElem.1 hx
   have := A.out j (by omega)
   rw [getElem!_pos zs j (by omega)] at this
   rw [this] at hpx
   cases hpx
set_option maxHeartbeats 2000000 in
theorem idxf_nil (g : Nat) (w : World) (c : Nat) :
  Calls Try.prog 78 #[.slice none 0 c, .func (.func g) #[] #[]] w fun e w' => ∃ r : Int, e = .returned (.int .i64 r) ∧ Ext w w' ∧ decide (0 ≤ r) = false := by
 go_enter Try.func78, Try.ntmps78
 go_wp2
 go_loopg [5, 8] 0 (fun gg _ s8 wr => s8 = .int .i64 0 ∧ Ext w wr)
 case atStart => exact ⟨rfl, Below.refl _ _⟩
 case round =>
  obtain ⟨rfl, hx⟩ := hrel
  go_wp2
  go_ret
  exact ⟨-1, rfl, hx, by decide⟩
set_option maxHeartbeats 2000000 in
theorem idxf_zero (g : Nat) (w : World) (ad : Addr) (c : Nat) :
  Calls Try.prog 78 #[.slice (some ad) 0 c, .func (.func g) #[] #[]] w fun e w' => ∃ r : Int, e = .returned (.int .i64 r) ∧ Ext w w' ∧ decide (0 ≤ r) = false := by
 go_enter Try.func78, Try.ntmps78
 go_wp2
 go_loopg [5, 8] 0 (fun gg _ s8 wr => s8 = .int .i64 0 ∧ Ext w wr)
 case atStart => exact ⟨rfl, Below.refl _ _⟩
 case round =>
  obtain ⟨rfl, hx⟩ := hrel
  go_wp2
  go_ret
  exact ⟨-1, rfl, hx, by decide⟩
set_option maxHeartbeats 2000000 in
theorem cont_c (g : Nat) (p : UInt8 → Bool) (eg : ∀ args w, (callFunc g args).run Try.prog w = .ok (.enter g args) w) (hp : Tells g p) (w : World) (B : Nat) (v : Value) (l : List UInt8) (hv : Sl w B v (l.map bU)) :
  Calls Try.prog 59 #[v, .func (.func g) #[] #[]] w (Ret fun v w' => Ext w w' ∧ v = .bool (l.any p)) := by
 have ei : ∀ args w, (callFunc 78 args).run Try.prog w = .ok (.enter 78 args) w := enters_of Try.func78 (by kernel_rfl) rfl
 have key : Calls Try.prog 78 #[v, .func (.func g) #[] #[]] w fun e w' => ∃ r : Int, e = .returned (.int .i64 r) ∧ Ext w w' ∧ decide (0 ≤ r) = l.any p := by
  obtain ⟨hB, A, c, rfl, h1, h2, h3, hc⟩ := hv
  rw [List.length_map] at h1 ⊢
  cases A with
  | none =>
   have hc0 := h3 rfl
   have hl : l = [] := List.eq_nil_of_length_eq_zero (by omega)
   subst hl; subst hc0
   exact idxf_nil g w 0
  | some ad =>
   have hsub : ∀ j, j < l.length → w.cell? (ad.add j) = some (bU l[j]!) := fun j hj => (hc ad rfl j (bU l[j]!) (by rw [List.getElem?_map, List.getElem?_eq_getElem hj, getElem!_pos l j hj]; rfl)).2
   rcases Nat.eq_zero_or_pos l.length with h0 | h0
   ·obtain rfl := List.eq_nil_of_length_eq_zero h0
    exact idxf_zero g w ad c
   ·exact (idxf_c g p eg hp w ad c l.length l (Nat.le_refl _) (by unfold maxLen at h2; omega) hsub).mono fun e w' ⟨r, h1, h2, h3⟩ => ⟨r, h1, h2, by rw [h3, List.take_length]⟩
 obtain ⟨V, hV⟩ : ∃ V, V = v := ⟨_, rfl⟩
 rw [← hV] at key ⊢
 clear hv hV
 generalize l.any p = R at key
 go_enter Try.func59, Try.ntmps59
 go_wp2_with (go_at_fn 78; refine key.mono ?_; rintro e w' ⟨r, rfl, hx, hr⟩)
 go_ret
 refine ⟨_, rfl, hx, ?_⟩
 rw [← hr]; rfl
def aFn : AV → Option (UInt8 → Bool)
 | .c (.s (.v (.func (.func g) a b))) => (match a.toList, b.toList, Nat.beq g 60, Nat.beq g 62 with
  | [], [], true, _ => some prtN
  | [], [], _, true => some hiB
  | _, _, _, _ => none)
 | _ => none
theorem aFn_ok {ρ : Pls} {x : AV} {p : UInt8 → Bool} (h : aFn x = some p) {v : Value} (hv : avR ρ x v) : ∃ g, v = .func (.func g) #[] #[] ∧ Tells g p ∧ ∀ args w, (callFunc g args).run Try.prog w = .ok (.enter g args) w := by
 unfold aFn at h
 split at h
 ·rename_i g a b
  have hv' : v = .func (.func g) a b := hv
  split at h
  ·rename_i h1 h2 h3
   injection h with h; subst h
   obtain rfl := Nat.eq_of_beq_eq_true h3
   exact ⟨_, by rw [hv', Array.ext' (xs := a) (ys := #[]) h1, Array.ext' (xs := b) (ys := #[]) h2], tells1, enters1⟩
  ·rename_i h1 h2 h3 _
   injection h with h; subst h
   obtain rfl := Nat.eq_of_beq_eq_true h3
   exact ⟨_, by rw [hv', Array.ext' (xs := a) (ys := #[]) h1, Array.ext' (xs := b) (ys := #[]) h2], tells2, enters2⟩
  ·cases h
 ·cases h
def cf_ct : Ct := ctc aB fun _ l => ctc (fun _ => aFn) fun _ p => ct0 fun _ => ([], kB (l.any p), [])
theorem cf_h : FnOk Try.prog Tr 59 cf_ct := by
 refine ⟨fun args H g av objs hF hg ρ w vals hG hp ha => ?_, _, Try.func59, by kernel_rfl, by kernel_rfl⟩
 obtain ⟨x0, _, l0, rfl, e0, hF⟩ := ctc_inv hF
 obtain ⟨x1, _, l1, rfl, e1, hF⟩ := ctc_inv hF
 obtain ⟨rfl, rfl, rfl, rfl⟩ := ct0_inv hF
 obtain ⟨v0, vals, rfl, k0, ha⟩ := F2.inv ha
 obtain ⟨v1, vals, rfl, k1, ha⟩ := F2.inv ha
 obtain rfl := F2.inv0 ha
 obtain ⟨q, hI⟩ := aB_ok hp e0 k0 5
 have hs := hI.sl (fun _ _ h => csR_b.1 h) (by simp)
 obtain ⟨g', rfl, h1, h2⟩ := aFn_ok e1 k1
 exact calls_mono (cont_c g' l1 h2 h1 w _ v0 l0 hs) fun v w' ⟨hx, hv⟩ => ⟨hx, left_val fun ρ => hv⟩
def preF (a : List UInt8) : Bool := a.take 3 == [239, 191, 189]
theorem sHasPre_is (a : List UInt8) : sHasPre 0 a [239, 191, 189] = some (preF a) := by
 unfold sHasPre sHasPre0 preF
 by_cases h : 3 ≤ a.length
 ·have h3 : (([239, 191, 189] : List UInt8).length : Int) = 3 := rfl
  rw [ite_t (decide_eq_true (by rw [h3]; omega)), gd_pos (by rw [h3]; omega), gd_pos (by rw [h3]; omega)]; rfl
 ·have h3 : (([239, 191, 189] : List UInt8).length : Int) = 3 := rfl
  rw [ite_f (decide_eq_false (by rw [h3]; omega)), Option.bind_some]
  congr 1
  symm
  rw [beq_eq_false_iff_ne]
  intro e
  have := congrArg List.length e
  rw [List.length_take] at this
  simp at this; omega
theorem hp_c (w : World) (a : ByteArray) : Calls Try.prog 77 #[.string a, .string ⟨#[239, 191, 189]⟩] w (Ret fun v w' => Ext w w' ∧ v = .bool (preF a.data.toList)) :=
 calls_mono ((sHasPre_ok 0 (preF a.data.toList)).ct [.c (.s (.str a.data.toList)), .c (.s (.str [239, 191, 189]))] [] _ _ _ rfl (allP_cons.2 ⟨sHasPre_is _, allP_nil⟩) (plL []) w [.string a, .string ⟨#[239, 191, 189]⟩] True.intro (fun i o h => by simp at h) (F2.cons rfl (F2.cons rfl F2.nil))) fun v w' ⟨hx, _, hL⟩ => ⟨hx, hL.val⟩
def ptsFrom (s : ByteArray) : Nat → Nat → Bool
 | 0, _ => true
 | f + 1, pos => if pos < s.size then (if (Utf8.decode s pos).1 = 65533 ∧ preF (s.extract pos s.size).data.toList = false then false else ptsFrom s f (pos + (Utf8.decode s pos).2)) else true
def ptsF (l : List UInt8) : Bool := ptsFrom ⟨l.toArray⟩ (l.length + 1) 0
set_option maxHeartbeats 2000000 in
set_option maxRecDepth 1000000 in
theorem pts_c (w : World) (s : ByteArray) : Calls Try.prog 58 #[.string s] w fun e w' => ∃ r, e = .returned (.bool r) ∧ Ext w w' ∧ r = ptsFrom s (s.size + 1) 0 := by
 obtain ⟨Z, hZ⟩ : ∃ Z, ptsFrom s (s.size + 1) 0 = Z := ⟨_, rfl⟩
 rw [hZ]
 go_enter Try.func58, Try.ntmps58
 go_wp2
 go_loopg [] (s.size + 1) (fun gf wx => ∃ pos : Nat, wx.heap[w.heap.size]? = some (.stringIter s pos) ∧ Below w.heap.size w wx ∧ ptsFrom s gf pos = Z ∧ s.size < pos + gf)
 case atStart => exact ⟨0, World.iter_heap w s 0, (Below.refl _ w).alloc (Nat.le_refl _) _, hZ, by omega⟩
 case round =>
  clear hZ
  obtain ⟨pos, hit, hbw, hleft, hfu⟩ := hrel
  by_cases hps : pos < s.size
  ·obtain ⟨g', rfl⟩ : ∃ g', gk = g' + 1 := ⟨gk - 1, by omega⟩
   have hnx : ∀ ty, (Instr.next (.pointer (some ⟨w.heap.size, 0, none⟩)) true ty).run Try.prog wr = _ := fun ty => Lib.run_next_any_at wr w.heap.size s pos ty hit hps
   have hwd := Lib.width_pos s pos
   obtain ⟨R, hR⟩ : ∃ R, (Utf8.decode s pos).1 = R := ⟨_, rfl⟩
   obtain ⟨K, hK⟩ : ∃ K, (Utf8.decode s pos).2 = K := ⟨_, rfl⟩
   rw [ptsFrom, if_pos hps, hR, hK] at hleft
   rw [hR, hK] at hnx
   rw [hK] at hwd
   have hit2 := Lib.iterAt_heap wr w.heap.size s pos (pos + K) hit
   have hbw2 := Lib.below_iterAt hbw (k := w.heap.size) (Nat.le_refl _) s (pos + K)
   obtain ⟨W, hWd⟩ : ∃ W, wr.iterAt w.heap.size s (pos + K) = W := ⟨_, rfl⟩
   rw [hWd] at hnx hit2 hbw2
   by_cases h65 : R = 65533
   ·have h65i : ((R : Nat) : Int) = 65533 := by omega
    rw [h65i] at hnx
    have cS := hp_c W (s.extract pos s.size)
    obtain ⟨q, hq⟩ : ∃ q, preF (s.extract pos s.size).data.toList = q := ⟨_, rfl⟩
    rw [hq] at cS hleft
    clear hR hK hWd hit hbw
    have hx : Ext w W := hbw2
    cases q with
    | false =>
     rw [if_pos ⟨h65, rfl⟩] at hleft
     have HL := Lib.hid hleft
     clear hleft
     go_wp2_with (go_at_fn 77; fail)
     with_reducible refine Calls.mono cS ?_
     intro e w' hh
     obtain ⟨v, he, hx2, hv⟩ := hh
     subst he
     subst hv
     go_wp2
     go_ret
     exact ⟨false, rfl, hx.tr hx2, HL.out⟩
    | true =>
     rw [if_neg (by simp)] at hleft
     have HL := Lib.hid hleft
     clear hleft
     go_wp2_with (go_at_fn 77; fail)
     with_reducible refine Calls.mono cS ?_
     intro e w' hh
     obtain ⟨v, he, hx2, hv⟩ := hh
     subst he
     subst hv
     go_wp2
     go_roundg g'
     case measure => omega
     case rel => exact ⟨pos + K, (hx2.block _ (Array.getElem?_eq_some_iff.1 hit2).1).trans hit2, hx.tr hx2, HL.out, by omega⟩
   ·have h65i : ¬ ((R : Nat) : Int) = 65533 := by omega
    have hx : Ext w W := hbw2
    rw [if_neg (fun h => h65 h.1)] at hleft
    have HL := Lib.hid hleft
    clear hleft hR hK hWd hit hbw
    generalize ((R : Nat) : Int) = Ri at *
    go_wp2
    go_roundg g'
    case measure => omega
    case rel => exact ⟨pos + K, hit2, hx, HL.out, by omega⟩
  ·have hnx : ∀ ty, (Instr.next (.pointer (some ⟨w.heap.size, 0, none⟩)) true ty).run Try.prog wr = _ := fun ty => Lib.run_next_end_at wr w.heap.size s pos ty hit hps
   have hz : true = Z := by
    rw [← hleft]
    cases gk with
    | zero => rfl
    | succ g => rw [ptsFrom, if_neg hps]
   have HL := Lib.hid hz
   clear hleft hz
   go_wp2
   go_ret
   exact ⟨true, rfl, hbw, HL.out⟩
def pts_ct : Ct := ctc rS.rd fun _ l0 => ct0 fun _ => ([l0.length ≤ 1000000], kB (ptsF l0), [])
theorem pts_h : FnOk Try.prog Tr 58 pts_ct := by
 refine ⟨fun args H g av objs hF hg ρ w vals hG hp ha => ?_, _, Try.func58, by kernel_rfl, by kernel_rfl⟩
 obtain ⟨x0, _, l0, rfl, e0, hF⟩ := ctc_inv hF
 obtain ⟨rfl, rfl, rfl, rfl⟩ := ct0_inv hF
 obtain ⟨v0, vals, rfl, k0, ha⟩ := F2.inv ha
 obtain rfl := F2.inv0 ha
 obtain rfl := aS_ok e0 k0
 refine (pts_c w ⟨l0.toArray⟩).mono fun e w' ⟨r, he, hx, hr⟩ => ⟨_, he, hx, left_val fun ρ => ?_⟩
 rw [hr]; rfl
end Go.Proofs.Ytliilihbnhdemaa
end
