import Derived.Test.YtliilihbnhdemaaZ1
import Derived.Test.YtliilihbnhdemaaProg
import Derived.Shelf.RegionOpenPlain
import Derived.WalkKit
import Derived.Deep.LoopGhost
import Derived.Lib.Walk
import Derived.Sort.WalkB12
import Derived.Lib.SlicesMore
import Derived.Lib.SliceRun
import Derived.Lib.AppendZerosOnto
import Derived.Lib.MakeNoZero
import Derived.Laws.Externs
set_option linter.unusedVariables false
set_option linter.unusedSimpArgs false
section
namespace Go.Sx
open Go.RowKit Go.Ch
abbrev kI (n : Int) : AV := .c (.s (.k .i64 n))
abbrev kB (b : Bool) : AV := .c (.s (.b b))
abbrev kH (i : Nat) : AV := .c (.wh i)
abbrev kU (x : UInt8) : AV := .c (.s (.u8 x))
abbrev kX (x : UInt32) : AV := .c (.s (.u32 x))
abbrev kY (x : UInt64) : AV := .c (.s (.u64 x))
abbrev kE (t : TypeId) (o : Option Int) : AV := .c (.s (.er t .i64 o))
abbrev kP (i off : Nat) : AV := .c (.pt i off)
abbrev ob (e : TypeId) (l : List UInt8) : Oj := ⟨.ro false, e, 1, l.length, .b l⟩
abbrev ow (e : TypeId) (l : List UInt32) : Oj := ⟨.ro false, e, 1, l.length, .w l⟩
abbrev nb (e : TypeId) (l : List UInt8) : Oj := ⟨.row, e, 1, l.length, .b l⟩
abbrev nw (e : TypeId) (l : List UInt32) : Oj := ⟨.row, e, 1, l.length, .w l⟩
theorem aP {p : Prop} {ps : List Prop} (h : p) (hs : allP ps) : allP (p :: ps) := allP_cons.2 ⟨h, hs⟩
theorem aN : allP [] := allP_nil
section
variable {P : Program} {T : Tab} {ρ : Pls} {w w' : World} {bs : Bs} {w0 : World} {s : S} {a : Act} {N : Nat} {ft : Nat → FT} {Q : Exit → S → Prop}
theorem fT (k : Nat) {J : World → Prop} {f : FuncId} {F : Ct} {l : List (Nat × FuncId × Ct)} (h : FnOk P Tr f F) (hl : ∀ i, FtOk P J (ftL l i)) : ∀ i, FtOk P J (ftL ((k, f, F) :: l) i) := ftL_cons h (fun _ _ => True.intro) hl
theorem fN {J : World → Prop} : ∀ i, FtOk P J (ftL [] i) := ftL_nil
theorem Vr (hT : TabOk P T) {id : Nat} {l : List Oper} (objs : List Nat) (s' : S) (hQ : Q .normal s') (h : reg T (ftL []) N [] [] (s'.fr.map (·.1)) objs l s = some ([], s') := by kernel_rfl) :
  W P N bs w0 (.region id l.toArray false) s Q := W_reg hT ftL_nil [] [] _ objs h allP_nil hQ
theorem Vrs (hT : TabOk P T) {id : Nat} {l : List Oper} {y : Code} (objs : List Nat) (s' : S) (hQ : W P N bs w0 y s' Q) (h : reg T (ftL []) N [] [] (s'.fr.map (·.1)) objs l s = some ([], s') := by kernel_rfl) :
  W P N bs w0 (.seq (.region id l.toArray false) y) s Q := W_seq (Vr hT objs s' hQ h)
theorem Vg (hT : TabOk P T) (hF : ∀ i, FtOk P (Kp bs w0) (ft i)) {id : Nat} {l : List Oper} (asm : List (Nat × Bool)) (cs : List Co) (objs : List Nat) {g : List Prop} (s' : S) (hg : allP g) (hQ : Q .normal s') (h : reg T ft N asm cs (s'.fr.map (·.1)) objs l s = some (g, s') := by kernel_rfl) :
  W P N bs w0 (.region id l.toArray false) s Q := W_reg hT hF asm cs _ objs h hg hQ
theorem Vgs (hT : TabOk P T) (hF : ∀ i, FtOk P (Kp bs w0) (ft i)) {id : Nat} {l : List Oper} {y : Code} (asm : List (Nat × Bool)) (cs : List Co) (objs : List Nat) {g : List Prop} (s' : S) (hg : allP g) (hQ : W P N bs w0 y s' Q) (h : reg T ft N asm cs (s'.fr.map (·.1)) objs l s = some (g, s') := by kernel_rfl) :
  W P N bs w0 (.seq (.region id l.toArray false) y) s Q := W_seq (Vg hT hF asm cs objs s' hg hQ h)
theorem Vd (hT : TabOk P T) (hF : ∀ i, FtOk P (Kp bs w0) (ft i)) {id : Nat} {l : List Oper} (k : Nat) (asm ks : List (Nat × Bool)) (cs : List Co) (objs : List Nat) {g : List Prop} (s' : S) (hg : allP g) (hQ : Q .normal s')
  (hm : P.follows .mixedOrders = true := by kernel_rfl) (hr : (okRegion l.toArray k N && decide (k ≤ l.length)) = true := by kernel_rfl) (h : regD T ft N k asm ks cs (s'.fr.map (·.1)) objs l s = some (g, s') := by kernel_rfl) :
  W P N bs w0 (.region id l.toArray true) s Q := W_regD hT hF hm k asm ks cs _ objs hr h hg hQ
theorem Vds (hT : TabOk P T) (hF : ∀ i, FtOk P (Kp bs w0) (ft i)) {id : Nat} {l : List Oper} {y : Code} (k : Nat) (asm ks : List (Nat × Bool)) (cs : List Co) (objs : List Nat) {g : List Prop} (s' : S) (hg : allP g) (hQ : W P N bs w0 y s' Q)
  (hm : P.follows .mixedOrders = true := by kernel_rfl) (hr : (okRegion l.toArray k N && decide (k ≤ l.length)) = true := by kernel_rfl) (h : regD T ft N k asm ks cs (s'.fr.map (·.1)) objs l s = some (g, s') := by kernel_rfl) :
  W P N bs w0 (.seq (.region id l.toArray true) y) s Q := W_seq (Vd hT hF k asm ks cs objs s' hg hQ hm hr h)
theorem Vc {c : Code} (cs : List Co) (objs : List Nat) (s' : S) (hW : W P N bs w0 c s' Q) (h : after cs (s'.fr.map (·.1)) objs s = some s' := by kernel_rfl) : W P N bs w0 c s Q := W_co cs _ objs h hW
theorem Vi {t : Nat} {x y : Code} (b : Bool) (hx : b = true → W P N bs w0 x s Q) (hy : b = false → W P N bs w0 y s Q) (hb : s.fr.lookup t = some (.c (.s (.b b))) := by kernel_rfl) : W P N bs w0 (.cond (.tmp t) x y) s Q := W_cond hb hx hy
end
theorem gd2 {α : Type} {p q : Prop} [Decidable p] [Decidable q] {x : Option α} {r : α} (h : gd p (gd q x) = some r) : p ∧ q ∧ x = some r := ⟨(gd_some h).1, gd_some (gd_some h).2⟩
theorem gd3 {α : Type} {p q p3 : Prop} [Decidable p] [Decidable q] [Decidable p3] {x : Option α} {r : α} (h : gd p (gd q (gd p3 x)) = some r) : p ∧ q ∧ p3 ∧ x = some r := ⟨(gd_some h).1, gd2 (gd_some h).2⟩
theorem gd4 {α : Type} {p q p3 p4 : Prop} [Decidable p] [Decidable q] [Decidable p3] [Decidable p4] {x : Option α} {r : α} (h : gd p (gd q (gd p3 (gd p4 x))) = some r) : p ∧ q ∧ p3 ∧ p4 ∧ x = some r := ⟨(gd_some h).1, gd3 (gd_some h).2⟩
theorem gd5 {α : Type} {p q p3 p4 p5 : Prop} [Decidable p] [Decidable q] [Decidable p3] [Decidable p4] [Decidable p5] {x : Option α} {r : α} (h : gd p (gd q (gd p3 (gd p4 (gd p5 x)))) = some r) : p ∧ q ∧ p3 ∧ p4 ∧ p5 ∧ x = some r := ⟨(gd_some h).1, gd4 (gd_some h).2⟩
def ct0 (k : Hp → List Prop × AV × List Oj) : Ct := fun args H => match args with | [] => some (k H) | _ => none
def ctc {α : Type} (rd : Hp → AV → Option α) (k : AV → α → Ct) : Ct := fun args H => match args with | x :: xs => (match rd H x with | some a => k x a xs H | none => none) | [] => none
theorem ct0_inv {k : Hp → List Prop × AV × List Oj} {args : List AV} {H : Hp} {g : List Prop} {av : AV} {os : List Oj} (h : ct0 k args H = some (g, av, os)) : args = [] ∧ (k H).1 = g ∧ (k H).2.1 = av ∧ (k H).2.2 = os := by
 unfold ct0 at h
 split at h
 ·injection h with h; rw [h]; exact ⟨rfl, rfl, rfl, rfl⟩
 ·cases h
theorem ctc_inv {α : Type} {rd : Hp → AV → Option α} {k : AV → α → Ct} {args : List AV} {H : Hp} {y : List Prop × AV × List Oj} (h : ctc rd k args H = some y) : ∃ x xs a, args = x :: xs ∧ rd H x = some a ∧ k x a xs H = some y := by
 cases args with
 | nil => cases h
 | cons x xs =>
  simp only [ctc] at h
  split at h
  ·rename_i a ha; exact ⟨x, xs, a, rfl, ha, h⟩
  ·cases h
end Go.Sx
end
section
namespace Go.Sx
open Go.RowKit Go.Ch
structure Rd (α : Type) where
 rd : Hp → AV → Option α
 op : Nat → α → AV
 os : α → List Oj
 pr : α → Prop
 ok : ∀ {ρ : Pls} {w : World} {H : Hp} {x : AV} {a : α} {v : Value}, HpR ρ w H → rd H x = some a → avR ρ x v → pr a ∧ ∃ ps : List Pl, F2 (fun o p => ∀ ρ, objR ρ w p o) (os a) ps ∧ allRo (os a) = true ∧ ∀ (k : Nat) (ρ' : Pls), (∀ j p, ps[j]? = some p → ρ' (k + j) = p) → avR ρ' (op k a) v
structure RdL (α : Type) where
 n : Nat
 rd : Hp → List Cl → Option α
 op : Nat → α → List Cl
 os : α → List Oj
 ok : ∀ {ρ : Pls} {w : World} {H : Hp} {x : List Cl} {a : α} {v : List Value}, HpR ρ w H → rd H x = some a → F2 (clR ρ) x v → ∃ ps : List Pl, F2 (fun o p => ∀ ρ, objR ρ w p o) (os a) ps ∧ allRo (os a) = true ∧ ∀ (k : Nat) (ρ' : Pls), (∀ j p, ps[j]? = some p → ρ' (k + j) = p) → F2 (clR ρ') (op k a) v
theorem allRo_append : ∀ {a b : Hp}, allRo a = true → allRo b = true → allRo (a ++ b) = true
 | [], _, _, hb => hb
 | x :: l, b, ha, hb => by
  simp only [allRo, Bool.and_eq_true, List.cons_append] at ha ⊢
  exact ⟨ha.1, allRo_append ha.2 hb⟩
abbrev rB (e : TypeId) : Rd (List UInt8) := ⟨aB, fun k _ => kH k, fun l => [ob e l], fun _ => True, fun hp h hv => by
 obtain ⟨p, s, o⟩ := aB_ok hp h hv e
 exact ⟨True.intro, [p], F2.cons o F2.nil, rfl, fun k ρ' hk => by have e := hk 0 p rfl; rw [Nat.add_zero] at e; show _ = _; rw [e]; exact s⟩⟩
abbrev rW (e : TypeId) : Rd (List UInt32) := ⟨aW, fun k _ => kH k, fun l => [ow e l], fun _ => True, fun hp h hv => by
 obtain ⟨p, s, o⟩ := aW_ok hp h hv e
 exact ⟨True.intro, [p], F2.cons o F2.nil, rfl, fun k ρ' hk => by have e := hk 0 p rfl; rw [Nat.add_zero] at e; show _ = _; rw [e]; exact s⟩⟩
abbrev rI : Rd Int := ⟨fun _ => aI, fun _ n => kI n, fun _ => [], fun _ => True, fun _ h hv => ⟨True.intro, [], F2.nil, rfl, fun _ _ _ => aI_ok h hv⟩⟩
abbrev rU32 : Rd UInt32 := ⟨fun _ => aU32, fun _ n => kX n, fun _ => [], fun _ => True, fun _ h hv => ⟨True.intro, [], F2.nil, rfl, fun _ _ _ => aU32_ok h hv⟩⟩
structure RdC (α : Type) where
 r : Rd α
 cl : Nat → α → Cl
 eq : ∀ k a, r.op k a = .c (cl k a)
abbrev cI : RdC Int := ⟨rI, fun _ n => .s (.k .i64 n), fun _ _ => rfl⟩
abbrev lN : RdL Unit := ⟨0, fun _ x => match x with | [] => some () | _ => none, fun _ _ => [], fun _ => [], fun {ρ w H x a v} _ h hv => by
 cases x with
 | nil => exact ⟨[], F2.nil, rfl, fun _ _ _ => ⟨hv.1, fun j x y hx => by simp at hx⟩⟩
 | cons y ys => cases h⟩
abbrev lC {α β : Type} (c : RdC α) (l : RdL β) : RdL (α × β) := ⟨l.n + 1, fun H x => match x with | y :: ys => (match c.r.rd H (.c y) with | some a => (match l.rd H ys with | some b => some (a, b) | none => none) | none => none) | [] => none,
 fun k p => c.cl k p.1 :: l.op (k + (c.r.os p.1).length) p.2, fun p => c.r.os p.1 ++ l.os p.2, fun {ρ w H x a v} hp h hv => by
  cases x with
  | nil => cases h
  | cons y ys =>
   dsimp only at h
   split at h
   ·rename_i a1 h1
    split at h
    ·rename_i b1 h2
     injection h with h; subst h
     cases v with
     | nil => have := hv.1; simp at this
     | cons u us =>
      have hu : clR ρ y u := hv.2 0 y u rfl rfl
      have hus : F2 (clR ρ) ys us := ⟨by have := hv.1; simpa using this, fun j x y hx hy => hv.2 (j + 1) x y (by simpa using hx) (by simpa using hy)⟩
      obtain ⟨_, ps, f1, g1, k1⟩ := c.r.ok hp h1 (show avR ρ (.c y) u from hu)
      obtain ⟨qs, f2, g2, k2⟩ := l.ok hp h2 hus
      refine ⟨ps ++ qs, F2.append f1 f2, allRo_append g1 g2, fun k ρ' hk => ?_⟩
      have e1 := k1 k ρ' (fun j p hj => hk j p (by rw [List.getElem?_append_left (List.getElem?_eq_some_iff.1 hj).1]; exact hj))
      rw [c.eq] at e1
      refine F2.cons e1 (k2 _ ρ' fun j p hj => ?_)
      rw [f1.1, Nat.add_assoc]
      exact hk _ p (by rw [List.getElem?_append_right (by omega), Nat.add_sub_cancel_left]; exact hj)
    ·cases h
   ·cases h⟩
abbrev rSt {α : Type} (l : RdL α) : Rd α := ⟨fun H x => match aGc l.n x with | some y => l.rd H y | none => none, fun k a => .g l.n (.c (l.op k a)), l.os, fun _ => True, fun {ρ w H x a v} hp h hv => by
 split at h
 ·rename_i y hy
  have hg : ∃ vs : List Value, F2 (clR ρ) y vs ∧ vs.length = l.n ∧ v = .agg vs.toArray := by
   obtain ⟨vs, h1, rfl, h3⟩ := aGc_ok hy hv
   refine ⟨vs, ⟨?_, fun j x u hx hu => ?_⟩, h1, rfl⟩
   ·unfold aGc at hy
    split at hy
    ·split at hy
     ·rename_i hm
      simp only [Bool.and_eq_true] at hm
      injection hy with hy; subst hy
      rw [h1, ← Nat.eq_of_beq_eq_true hm.2]
     ·cases hy
    ·cases hy
   ·have := h3 j (by rw [← h1]; exact (List.getElem?_eq_some_iff.1 hu).1)
    rw [List.getD_eq_getElem?_getD, hx, List.getD_eq_getElem?_getD, hu] at this
    exact this
  obtain ⟨vs, h1, h2, rfl⟩ := hg
  obtain ⟨ps, f1, g1, k1⟩ := l.ok hp h h1
  exact ⟨True.intro, ps, f1, g1, fun k ρ' hk => ⟨vs, k1 k ρ' hk, h2, rfl⟩⟩
 ·cases h⟩
def HO (P : Program) (I : World → Prop) (f : FuncId) (F : Ct) (az : List AV) (os : Hp) : Prop :=
 ∀ (args : List AV) (H : Hp) (g : List Prop) (av : AV) (objs : List Oj), F args H = some (g, av, objs) → allP g → ∀ (ρ : Pls) (w : World) (vals : List Value), I w → HpR ρ w H → F2 (avR ρ) args vals →
  ∀ (ps : List Pl) (v0 : List Value), F2 (fun o p => ∀ ρ, objR ρ w p o) os ps → allRo os = true → (∀ ρ' : Pls, (∀ j p, ps[j]? = some p → ρ' j = p) → F2 (avR ρ') az v0) →
   Calls P f (v0 ++ vals).toArray w (Ret fun v w' => Ext w w' ∧ ∃ ps, Left ρ w H av objs v w' ps)
section
variable {P : Program} {I : World → Prop} {f : FuncId} {az : List AV} {os : Hp} {T : Tab}
theorem HO_c {α : Type} (r : Rd α) {K : α → Ct} (h : ∀ a, r.pr a → HO P I f (K a) (az ++ [r.op os.length a]) (os ++ r.os a)) : HO P I f (ctc r.rd fun _ => K) az os := by
 intro args H g av objs hF hg ρ w vals hI hp ha ps v0 f0 g0 k0
 obtain ⟨x, xs, a, rfl, hx, hF⟩ := ctc_inv hF
 obtain ⟨v, vs, rfl, hv, ha⟩ := F2.inv ha
 obtain ⟨hpr, qs, f1, g1, k1⟩ := r.ok hp hx hv
 have := h a hpr xs H g av objs hF hg ρ w vs hI hp ha (ps ++ qs) (v0 ++ [v]) (F2.append f0 f1) (allRo_append g0 g1) (fun ρ' hk => F2.append (k0 ρ' fun j p hj => hk j p (by rw [List.getElem?_append_left (List.getElem?_eq_some_iff.1 hj).1]; exact hj)) (F2.cons (k1 _ ρ' fun j p hj => by
  rw [f0.1]
  exact hk _ p (by rw [List.getElem?_append_right (by omega), Nat.add_sub_cancel_left]; exact hj)) F2.nil))
 rw [List.append_assoc] at this
 exact this
theorem HO_0 (hT : TabOk P T) (R : S) (rs : List ResultVar) (keep : List Nat) (n : Nat) {fn : Func} {c : Code} {gs : Prop} {x : AV} {os' : List Oj} (hf : P.funcs[f]? = some fn) (hW : ∀ w, I w → gs → W P n (noB (fun _ => undef)) w c ⟨args0 0 az, [], os⟩ (fun e s => (e = .ret ∨ e = .normal) ∧ s = R))
  (hb : fn.body = some c := by rfl) (hn : fn.ntmps = n := by rfl) (hres : fn.results = rs.toArray := by rfl) (hr : retS T R rs keep = some (x, os') := by kernel_rfl) (hl : Nat.ble az.length n = true := by kernel_rfl) :
  HO P I f (ct0 fun H => ([gs], shA H.length x, shH H.length os')) az os := by
 intro args H g av objs hF hg ρ w vals hI hp ha ps v0 f0 g0 k0
 obtain ⟨rfl, rfl, rfl, rfl⟩ := ct0_inv hF
 obtain rfl := F2.inv0 ha
 rw [List.append_nil]
 have hv := k0 (plL ps) (fun j p hj => by unfold plL; rw [hj])
 have hR0 := rel0 (gv := fun _ => undef) (n := n) (w := w) (gl := []) (hpL f0) (allRo_ok g0) hv GlR.nil (by rw [← hv.1]; exact Nat.le_of_ble_eq_true hl)
 refine calls_W hf hb hn hR0 (hW w hI hg) ?_
 rintro e s' ⟨he, rfl⟩
 exact ⟨he, fun a' w' hr' => retS_ok hT hr' (rs := rs) hres hr⟩
theorem fnok {F : Ct} {fn : Func} (hf : P.funcs[f]? = some fn) (h : HO P I f F [] []) (h1 : ((fn.name == "runtime.NumGoroutine") = false) := by kernel_rfl) (h2 : fn.body.isNone = false := by kernel_rfl) : FnOk P I f F :=
 ⟨fun args H g av objs hF hg ρ w vals hI hp ha => h args H g av objs hF hg ρ w vals hI hp ha [] [] F2.nil rfl (fun _ _ => F2.nil), fn, hf, h1, h2⟩
end
end Go.Sx
end
section
namespace Go.Proofs.Ytliilihbnhdemaa
open Go.RowKit Go.Ch Go.Sx
theorem cloneb_info : (Try.prog.info? 5).map (fun i => (i.zero, i.size, i.bytes)) = some (some (.int .u8 0), 1, 1) := by kernel_rfl
set_option maxHeartbeats 400000 in
set_option maxRecDepth 100000 in
theorem cloneb_c (w : World) (B : Nat) (v : Value) (l : List UInt8) (hv : Sl w B v (l.map bU)) (hl : l.length ≤ 1000000000000) :
  Calls Try.prog 49 #[v] w (Ret fun v' w' => Ext w w' ∧ Own w' w.heap.size 5 v' (l.map bU)) := by
 obtain ⟨i5, hi5, hz5, hs5, hb5⟩ := info_parts cloneb_info
 go_enter Try.func49, Try.ntmps49
 go_wp2_with (first
  | ((with_reducible refine g_at (d := 4) ?_); refine wpl_eq_nil rfl Try.underlying22 hv ?_; intro b4 hb4; try (conv in (Act.put _ _ _) => simp only [Act.put, List.setIfInBounds_toArray, List.set_cons_succ, List.set_cons_zero]))
  | ((with_reducible refine g_at (d := 5) ?_); refine wpl_buildSlice (vs := []) Try.underlying22 hi5 hz5 hs5 rfl (xs := []) rfl rfl rfl (by simp) (by omega) ?_; intro v5 w5 h5 hx5 ha5; try (conv in (Act.put _ _ _) => simp only [Act.put, List.setIfInBounds_toArray, List.set_cons_succ, List.set_cons_zero]))
  | ((with_reducible refine g_at (d := 7) ?_); refine wpl_append (v := v5) rfl rfl Try.underlying22 hi5 hz5 hs5 hb5 rfl h5 (hv.ext hx5) (bU_one l) (by first | omega | (simp <;> omega)) (by omega) hx5.size ?_; intro v7 w7 h7 hg7 ha7 hx7; try (conv in (Act.put _ _ _) => simp only [Act.put, List.setIfInBounds_toArray, List.set_cons_succ, List.set_cons_zero])))
 ·go_ret
  have := hb4 (by assumption)
  exact ⟨_, rfl, Below.refl _ _, by rw [this]; exact World.ownsRow_nil _ _ _ _⟩
 ·go_ret
  exact ⟨_, rfl, hx5.trans hx7, by simpa using h7⟩
def cloneb_ct : Ct := fun args H => match args with
 | [x] => (match aB H x with | some l => some ([l.length ≤ 1000000000000], .c (.wh H.length), [⟨.row, 5, 1, l.length, .b l⟩]) | none => none)
 | _ => none
theorem cloneb_h : FnOk Try.prog Tr 49 cloneb_ct := by
 refine ⟨fun args H g av objs hF hg ρ w vals hG hp ha => ?_, _, Try.func49, by kernel_rfl, by kernel_rfl⟩
 unfold cloneb_ct at hF
 split at hF
 ·split at hF
  ·rename_i x l hl
   simp only [Option.some.injEq, Prod.mk.injEq] at hF
   obtain ⟨rfl, rfl, rfl⟩ := hF
   obtain ⟨v, vals, rfl, k, ha⟩ := F2.inv ha
   obtain rfl := F2.inv0 ha
   obtain ⟨p, hI⟩ := aB_ok hp hl k 5
   have hb : l.length ≤ 1000000000000 := by simpa [allP] using hg
   exact calls_mono (cloneb_c w _ v l (hI.sl (fun _ _ h => csR_b.1 h) (by simp)) hb) fun v w' ⟨hx, hv⟩ => ⟨hx, left_row hv (fun _ => csR_b.2 rfl) (by simp)⟩
  ·cases hF
 ·cases hF
end Go.Proofs.Ytliilihbnhdemaa
end
section
namespace Go.Proofs.Ytliilihbnhdemaa
open Go.RowKit Go.Ch Go.Sx Go.Lib Go.Sort Go.Shelf Go.Proofs
theorem u8_info : (Try.prog.info? 5).map (fun i => (i.zero, i.size, i.bytes)) = some (some (.int .u8 0), 1, 1) := by kernel_rfl
set_option maxHeartbeats 1600000 in
set_option maxRecDepth 1000000 in
theorem rev_arr (blk off cap : Nat) (d : Array UInt8) (w : World) (hH : Holds bU w blk off d) (hsz : d.size ≤ 9223372036854775807) :
  Calls Try.prog 81 #[.slice (some ⟨blk, off, none⟩) d.size cap] w fun e w' => e = .returned (.tuple #[]) ∧ ∃ n, w' = putRow bU (Sort.ahead w n) blk off d.reverse := by
 have mixed : Try.prog.follows .mixedOrders = true := by kernel_rfl
 have t3 : Try.prog.underlying 3 = some (.int .i64) := by kernel_rfl
 have t4 : Try.prog.underlying 4 = some .bool := by kernel_rfl
 have t22 : Try.prog.underlying 22 = some (.slice 5) := by kernel_rfl
 have t5 : Try.prog.underlying 5 = some (.int .u8) := by kernel_rfl
 have a3 : ∀ w, (isAgg 3).run Try.prog w = .ok false w := fun w => run_isAgg_no t3 rfl
 have a4 : ∀ w, (isAgg 4).run Try.prog w = .ok false w := fun w => run_isAgg_no t4 rfl
 have a22 : ∀ w, (isAgg 22).run Try.prog w = .ok false w := fun w => run_isAgg_no t22 rfl
 have a23 : ∀ w, (isAgg 5).run Try.prog w = .ok false w := fun w => run_isAgg_no t5 rfl
 have z3 : ∀ w, (Go.sizeOf 3).run Try.prog w = .ok 1 w := fun w => by kernel_rfl
 have z4 : ∀ w, (Go.sizeOf 4).run Try.prog w = .ok 1 w := fun w => by kernel_rfl
 have z22 : ∀ w, (Go.sizeOf 22).run Try.prog w = .ok 1 w := fun w => by kernel_rfl
 have z23 : ∀ w, (Go.sizeOf 5).run Try.prog w = .ok 1 w := fun w => by kernel_rfl
 go_enter Try.func81, Try.ntmps81
 go_wp2
 go_loopg [2, 3] d.size (fun k s2 s3 wr => ∃ (i jn : Nat) (jz : Int) (dk : Array UInt8) (n : Nat), s2 = .int .i64 i ∧ s3 = .int .i64 jz ∧ ((i : Int) < jz → jz = jn ∧ jn < d.size) ∧ (¬ (i : Int) < jz → ¬ i < jn) ∧ jn - i ≤ k ∧
  dk.size = d.size ∧ wr = putRow bU (Sort.ahead w n) blk off dk ∧ reverseLoop i jn dk = reverseLoop 0 (d.size - 1) d)
 case atStart => exact ⟨0, d.size - 1, (d.size : Int) - 1, d, 0, rfl, rfl, fun h => ⟨by omega, by omega⟩, fun h => by omega, by omega, rfl, (putRow_self bU w blk off d hH).symm, rfl⟩
 case round =>
  obtain ⟨i, jn, jz, dk, n, rfl, rfl, h1, h2, hk, hds, hwr, heq⟩ := hrel
  by_cases hlt : (i : Int) < jz
  ·obtain ⟨rfl, hjn⟩ := h1 hlt
   have hij : i < jn := by omega
   have hHk : Holds bU wr blk off dk := by rw [hwr]; exact holds_putRow bU _ blk off d dk (holds_ahead bU w n blk off d hH) hds
   obtain ⟨ci, fi⟩ := hHk i (by omega)
   obtain ⟨cj, fj⟩ := hHk jn (by omega)
   simp only [bU] at ci cj
   have A : Aside (wr = putRow bU (Sort.ahead w n) blk off dk) := hwr
   clear hwr hHk hH h1 h2
   go_wp2_with fail
   go_region_o
   go_wp2
   go_roundg (jn - 1 - (i + 1))
   case measure => omega
   case rel =>
    rw [reverseLoop, if_pos hij] at heq
    exact ⟨i + 1, jn - 1, (jn : Int) - 1, swp dk i jn, n + 1, by simp, rfl, fun h => ⟨by omega, by omega⟩, fun h => by omega, Nat.le_refl _, by rw [size_swp]; exact hds,
     swap_world bU (by omega) (by omega) A.out (by first | rfl | simp [bU, getElem!_pos, show jn < dk.size by omega]) (by first | rfl | simp [bU, getElem!_pos, show i < dk.size by omega]), heq⟩
  ·have hnot := h2 hlt
   go_wp2
   go_end0
   refine ⟨rfl, n, ?_⟩
   rw [reverseLoop, if_neg hnot] at heq
   rw [← Lib.reverseLoop_reverse, ← heq]
theorem heap_put (w : World) (n blk : Nat) (d : Array UInt8) (k : Nat) : (putRow bU (Sort.ahead w n) blk 0 d).heap[k]? = if blk = k then (w.heap[k]?).map (onCells (putCells bU 0 d)) else w.heap[k]? := by
 show (w.heap.modify blk (onCells (putCells bU 0 d)))[k]? = _
 rw [Array.getElem?_modify]
theorem rev_c (w : World) (B : Nat) (v : Value) (l : List UInt8) (hv : Own w B 5 v (l.map bU)) (hne : l ≠ []) :
  Calls Try.prog 81 #[v] w (Ret fun v' w' => Own w' B 5 v (l.reverse.map bU) ∧ w.grownBy w' v.ownBlock) := by
 obtain ⟨h1, h2⟩ := hv
 rcases h2 with ⟨_, h0⟩ | ⟨g, cap, cur, rfl, hB, hg, hc, hm, hs, ht⟩
 ·rw [List.length_map] at h0
  exact absurd (List.eq_nil_of_length_eq_zero h0) hne
 ·rw [List.length_map] at *
  rw [Nat.mul_one] at ht hs
  have hlen : l.length ≤ cur.size := by omega
  have hH : Holds bU w g 0 l.toArray := by
   intro j hj
   have hj' : j < l.length := by simpa using hj
   have hcj : cur.toList[j]? = some (bU l[j]) := by
    have := congrArg (·[j]?) ht
    simp only [List.getElem?_take, if_pos hj', List.getElem?_map, List.getElem?_eq_getElem hj', Option.map_some] at this
    exact this
   refine ⟨?_, ?_⟩
   ·simp only [World.cell?, hg, Nat.zero_add]
    rw [getElem!_pos l.toArray j hj]
    simpa using hcj
   ·simp only [World.frozen?, hg]
    simp
  have hr := rev_arr g 0 cap l.toArray w hH (by simp; unfold maxLen at hm; omega)
  rw [List.size_toArray] at hr
  refine hr.mono fun e w' ⟨he, n, hw⟩ => ?_
  refine ⟨_, he, ?_, ?_⟩
  ·refine ⟨by simp, .inr ⟨g, cap, putCells bU 0 l.reverse.toArray cur, by simp, hB, ?_, by simpa using hc, hm, ?_, ?_⟩⟩
   ·rw [hw, List.reverse_toArray, heap_put, if_pos rfl, hg]; rfl
   ·simp [putCells, hs]
   ·apply List.ext_getElem?
    intro j
    simp only [List.length_map, List.length_reverse, Nat.mul_one, List.getElem?_take, putCells, Array.getElem?_toList, Array.getElem?_mapIdx, List.getElem?_map]
    by_cases hj : j < l.length
    ·have hjs : j < cur.size := by omega
     have hjr : j < l.reverse.length := by simpa using hj
     rw [if_pos hj, Array.getElem?_eq_getElem hjs, List.getElem?_eq_getElem hjr]
     simp only [Option.map_some, Nat.zero_le, true_and, Nat.zero_add, Nat.sub_zero, List.size_toArray, List.length_reverse, hj, if_true]
     rw [getElem!_pos l.reverse.toArray j (by simpa using hj)]
     simp
    ·rw [if_neg hj, List.getElem?_eq_none (by simpa using hj)]; rfl
  ·refine ⟨by rw [hw]; rfl, by rw [hw]; rfl, by rw [hw]; rfl, by rw [hw]; simp [putRow, mapBlock, Sort.ahead], fun k hk hne => ?_⟩
   rw [hw, List.reverse_toArray, heap_put, if_neg (fun h => hne (by rw [h]; rfl))]
section words
variable {P : Program} {w : World}
theorem run_or8 (t : TypeId) (ex ey : Operand) (x y : UInt8) (w : World) : binRun P .or t ex ey (bU x) (bU y) w = .ok (bU (x ||| y)) w := by
 have e : ∀ x : UInt8, BitVec.ofInt 8 (x.toNat : Int) = x.toBitVec := fun x => by
  rw [BitVec.ofInt_natCast]
  apply BitVec.eq_of_toNat_eq
  simp
 have b : ∀ r : BitVec 8, IntKind.u8.wrap (r.toNat : Int) = (r.toNat : Int) := fun r => by
  have := r.isLt
  rw [IntKind.wrap_u8]; omega
 simp only [binRun, bU, Sem.run_bind, guard_int, Result.andThen_ok]
 simp only [binOp, if_neg (show ¬ (IntKind.u8 ≠ IntKind.u8) by simp), Op.intBits, Sem.run_pure]
 show Result.ok (Value.int .u8 (IntKind.u8.wrap ((BitVec.ofInt 8 (x.toNat : Int) ||| BitVec.ofInt 8 (y.toNat : Int)).toNat : Int))) w = _
 rw [e, e, b]
 rfl
theorem run_gt32 (t : TypeId) (ex ey : Operand) (x y : UInt32) (w : World) : binRun P .gtr t ex ey (w32 x) (w32 y) w = .ok (.bool (decide (y < x))) w := by
 simp only [binRun, w32, Sem.run_bind, guard_int, Result.andThen_ok]
 simp only [binOp, if_neg (show ¬ (IntKind.u32 ≠ IntKind.u32) by simp), Op.intCmp, Sem.run_pure]
 congr 2
 rw [Bool.eq_iff_iff]
 simp [UInt32.lt_iff_toNat_lt]
end words
def grpT : Nat → UInt32 → List UInt8
 | 0, _ => []
 | f + 1, n => if n = 0 then [] else ((n &&& 127).toUInt8 ||| 128) :: grpT f (n >>> 7)
def grp (n : UInt32) : List UInt8 := ((n &&& 127).toUInt8 :: grpT 5 (n >>> 7)).reverse
theorem shr7 (n : UInt32) : (n >>> UInt32.ofNat 7).toNat = n.toNat / 128 := by
 rw [UInt32.toNat_shiftRight, Nat.shiftRight_eq_div_pow]; rfl
theorem shr7' (n : UInt32) : (n >>> 7) = (n >>> UInt32.ofNat 7) := rfl
set_option maxHeartbeats 800000 in
theorem group_c (w : World) (n : UInt32) :
  Calls Try.prog 65 #[w32 n] w (Ret fun v' w' => Ext w w' ∧ Own w' w.heap.size 5 v' ((grp n).map bU)) := by
 obtain ⟨i5, hi5, hz5, hs5, hb5⟩ := info_parts u8_info
 go_enter Try.func65, Try.ntmps65
 go_wp2_with (first
  | ((with_reducible refine g_at (d := 5) ?_); refine wpl_bin rfl rfl (by exact run_and32 _ _ _ n 127 _) ?_; try (conv in (Act.put _ _ _) => simp only [Act.put, List.setIfInBounds_toArray, List.set_cons_succ, List.set_cons_zero]))
  | ((with_reducible refine g_at (d := 6) ?_); refine wpl_conv rfl (by exact conv_wb Try.underlying89 Try.underlying5 _ _) ?_; try (conv in (Act.put _ _ _) => simp only [Act.put, List.setIfInBounds_toArray, List.set_cons_succ, List.set_cons_zero]))
  | ((with_reducible refine g_at (d := 7) ?_); refine wpl_buildSlice (vs := [bU (n &&& 127).toUInt8]) Try.underlying22 hi5 hz5 hs5 rfl (xs := [(.tmp 6)]) rfl rfl rfl (by intro u hu; simp at hu; subst hu; rfl) (by omega) ?_; intro v7 w7 h7 hx7 ha7; try (conv in (Act.put _ _ _) => simp only [Act.put, List.setIfInBounds_toArray, List.set_cons_succ, List.set_cons_zero]))
  | ((with_reducible refine g_at (d := 9) ?_); refine wpl_bin rfl rfl (by exact run_shr32 _ _ _ n .u64 7 (by decide) _) ?_; try (conv in (Act.put _ _ _) => simp only [Act.put, List.setIfInBounds_toArray, List.set_cons_succ, List.set_cons_zero]))
  | ((with_reducible refine g_at (d := 17) ?_); refine wpl_conv rfl (by exact conv_wb Try.underlying89 Try.underlying5 _ _) ?_; try (conv in (Act.put _ _ _) => simp only [Act.put, List.setIfInBounds_toArray, List.set_cons_succ, List.set_cons_zero])))
 generalize ha : (n &&& 127).toUInt8 = a at *
 generalize hm : n >>> UInt32.ofNat 7 = m0
 have hm0 : m0.toNat < 128 ^ 5 := by rw [← hm, shr7]; have := lt32 n; omega
 have hgrp : grp n = (a :: grpT 5 m0).reverse := by unfold grp; rw [ha, shr7', hm]
 have HG := Lib.hid hgrp
 clear hgrp hm ha
 go_loopw [0, 3] (fun nv o wr => ∃ (k : Nat) (m : UInt32) (xs : List UInt8), nv = w32 m ∧ k ≤ 5 ∧ m.toNat < 128 ^ k ∧ xs.length + k = 6 ∧ Own wr w.heap.size 5 o (xs.map bU) ∧ Ext w wr ∧ Hid (xs ++ grpT k m = a :: grpT 5 m0)) (fun nv _ _ => (RowKit.intOf nv).toNat)
 case atStart => exact ⟨5, m0, [a], rfl, Nat.le_refl _, hm0, rfl, h7, hx7, Lib.hid rfl⟩
 case round =>
  obtain ⟨k, m, xs, rfl, hk, hmk, hxl, ho, hx, hxs⟩ := hrel
  by_cases hz : m = 0
  ·have E11 : Hid (∀ t ex ey w, binRun Try.prog .gtr t ex ey (w32 m) (.int .u32 0) w = .ok (.bool false) w) := Lib.hid (fun t ex ey w => (run_gt32 t ex ey m 0 w).trans (by rw [hz]; rfl))
   have HZ := Lib.hid hz
   clear hz
   go_wp2_with (first
    | ((with_reducible refine g_at (d := 11) ?_); refine wpl_bin rfl rfl (by exact E11.out _ _ _ _) ?_; try (conv in (Act.put _ _ _) => simp only [Act.put, List.setIfInBounds_toArray, List.set_cons_succ, List.set_cons_zero]))
    | ((with_reducible refine g_at (d := 22) ?_); refine wpl_call Try.func81 (by kernel_rfl) (by kernel_rfl) rfl (rev_c _ _ _ xs ho (by intro h; rw [h] at hxl; simp at hxl; omega)) ?_; rintro v22 w22 ⟨h22, hg22⟩; try (conv in (Act.put _ _ _) => simp only [Act.put, List.setIfInBounds_toArray, List.set_cons_succ, List.set_cons_zero]))
    | ((with_reducible refine g_at (d := 6) ?_); refine wpl_conv rfl (by exact conv_wb Try.underlying89 Try.underlying5 _ _) ?_; try (conv in (Act.put _ _ _) => simp only [Act.put, List.setIfInBounds_toArray, List.set_cons_succ, List.set_cons_zero]))
    | ((with_reducible refine g_at (d := 17) ?_); refine wpl_conv rfl (by exact conv_wb Try.underlying89 Try.underlying5 _ _) ?_; try (conv in (Act.put _ _ _) => simp only [Act.put, List.setIfInBounds_toArray, List.set_cons_succ, List.set_cons_zero])))
   go_ret
   have hl : xs = a :: grpT 5 m0 := by
    have h := hxs.out
    rw [HZ.out] at h
    have h0 : grpT k 0 = [] := by cases k <;> rfl
    rwa [h0, List.append_nil] at h
   refine ⟨_, rfl, hx.grown hg22 hx.size (fun b hb => (ho.lt b hb).1), ?_⟩
   rw [HG.out, ← hl]; exact h22
  ·have E11 : Hid (∀ t ex ey w, binRun Try.prog .gtr t ex ey (w32 m) (.int .u32 0) w = .ok (.bool true) w) := Lib.hid (fun t ex ey w => (run_gt32 t ex ey m 0 w).trans (by
    rw [decide_eq_true (by
     rw [UInt32.lt_iff_toNat_lt]
     exact Nat.pos_of_ne_zero fun h => hz (UInt32.toNat_inj.1 h))]))
   have HZ := Lib.hid hz
   clear hz
   go_wp2_with (first
    | ((with_reducible refine g_at (d := 11) ?_); refine wpl_bin rfl rfl (by exact E11.out _ _ _ _) ?_; try (conv in (Act.put _ _ _) => simp only [Act.put, List.setIfInBounds_toArray, List.set_cons_succ, List.set_cons_zero]))
    | ((with_reducible refine g_at (d := 16) ?_); refine wpl_bin rfl rfl (by exact run_and32 _ _ _ m 127 _) ?_; try (conv in (Act.put _ _ _) => simp only [Act.put, List.setIfInBounds_toArray, List.set_cons_succ, List.set_cons_zero]))
    | ((with_reducible refine g_at (d := 17) ?_); refine wpl_conv rfl (by exact conv_wb Try.underlying89 Try.underlying5 _ _) ?_; try (conv in (Act.put _ _ _) => simp only [Act.put, List.setIfInBounds_toArray, List.set_cons_succ, List.set_cons_zero]))
    | ((with_reducible refine g_at (d := 18) ?_); refine wpl_bin rfl rfl (by exact run_or8 _ _ _ _ 128 _) ?_; try (conv in (Act.put _ _ _) => simp only [Act.put, List.setIfInBounds_toArray, List.set_cons_succ, List.set_cons_zero]))
    | ((with_reducible refine g_at (d := 19) ?_); refine wpl_buildSlice (vs := [bU ((m &&& 127).toUInt8 ||| 128)]) Try.underlying22 hi5 hz5 hs5 rfl (xs := [(.tmp 18)]) rfl rfl rfl (by intro u hu; simp at hu; subst hu; rfl) (by omega) ?_; intro v19 w19 h19 hx19 ha19; try (conv in (Act.put _ _ _) => simp only [Act.put, List.setIfInBounds_toArray, List.set_cons_succ, List.set_cons_zero]))
    | ((with_reducible refine g_at (d := 20) ?_); refine wpl_append (v := u3) rfl rfl Try.underlying22 hi5 hz5 hs5 hb5 rfl (ho.ext hx19) h19.sl (bU_one [_]) (by first | omega | (simp <;> omega)) (by omega) (Nat.le_trans hx.size hx19.size) ?_; intro v20 w20 h20 hg20 ha20 hx20; try (conv in (Act.put _ _ _) => simp only [Act.put, List.setIfInBounds_toArray, List.set_cons_succ, List.set_cons_zero]))
    | ((with_reducible refine g_at (d := 13) ?_); refine wpl_bin rfl rfl (by exact run_shr32 _ _ _ m .u64 7 (by decide) _) ?_; try (conv in (Act.put _ _ _) => simp only [Act.put, List.setIfInBounds_toArray, List.set_cons_succ, List.set_cons_zero]))
    | ((with_reducible refine g_at (d := 6) ?_); refine wpl_conv rfl (by exact conv_wb Try.underlying89 Try.underlying5 _ _) ?_; try (conv in (Act.put _ _ _) => simp only [Act.put, List.setIfInBounds_toArray, List.set_cons_succ, List.set_cons_zero])))
   go_roundw
   case rel =>
    have hm := HZ.out
    obtain ⟨k, rfl⟩ : ∃ k', k = k' + 1 := ⟨k - 1, by
     cases k with
     | zero => exact absurd (UInt32.toNat_inj.1 (show m.toNat = 0 by simpa using hmk)) hm
     | succ k => rfl⟩
    refine ⟨k, m >>> UInt32.ofNat 7, xs ++ [(m &&& 127).toUInt8 ||| 128], rfl, by omega, ?_, by rw [List.length_append, List.length_singleton]; omega, by rw [List.map_append]; exact h20, (hx.tr hx19).trans hx20, Lib.hid ?_⟩
    ·rw [shr7, Nat.div_lt_iff_lt_mul (by decide)]; rwa [Nat.pow_succ] at hmk
    ·have h := hxs.out
     rw [grpT, if_neg hm, shr7'] at h
     rw [List.append_assoc]; exact h
   case measure =>
    show (((m >>> UInt32.ofNat 7).toNat : Nat) : Int).toNat < ((m.toNat : Nat) : Int).toNat
    rw [shr7, Int.toNat_natCast, Int.toNat_natCast]
    have : m.toNat ≠ 0 := fun h => HZ.out (UInt32.toNat_inj.1 h)
    omega
def group_ct : Ct := fun args H => match args with
 | [.c (.s (.u32 x))] => some ([], .c (.wh H.length), [⟨.row, 5, 1, (grp x).length, .b (grp x)⟩])
 | _ => none
theorem group_h : FnOk Try.prog Tr 65 group_ct := by
 refine ⟨fun args H g av objs hF hg ρ w vals hG hp ha => ?_, _, Try.func65, by kernel_rfl, by kernel_rfl⟩
 unfold group_ct at hF
 split at hF
 ·rename_i x
  simp only [Option.some.injEq, Prod.mk.injEq] at hF
  obtain ⟨rfl, rfl, rfl⟩ := hF
  obtain ⟨v, vals, rfl, k, ha⟩ := F2.inv ha
  obtain rfl := F2.inv0 ha
  have e : v = w32 x := k
  rw [e]
  exact calls_mono (group_c w x) fun v w' ⟨hx, hv⟩ => ⟨hx, left_row hv (fun _ => csR_b.2 rfl) (by simp)⟩
 ·cases hF
end Go.Proofs.Ytliilihbnhdemaa
end
section
namespace Go.Proofs.Ytliilihbnhdemaa
open Go.RowKit Go.Ch Go.Sx
def tabL_pr : List (TypeId × Ti) := [(2, ⟨.int .i64, 1, 8, true, some [.int .i64]⟩),
 (3, ⟨.int .i64, 1, 8, true, some [.int .i64]⟩),
 (5, ⟨.int .u8, 1, 1, true, some [.int .u8]⟩),
 (9, ⟨.str, 1, 16, true, some [.str]⟩),
 (22, ⟨.sl 5, 1, 24, false, some [.nils]⟩),
 (28, ⟨.ifc, 1, 16, true, some [.ifc]⟩),
 (31, ⟨.int .i64, 1, 8, true, some [.int .i64]⟩),
 (34, ⟨.st [(3, 0), (3, 1), (3, 2), (3, 3), (3, 4), (3, 5)], 6, 48, true, some [.int .i64, .int .i64, .int .i64, .int .i64, .int .i64, .int .i64]⟩),
 (60, ⟨.sl 89, 1, 24, false, some [.nils]⟩),
 (76, ⟨.sl 3, 1, 24, false, some [.nils]⟩),
 (89, ⟨.int .u32, 1, 4, true, some [.int .u32]⟩),
 (91, ⟨.int .i8, 1, 1, true, some [.int .i8]⟩),
 (102, ⟨.int .u64, 1, 8, true, some [.int .u64]⟩)]
def tab_pr : Tab := fun t => (tabL_pr).lookup t
theorem tabE_pr : (tabL_pr.map fun p => tiOf Try.prog p.1) = tabL_pr.map fun p => some p.2 := by kernel_rfl
theorem tabO_pr : TabOk Try.prog tab_pr := tab_of tabE_pr
def pspare (n : Nat) (a0 : List UInt8) : Option (Bool) :=
 gd (0 ≤ (0 : Int)) <|
 gd ((0 : Int) < ((a0.length : Nat) : Int)) <|
 bif ((a0.getD 0 0) == 0) then
 gd (0 ≤ (1 : Int)) <|
 gd ((1 : Int) < ((a0.length : Nat) : Int)) <|
 bif (decide ((a0.getD 1 0) < (128 : UInt8))) then
 some true
 else
 gd (0 ≤ (0 : Int)) <|
 gd ((0 : Int) < ((a0.length : Nat) : Int)) <|
 bif ((a0.getD 0 0) == 255) then
 gd (0 ≤ (1 : Int)) <|
 gd ((1 : Int) < ((a0.length : Nat) : Int)) <|
 some (decide ((128 : UInt8) ≤ (a0.getD 1 0)))
 else
 some false
 else
 gd (0 ≤ (0 : Int)) <|
 gd ((0 : Int) < ((a0.length : Nat) : Int)) <|
 bif ((a0.getD 0 0) == 255) then
 gd (0 ≤ (1 : Int)) <|
 gd ((1 : Int) < ((a0.length : Nat) : Int)) <|
 some (decide ((128 : UInt8) ≤ (a0.getD 1 0)))
 else
 some false
def pReadInt_l1 (n : Nat) (a0 : List UInt8) : Nat → Int → Int → Option (Int × Option Int)
 | 0, _, _ => none
 | fu_l1 + 1, i4_2, i34_2 =>
 bif (decide (i34_2 < (((a0.length - 1) : Nat) : Int))) then
 gd (0 ≤ i34_2) <|
 gd (i34_2 < (((a0.length - 1) : Nat) : Int)) <|
 gd (0 ≤ (8 : Int)) <|
 gd ((8 : Int) ≤ (((IntKind.i64).bits : Nat) : Int)) <|
 gd (okI .i64 (i4_2 * 2 ^ 8)) <|
 gd (okI .i64 (i34_2 + 1)) <|
 (pReadInt_l1 n a0 fu_l1) (bitI .or .i64 (i4_2 * 2 ^ 8) (((((a0.drop 1).take (a0.length - 1)).getD i34_2.toNat 0).toNat : Nat) : Int)) (i34_2 + 1)
 else
 some (i4_2, none)
def pReadInt_l2 (n : Nat) (a0 : List UInt8) : Nat → Int → Int → Option (Int × Option Int)
 | 0, _, _ => none
 | fu_l2 + 1, i4_3, i34_3 =>
 bif (decide (i34_3 < (((a0.length - 1) : Nat) : Int))) then
 gd (0 ≤ i34_3) <|
 gd (i34_3 < (((a0.length - 1) : Nat) : Int)) <|
 gd (0 ≤ (8 : Int)) <|
 gd ((8 : Int) ≤ (((IntKind.i64).bits : Nat) : Int)) <|
 gd (okI .i64 (i4_3 * 2 ^ 8)) <|
 gd (okI .i64 (i34_3 + 1)) <|
 (pReadInt_l2 n a0 fu_l2) (bitI .or .i64 (i4_3 * 2 ^ 8) (((((a0.drop 1).take (a0.length - 1)).getD i34_3.toNat 0).toNat : Nat) : Int)) (i34_3 + 1)
 else
 some (i4_3, none)
def pReadInt (n : Nat) (a0 : List UInt8) : Option (Int × Option Int) :=
 bif (((a0.length : Nat) : Int) == 0) then
  some (0, (some 2))
 else
  bif (decide ((1 : Int) < ((a0.length : Nat) : Int))) then
   (pspare n a0).bind fun r17 =>
   bif r17 then
    some (0, (some 2))
   else
    bif (decide ((8 : Int) < ((a0.length : Nat) : Int))) then
     some (0, (some 4))
    else
     gd (0 ≤ (0 : Int)) <|
     gd ((0 : Int) < ((a0.length : Nat) : Int)) <|
     gd (okI .i64 (IntKind.i8.wrap (((a0.getD 0 0).toNat : Nat) : Int))) <|
     gd (0 ≤ (1 : Int)) <|
     gd ((1 : Int) ≤ ((a0.length : Nat) : Int)) <|
     pReadInt_l1 n a0 n (IntKind.i8.wrap (((a0.getD 0 0).toNat : Nat) : Int)) 0
  else
   bif (decide ((8 : Int) < ((a0.length : Nat) : Int))) then
    some (0, (some 4))
   else
    gd (0 ≤ (0 : Int)) <|
    gd ((0 : Int) < ((a0.length : Nat) : Int)) <|
    gd (okI .i64 (IntKind.i8.wrap (((a0.getD 0 0).toNat : Nat) : Int))) <|
    gd (0 ≤ (1 : Int)) <|
    gd ((1 : Int) ≤ ((a0.length : Nat) : Int)) <|
    pReadInt_l2 n a0 n (IntKind.i8.wrap (((a0.getD 0 0).toNat : Nat) : Int)) 0
def pident (n : Nat) (a0 : List UInt32) : Option (Bool) :=
 bif (decide (((a0.length : Nat) : Int) < (2 : Int))) then
 some false
 else
 bif (decide ((16 : Int) < ((a0.length : Nat) : Int))) then
 some false
 else
 gd (0 ≤ (0 : Int)) <|
 gd ((0 : Int) < ((a0.length : Nat) : Int)) <|
 bif (decide ((2 : UInt32) < (a0.getD 0 0))) then
 some false
 else
 gd (0 ≤ (0 : Int)) <|
 gd ((0 : Int) < ((a0.length : Nat) : Int)) <|
 bif (decide ((a0.getD 0 0) < (2 : UInt32))) then
 gd (0 ≤ (1 : Int)) <|
 gd ((1 : Int) < ((a0.length : Nat) : Int)) <|
 some (decide ((a0.getD 1 0) < (40 : UInt32)))
 else
 gd (0 ≤ (1 : Int)) <|
 gd ((1 : Int) < ((a0.length : Nat) : Int)) <|
 some (decide ((((a0.getD 1 0).toUInt64) + (80 : UInt64)) < (4294967296 : UInt64)))
def pOid_l1 (n : Nat) (a0 : List UInt32) : Nat → List UInt8 → Int → Option (List UInt8 × Option Int)
 | 0, _, _ => none
 | fu_l1 + 1, l4_1, i23_1 =>
 bif (decide (i23_1 < (((a0.length - 2) : Nat) : Int))) then
 gd (0 ≤ i23_1) <|
 gd (i23_1 < (((a0.length - 2) : Nat) : Int)) <|
 gd (rmB (l4_1.length + ((grp (((a0.drop 2).take (a0.length - 2)).getD i23_1.toNat 0)).length)) 1) <|
 gd (okI .i64 (i23_1 + 1)) <|
 (pOid_l1 n a0 fu_l1) (l4_1 ++ (grp (((a0.drop 2).take (a0.length - 2)).getD i23_1.toNat 0))) (i23_1 + 1)
 else
 some (l4_1, none)
def pOid (n : Nat) (a0 : List UInt32) : Option (List UInt8 × Option Int) :=
 (pident n a0).bind fun r8 =>
 bif (!r8) then
  some ([], (some 1))
 else
  gd (0 ≤ (0 : Int)) <|
  gd ((0 : Int) < ((a0.length : Nat) : Int)) <|
  gd (0 ≤ (1 : Int)) <|
  gd ((1 : Int) < ((a0.length : Nat) : Int)) <|
  gd (0 ≤ (2 : Int)) <|
  gd ((2 : Int) ≤ ((a0.length : Nat) : Int)) <|
  pOid_l1 n a0 n (grp (((40 : UInt32) * (a0.getD 0 0)) + (a0.getD 1 0))) 0
def pleap (n : Nat) (a0 : Int) : Option (Bool) :=
 gd ((4 : Int) ≠ 0) <|
 bif ((Int.tmod a0 4) == 0) then
 gd ((100 : Int) ≠ 0) <|
 bif ((Int.tmod a0 100) != 0) then
 some true
 else
 gd ((400 : Int) ≠ 0) <|
 some ((Int.tmod a0 400) == 0)
 else
 some false
def pdays_j1 (n : Nat) (a0 : Int) (a1 : Int) (p6_1 : Bool) : Option (Int) :=
 bif p6_1 then
  some 30
 else
  bif (a1 == 2) then
   (pleap n a0).bind fun r14 =>
   bif r14 then
    some 29
   else
    some 28
  else
   some 31
def pdays (n : Nat) (a0 : Int) (a1 : Int) : Option (Int) :=
 bif (a1 == 4) then
 pdays_j1 n a0 a1 (a1 == 4)
 else
 bif (a1 == 6) then
 pdays_j1 n a0 a1 (a1 == 6)
 else
 bif (a1 == 9) then
 pdays_j1 n a0 a1 (a1 == 9)
 else
 pdays_j1 n a0 a1 (a1 == 11)
def pvalid (n : Nat) (a0_0 : Int) (a0_1 : Int) (a0_2 : Int) (a0_3 : Int) (a0_4 : Int) (a0_5 : Int) : Option (Bool) :=
 bif (decide (a0_0 < (1 : Int))) then
  some false
 else
  bif (decide ((9999 : Int) < a0_0)) then
   some false
  else
   bif (decide (a0_1 < (1 : Int))) then
    some false
   else
    bif (decide ((12 : Int) < a0_1)) then
     some false
    else
     bif (decide (a0_2 < (1 : Int))) then
      some false
     else
      (pdays n a0_0 a0_1).bind fun r33 =>
      bif (decide (r33 < a0_2)) then
       some false
      else
       bif (decide ((0 : Int) ≤ a0_3)) then
        bif (decide (a0_3 ≤ (23 : Int))) then
         bif (decide ((0 : Int) ≤ a0_4)) then
          bif (decide (a0_4 ≤ (59 : Int))) then
           bif (decide ((0 : Int) ≤ a0_5)) then
            some (decide (a0_5 ≤ (59 : Int)))
           else
            some false
          else
           some false
         else
          some false
        else
         some false
       else
        some false
def pTime_l1 (n : Nat) (b5_1 : UInt8) (z6_1 : List Int) (m6_1 : Nat) : Nat → List UInt8 → Int → Option (UInt8 × List UInt8 × Option Int)
 | 0, _, _ => none
 | fu_l1 + 1, l7_1, i43_1 =>
 bif (decide (i43_1 < ((m6_1 : Nat) : Int))) then
 gd (0 ≤ i43_1) <|
 gd (i43_1 < ((m6_1 : Nat) : Int)) <|
 gd ((10 : Int) ≠ 0) <|
 gd (okI .i64 (Int.tdiv (z6_1.getD i43_1.toNat 0) 10)) <|
 gd (okI .i64 (48 + (Int.tdiv (z6_1.getD i43_1.toNat 0) 10))) <|
 gd ((10 : Int) ≠ 0) <|
 gd (okI .i64 (48 + (Int.tmod (z6_1.getD i43_1.toNat 0) 10))) <|
 gd (rmB (l7_1.length + 2) 1) <|
 gd (okI .i64 (i43_1 + 1)) <|
 (pTime_l1 n b5_1 z6_1 m6_1 fu_l1) (l7_1 ++ [(UInt8.ofInt (48 + (Int.tdiv (z6_1.getD i43_1.toNat 0) 10))), (UInt8.ofInt (48 + (Int.tmod (z6_1.getD i43_1.toNat 0) 10)))]) (i43_1 + 1)
 else
 gd (rmB (l7_1.length + 1) 1) <|
 some (b5_1, (l7_1 ++ [90]), none)
def pTime_j1 (n : Nat) (b5_1 : UInt8) (z6_1 : List Int) (m6_1 : Nat) : Option (UInt8 × List UInt8 × Option Int) :=
 pTime_l1 n b5_1 z6_1 m6_1 n [] 0
def pTime (n : Nat) (a0_0 : Int) (a0_1 : Int) (a0_2 : Int) (a0_3 : Int) (a0_4 : Int) (a0_5 : Int) : Option (UInt8 × List UInt8 × Option Int) :=
 (pvalid n a0_0 a0_1 a0_2 a0_3 a0_4 a0_5).bind fun r11 =>
 bif (!r11) then
  some (0, [], (some 1))
 else
  gd ((100 : Int) ≠ 0) <|
  gd (okI .i64 (Int.tdiv a0_0 100)) <|
  gd ((100 : Int) ≠ 0) <|
  bif (decide ((1950 : Int) ≤ a0_0)) then
   bif (decide (a0_0 < (2050 : Int))) then
    gd (0 ≤ (1 : Int)) <|
    gd ((1 : Int) ≤ (7 : Int)) <|
    pTime_j1 n 23 (([(Int.tdiv a0_0 100), (Int.tmod a0_0 100), a0_1, a0_2, a0_3, a0_4, a0_5].drop 1).take 6) 6
   else
    pTime_j1 n 24 [(Int.tdiv a0_0 100), (Int.tmod a0_0 100), a0_1, a0_2, a0_3, a0_4, a0_5] 7
  else
   pTime_j1 n 24 [(Int.tdiv a0_0 100), (Int.tmod a0_0 100), a0_1, a0_2, a0_3, a0_4, a0_5] 7
def pahead (n : Nat) (a0 : Int) : Option (Int) :=
 gd (okI .i64 (a0 - 1)) <|
 gd (okI .i64 (365 * (a0 - 1))) <|
 gd ((4 : Int) ≠ 0) <|
 gd (okI .i64 (Int.tdiv (a0 - 1) 4)) <|
 gd (okI .i64 ((365 * (a0 - 1)) + (Int.tdiv (a0 - 1) 4))) <|
 gd ((100 : Int) ≠ 0) <|
 gd (okI .i64 (Int.tdiv (a0 - 1) 100)) <|
 gd (okI .i64 (((365 * (a0 - 1)) + (Int.tdiv (a0 - 1) 4)) - (Int.tdiv (a0 - 1) 100))) <|
 gd ((400 : Int) ≠ 0) <|
 gd (okI .i64 (Int.tdiv (a0 - 1) 400)) <|
 gd (okI .i64 ((((365 * (a0 - 1)) + (Int.tdiv (a0 - 1) 4)) - (Int.tdiv (a0 - 1) 100)) + (Int.tdiv (a0 - 1) 400))) <|
 some ((((365 * (a0 - 1)) + (Int.tdiv (a0 - 1) 4)) - (Int.tdiv (a0 - 1) 100)) + (Int.tdiv (a0 - 1) 400))
def pCount_l1 (n : Nat) (a0_0 : Int) (a0_1 : Int) (a0_2 : Int) (a0_3 : Int) (a0_4 : Int) (a0_5 : Int) : Nat → Int → Int → Option (Int × Option Int)
 | 0, _, _ => none
 | fu_l1 + 1, i4_1, i5_1 =>
  bif (decide (i5_1 < a0_1)) then
   (pdays n a0_0 i5_1).bind fun r27_2 =>
   gd (okI .i64 (i4_1 + r27_2)) <|
   gd (okI .i64 (i5_1 + 1)) <|
   (pCount_l1 n a0_0 a0_1 a0_2 a0_3 a0_4 a0_5 fu_l1) (i4_1 + r27_2) (i5_1 + 1)
  else
   gd (okI .i64 (i4_1 * 86400)) <|
   gd (okI .i64 (a0_3 * 3600)) <|
   gd (okI .i64 (a0_4 * 60)) <|
   gd (okI .i64 ((a0_3 * 3600) + (a0_4 * 60))) <|
   gd (okI .i64 (((a0_3 * 3600) + (a0_4 * 60)) + a0_5)) <|
   gd (okI .i64 ((i4_1 * 86400) + (((a0_3 * 3600) + (a0_4 * 60)) + a0_5))) <|
   some (((i4_1 * 86400) + (((a0_3 * 3600) + (a0_4 * 60)) + a0_5)), none)
def pCount (n : Nat) (a0_0 : Int) (a0_1 : Int) (a0_2 : Int) (a0_3 : Int) (a0_4 : Int) (a0_5 : Int) : Option (Int × Option Int) :=
 (pvalid n a0_0 a0_1 a0_2 a0_3 a0_4 a0_5).bind fun r7 =>
 bif (!r7) then
  some (0, (some 1))
 else
  (pahead n a0_0).bind fun r12 =>
  gd (okI .i64 (a0_2 - 1)) <|
  gd (okI .i64 (r12 + (a0_2 - 1))) <|
  pCount_l1 n a0_0 a0_1 a0_2 a0_3 a0_4 a0_5 n (r12 + (a0_2 - 1)) 1
def pInt_j1 (n : Nat) (l3_6 : List UInt8) (m3_4 : Nat) : Option (List UInt8) :=
 gd ((l3_6).length ≤ 1000000000000) <|
 some l3_6
def pInt_l2 (n : Nat) : Nat → List UInt8 → Nat → Option (List UInt8)
 | 0, _, _ => none
 | fu_l2 + 1, l3_7, m3_5 =>
  bif (decide ((1 : Int) < ((m3_5 : Nat) : Int))) then
   (pspare n l3_7).bind fun r21_5 =>
   bif r21_5 then
    gd (0 ≤ (1 : Int)) <|
    gd ((1 : Int) ≤ ((m3_5 : Nat) : Int)) <|
    (pInt_l2 n fu_l2) ((l3_7.drop 1).take (m3_5 - 1)) (m3_5 - 1)
   else
    pInt_j1 n l3_7 m3_5
  else
   pInt_j1 n l3_7 m3_5
def pInt_l1 (n : Nat) (a0 : Int) : Nat → List UInt8 → Int → Option (List UInt8)
 | 0, _, _ => none
 | fu_l1 + 1, l3_4, i4_1 =>
 bif (decide ((0 : Int) ≤ i4_1)) then
 gd (0 ≤ i4_1) <|
 gd (i4_1 ≤ (((IntKind.i64).bits : Nat) : Int)) <|
 gd (rmB (l3_4.length + 1) 1) <|
 gd (okI .i64 (i4_1 - 8)) <|
 (pInt_l1 n a0 fu_l1) (l3_4 ++ [(UInt8.ofInt (a0 / 2 ^ i4_1.toNat))]) (i4_1 - 8)
 else
 pInt_l2 n n l3_4 l3_4.length
def pInt (n : Nat) (a0 : Int) : Option (List UInt8) :=
 pInt_l1 n a0 n [] 56
def pup (n : Nat) : Option (Bool) :=
 (pReadInt n [0, 127]).bind fun r12 =>
 (pOid n [1, 2, 840, 113549]).bind fun r17 =>
 (pTime n 2049 12 31 23 59 59).bind fun r22 =>
 (pCount n 1 1 1 0 0 1).bind fun r28 =>
 (pInt n (-129)).bind fun r31 =>
 bif (r31 == ([255, 127] : List UInt8)) then
  gd (¬((r12.2 : Option Int) = none ∧ ((some 2) : Option Int) = none)) <|
  bif (r12.2 == (some 2)) then
   bif ((r17.2).isNone) then
    bif (r17.1 == ([42, 134, 72, 134, 247, 13] : List UInt8)) then
     bif ((r22.2.2).isNone) then
      bif (r22.1 == 23) then
       bif (r22.2.1 == ([52, 57, 49, 50, 51, 49, 50, 51, 53, 57, 53, 57, 90] : List UInt8)) then
        bif ((r28.2).isNone) then
         some (r28.1 == 1)
        else
         some false
       else
        some false
      else
       some false
     else
      some false
    else
     some false
   else
    some false
  else
   some false
 else
  some false
def pspare_R (r : Bool) : S := ⟨[(2, kB r)], [], []⟩
def pspare_ct (n : Nat) (r : Bool) : Ct := ctc (rB 5).rd fun _ l0 => ct0 fun H => ([pspare n l0 = some r], shA H.length (kB r), shH H.length [])
theorem pspare_ok (n : Nat) (r : Bool) : FnOk Try.prog Tr 48 (pspare_ct n r) := by
 refine fnok Try.func48 ?_
 refine HO_c (rB 5) fun l0 _ => HO_0 tabO_pr (pspare_R r) [.tmp 2] [] 25 Try.func48 fun w hG h => ?_
 unfold pspare at h
 have hT := tabO_pr
 refine Vrs hT [0] ⟨[(0, kH 0)], [], [ob 5 l0]⟩ ?_
 refine W_seq ?_
 obtain ⟨g1, g2, h⟩ := gd2 h
 rcases Bool.eq_false_or_eq_true ((l0.getD 0 0) == 0) with g3 | g3
 ·replace h := bif_t h g3
  obtain ⟨g4, g5, h⟩ := gd2 h
  rcases Bool.eq_false_or_eq_true (decide ((l0.getD 1 0) < (128 : UInt8))) with g6 | g6
  ·replace h := bif_t h g6
   refine Vg hT fN [(4, true), (10, true)] [] [] ⟨[(2, kB true)], [], []⟩ (aP g1 (aP g2 (aP g3 (aP g4 (aP g5 (aP g6 aN)))))) ?_
   refine Vc [] [] (pspare_R true) (W_ret ?_)
   exact ⟨.inl rfl, by cases h; rfl⟩
  ·replace h := bif_f h g6
   obtain ⟨g7, g8, h⟩ := gd2 h
   rcases Bool.eq_false_or_eq_true ((l0.getD 0 0) == 255) with g9 | g9
   ·replace h := bif_t h g9
    obtain ⟨g10, g11, h⟩ := gd2 h
    refine Vg hT fN [(4, true), (10, false), (15, true)] [] [] ⟨[(2, kB (decide ((128 : UInt8) ≤ (l0.getD 1 0))))], [], []⟩ (aP g1 (aP g2 (aP g3 (aP g4 (aP g5 (aP g6 (aP g7 (aP g8 (aP g9 (aP g10 (aP g11 aN))))))))))) ?_
    refine Vc [] [] (pspare_R (decide ((128 : UInt8) ≤ (l0.getD 1 0)))) (W_ret ?_)
    exact ⟨.inl rfl, by cases h; rfl⟩
   ·replace h := bif_f h g9
    refine Vg hT fN [(4, true), (10, false), (15, false)] [] [] ⟨[(2, kB false)], [], []⟩ (aP g1 (aP g2 (aP g3 (aP g4 (aP g5 (aP g6 (aP g7 (aP g8 (aP g9 aN))))))))) ?_
    refine Vc [] [] (pspare_R false) (W_ret ?_)
    exact ⟨.inl rfl, by cases h; rfl⟩
 ·replace h := bif_f h g3
  obtain ⟨g12, g13, h⟩ := gd2 h
  rcases Bool.eq_false_or_eq_true ((l0.getD 0 0) == 255) with g14 | g14
  ·replace h := bif_t h g14
   obtain ⟨g15, g16, h⟩ := gd2 h
   refine Vg hT fN [(4, false), (15, true)] [] [] ⟨[(2, kB (decide ((128 : UInt8) ≤ (l0.getD 1 0))))], [], []⟩ (aP g1 (aP g2 (aP g3 (aP g12 (aP g13 (aP g14 (aP g15 (aP g16 aN)))))))) ?_
   refine Vc [] [] (pspare_R (decide ((128 : UInt8) ≤ (l0.getD 1 0)))) (W_ret ?_)
   exact ⟨.inl rfl, by cases h; rfl⟩
  ·replace h := bif_f h g14
   refine Vg hT fN [(4, false), (15, false)] [] [] ⟨[(2, kB false)], [], []⟩ (aP g1 (aP g2 (aP g3 (aP g12 (aP g13 (aP g14 aN)))))) ?_
   refine Vc [] [] (pspare_R false) (W_ret ?_)
   exact ⟨.inl rfl, by cases h; rfl⟩
def pReadInt_l1_E (a0 : List UInt8) (i4_2 : Int) (i34_2 : Int) : S := ⟨[(4, kI i4_2), (32, kH 0), (33, kI (((a0.length - 1) : Nat) : Int)), (34, kI i34_2)], [], [⟨(.ro false), 5, 1, (a0.length - 1), .b ((a0.drop 1).take (a0.length - 1))⟩]⟩
abbrev pReadInt_l1_P (n : Nat) (a0 : List UInt8) (r : Int × Option Int) (fu : Nat) : S → Prop := fun s => ∃ (i4_2 : Int), ∃ (i34_2 : Int), s = pReadInt_l1_E a0 i4_2 i34_2 ∧ pReadInt_l1 n a0 fu i4_2 i34_2 = some r
def pReadInt_l2_E (a0 : List UInt8) (i4_3 : Int) (i34_3 : Int) : S := ⟨[(4, kI i4_3), (32, kH 0), (33, kI (((a0.length - 1) : Nat) : Int)), (34, kI i34_3)], [], [⟨(.ro false), 5, 1, (a0.length - 1), .b ((a0.drop 1).take (a0.length - 1))⟩]⟩
abbrev pReadInt_l2_P (n : Nat) (a0 : List UInt8) (r : Int × Option Int) (fu : Nat) : S → Prop := fun s => ∃ (i4_3 : Int), ∃ (i34_3 : Int), s = pReadInt_l2_E a0 i4_3 i34_3 ∧ pReadInt_l2 n a0 fu i4_3 i34_3 = some r
def pReadInt_R (r : Int × Option Int) : S := ⟨[(2, kI r.1), (3, kE 31 r.2)], [], []⟩
def pReadInt_ct (n : Nat) (r : Int × Option Int) : Ct := ctc (rB 5).rd fun _ l0 => ct0 fun H => ([pReadInt n l0 = some r], shA H.length (.t [.c (.s (.k .i64 r.1)), .c (.s (.er 31 .i64 r.2))]), shH H.length [])
theorem pReadInt_ok (n : Nat) (r : Int × Option Int) : FnOk Try.prog Tr 18 (pReadInt_ct n r) := by
 refine fnok Try.func18 ?_
 refine HO_c (rB 5) fun l0 _ => HO_0 tabO_pr (pReadInt_R r) [.tmp 2, .tmp 3] [] 45 Try.func18 fun w hG h => ?_
 unfold pReadInt at h
 have hT := tabO_pr
 refine Vrs hT [0] ⟨[(0, kH 0)], [], [ob 5 l0]⟩ ?_
 refine W_seq ?_
 refine W_block ?_
 refine W_seq ?_
 rcases Bool.eq_false_or_eq_true (((l0.length : Nat) : Int) == 0) with g1 | g1
 ·replace h := bif_t h g1
  refine Vg hT fN [(3, true)] [] [0] ⟨[(0, kH 0), (7, kB true)], [], [ob 5 l0]⟩ (aP g1 aN) ?_
  refine Vi (true) (fun _ => ?_) (fun hb => by cases hb)
  refine Vrs hT [] ⟨[(2, kI 0), (3, kE 31 (some 2))], [], []⟩ ?_
  refine Vc [] [] (pReadInt_R (0, (some 2))) (W_ret ?_)
  exact ⟨.inl rfl, by cases h; rfl⟩
 ·replace h := bif_f h g1
  rcases Bool.eq_false_or_eq_true (decide ((1 : Int) < ((l0.length : Nat) : Int))) with g2 | g2
  ·replace h := bif_t h g2
   obtain ⟨r17, g3, h⟩ := bind_some' h
   refine Vg hT (fT 9 (pspare_ok n r17) fN) [(3, false), (7, true)] [] [0] ⟨[(0, kH 0), (7, kB r17)], [], [ob 5 l0]⟩ (aP g1 (aP g2 (aP g3 aN))) ?_
   refine Vi (r17) (fun g17 => ?_) (fun g17 => ?_)
   ·replace h := bif_t h g17
    refine Vrs hT [] ⟨[(2, kI 0), (3, kE 31 (some 2))], [], []⟩ ?_
    refine Vc [] [] (pReadInt_R (0, (some 2))) (W_ret ?_)
    exact ⟨.inl rfl, by cases h; rfl⟩
   ·replace h := bif_f h g17
    refine Vrs hT [0] ⟨[(0, kH 0), (21, kB (decide ((8 : Int) < ((l0.length : Nat) : Int))))], [], [ob 5 l0]⟩ ?_
    refine Vi ((decide ((8 : Int) < ((l0.length : Nat) : Int)))) (fun g16 => ?_) (fun g16 => ?_)
    ·replace h := bif_t h g16
     refine Vrs hT [] ⟨[(2, kI 0), (3, kE 31 (some 4))], [], []⟩ ?_
     refine Vc [] [] (pReadInt_R (0, (some 4))) (W_ret ?_)
     exact ⟨.inl rfl, by cases h; rfl⟩
    ·replace h := bif_f h g16
     refine W_skip ?_
     obtain ⟨g4, g5, g6, h⟩ := gd3 h
     refine Vgs hT fN [] [] [0] ⟨[(0, kH 0), (4, kI (IntKind.i8.wrap (((l0.getD 0 0).toNat : Nat) : Int)))], [], [ob 5 l0]⟩ (aP g4 (aP g5 (aP g6 aN))) ?_
     refine W_seq ?_
     obtain ⟨g7, g8, h⟩ := gd2 h
     refine Vgs hT fN [] [] [0] ⟨[(4, kI (IntKind.i8.wrap (((l0.getD 0 0).toNat : Nat) : Int))), (32, .c (.sl 0 1 (l0.length - 1))), (33, kI (((l0.length - 1) : Nat) : Int)), (34, kI 0)], [], [ob 5 l0]⟩ (aP g7 (aP g8 aN)) ?_
     refine W_block ?_
     refine Vc [.vw 32 false] [1] (pReadInt_l1_E l0 (IntKind.i8.wrap (((l0.getD 0 0).toNat : Nat) : Int)) 0) (W_lp ((pReadInt_l1_P n l0 r)) n ⟨_, _, rfl, h⟩ ?_)
     rintro fu_l1 _ ⟨i4_2, i34_2, rfl, h⟩
     cases fu_l1 with
     | zero => cases h
     | succ fu_l1 =>
      refine ⟨fu_l1, rfl, ?_⟩
      rw [pReadInt_l1] at h
      refine Vrs hT [0] ⟨[(4, kI i4_2), (32, kH 0), (33, kI (((l0.length - 1) : Nat) : Int)), (34, kI i34_2), (35, kB (decide (i34_2 < (((l0.length - 1) : Nat) : Int))))], [], [⟨(.ro false), 5, 1, (l0.length - 1), .b ((l0.drop 1).take (l0.length - 1))⟩]⟩ ?_
      refine W_seq ?_
      refine Vi ((decide (i34_2 < (((l0.length - 1) : Nat) : Int)))) (fun g15 => ?_) (fun g15 => ?_)
      ·replace h := bif_t h g15
       refine W_skip ?_
       refine W_seq ?_
       refine W_block ?_
       obtain ⟨g9, g10, h⟩ := gd2 h
       refine Vgs hT fN [] [] [0] ⟨[(4, kI i4_2), (6, kU (((l0.drop 1).take (l0.length - 1)).getD i34_2.toNat 0)), (32, kH 0), (33, kI (((l0.length - 1) : Nat) : Int)), (34, kI i34_2)], [], [⟨(.ro false), 5, 1, (l0.length - 1), .b ((l0.drop 1).take (l0.length - 1))⟩]⟩ (aP g9 (aP g10 aN)) ?_
       obtain ⟨g11, g12, g13, h⟩ := gd3 h
       refine Vg hT fN [] [] [0] ⟨[(4, kI (bitI .or .i64 (i4_2 * 2 ^ 8) (((((l0.drop 1).take (l0.length - 1)).getD i34_2.toNat 0).toNat : Nat) : Int))), (32, kH 0), (33, kI (((l0.length - 1) : Nat) : Int)), (34, kI i34_2)], [], [⟨(.ro false), 5, 1, (l0.length - 1), .b ((l0.drop 1).take (l0.length - 1))⟩]⟩ (aP g11 (aP g12 (aP g13 aN))) ?_
       obtain ⟨g14, h⟩ := gd_some h
       refine Vg hT fN [] [] [0] (pReadInt_l1_E l0 (bitI .or .i64 (i4_2 * 2 ^ 8) (((((l0.drop 1).take (l0.length - 1)).getD i34_2.toNat 0).toNat : Nat) : Int)) (i34_2 + 1)) (aP g14 aN) ?_
       exact ⟨_, _, rfl, h⟩
      ·replace h := bif_f h g15
       refine Vc [] [] ⟨[(4, kI i4_2)], [], []⟩ (W_exit ?_)
       refine Vrs hT [] ⟨[(2, kI i4_2), (3, .c (.s (.v .nilIface)))], [], []⟩ ?_
       refine Vc [.er 3 31 .i64] [] (pReadInt_R (i4_2, none)) (W_ret ?_)
       exact ⟨.inl rfl, by cases h; rfl⟩
  ·replace h := bif_f h g2
   refine Vg hT fN [(3, false), (7, false)] [] [0] ⟨[(0, kH 0), (7, kB false)], [], [ob 5 l0]⟩ (aP g1 (aP g2 aN)) ?_
   refine Vi (false) (fun hb => by cases hb) (fun _ => ?_)
   refine Vrs hT [0] ⟨[(0, kH 0), (21, kB (decide ((8 : Int) < ((l0.length : Nat) : Int))))], [], [ob 5 l0]⟩ ?_
   refine Vi ((decide ((8 : Int) < ((l0.length : Nat) : Int)))) (fun g30 => ?_) (fun g30 => ?_)
   ·replace h := bif_t h g30
    refine Vrs hT [] ⟨[(2, kI 0), (3, kE 31 (some 4))], [], []⟩ ?_
    refine Vc [] [] (pReadInt_R (0, (some 4))) (W_ret ?_)
    exact ⟨.inl rfl, by cases h; rfl⟩
   ·replace h := bif_f h g30
    refine W_skip ?_
    obtain ⟨g18, g19, g20, h⟩ := gd3 h
    refine Vgs hT fN [] [] [0] ⟨[(0, kH 0), (4, kI (IntKind.i8.wrap (((l0.getD 0 0).toNat : Nat) : Int)))], [], [ob 5 l0]⟩ (aP g18 (aP g19 (aP g20 aN))) ?_
    refine W_seq ?_
    obtain ⟨g21, g22, h⟩ := gd2 h
    refine Vgs hT fN [] [] [0] ⟨[(4, kI (IntKind.i8.wrap (((l0.getD 0 0).toNat : Nat) : Int))), (32, .c (.sl 0 1 (l0.length - 1))), (33, kI (((l0.length - 1) : Nat) : Int)), (34, kI 0)], [], [ob 5 l0]⟩ (aP g21 (aP g22 aN)) ?_
    refine W_block ?_
    refine Vc [.vw 32 false] [1] (pReadInt_l2_E l0 (IntKind.i8.wrap (((l0.getD 0 0).toNat : Nat) : Int)) 0) (W_lp ((pReadInt_l2_P n l0 r)) n ⟨_, _, rfl, h⟩ ?_)
    rintro fu_l2 _ ⟨i4_3, i34_3, rfl, h⟩
    cases fu_l2 with
    | zero => cases h
    | succ fu_l2 =>
     refine ⟨fu_l2, rfl, ?_⟩
     rw [pReadInt_l2] at h
     refine Vrs hT [0] ⟨[(4, kI i4_3), (32, kH 0), (33, kI (((l0.length - 1) : Nat) : Int)), (34, kI i34_3), (35, kB (decide (i34_3 < (((l0.length - 1) : Nat) : Int))))], [], [⟨(.ro false), 5, 1, (l0.length - 1), .b ((l0.drop 1).take (l0.length - 1))⟩]⟩ ?_
     refine W_seq ?_
     refine Vi ((decide (i34_3 < (((l0.length - 1) : Nat) : Int)))) (fun g29 => ?_) (fun g29 => ?_)
     ·replace h := bif_t h g29
      refine W_skip ?_
      refine W_seq ?_
      refine W_block ?_
      obtain ⟨g23, g24, h⟩ := gd2 h
      refine Vgs hT fN [] [] [0] ⟨[(4, kI i4_3), (6, kU (((l0.drop 1).take (l0.length - 1)).getD i34_3.toNat 0)), (32, kH 0), (33, kI (((l0.length - 1) : Nat) : Int)), (34, kI i34_3)], [], [⟨(.ro false), 5, 1, (l0.length - 1), .b ((l0.drop 1).take (l0.length - 1))⟩]⟩ (aP g23 (aP g24 aN)) ?_
      obtain ⟨g25, g26, g27, h⟩ := gd3 h
      refine Vg hT fN [] [] [0] ⟨[(4, kI (bitI .or .i64 (i4_3 * 2 ^ 8) (((((l0.drop 1).take (l0.length - 1)).getD i34_3.toNat 0).toNat : Nat) : Int))), (32, kH 0), (33, kI (((l0.length - 1) : Nat) : Int)), (34, kI i34_3)], [], [⟨(.ro false), 5, 1, (l0.length - 1), .b ((l0.drop 1).take (l0.length - 1))⟩]⟩ (aP g25 (aP g26 (aP g27 aN))) ?_
      obtain ⟨g28, h⟩ := gd_some h
      refine Vg hT fN [] [] [0] (pReadInt_l2_E l0 (bitI .or .i64 (i4_3 * 2 ^ 8) (((((l0.drop 1).take (l0.length - 1)).getD i34_3.toNat 0).toNat : Nat) : Int)) (i34_3 + 1)) (aP g28 aN) ?_
      exact ⟨_, _, rfl, h⟩
     ·replace h := bif_f h g29
      refine Vc [] [] ⟨[(4, kI i4_3)], [], []⟩ (W_exit ?_)
      refine Vrs hT [] ⟨[(2, kI i4_3), (3, .c (.s (.v .nilIface)))], [], []⟩ ?_
      refine Vc [.er 3 31 .i64] [] (pReadInt_R (i4_3, none)) (W_ret ?_)
      exact ⟨.inl rfl, by cases h; rfl⟩
def pident_R (r : Bool) : S := ⟨[(2, kB r)], [], []⟩
def pident_ct (n : Nat) (r : Bool) : Ct := ctc (rW 89).rd fun _ l0 => ct0 fun H => ([pident n l0 = some r], shA H.length (kB r), shH H.length [])
theorem pident_ok (n : Nat) (r : Bool) : FnOk Try.prog Tr 64 (pident_ct n r) := by
 refine fnok Try.func64 ?_
 refine HO_c (rW 89) fun l0 _ => HO_0 tabO_pr (pident_R r) [.tmp 2] [] 31 Try.func64 fun w hG h => ?_
 unfold pident at h
 have hT := tabO_pr
 refine Vrs hT [0] ⟨[(0, kH 0)], [], [ow 89 l0]⟩ ?_
 refine W_seq ?_
 refine W_seq ?_
 rcases Bool.eq_false_or_eq_true (decide (((l0.length : Nat) : Int) < (2 : Int))) with g1 | g1
 ·replace h := bif_t h g1
  refine Vg hT fN [(3, true)] [] [0] ⟨[(0, kH 0), (16, kB true)], [], [ow 89 l0]⟩ (aP g1 aN) ?_
  refine Vi (true) (fun _ => ?_) (fun hb => by cases hb)
  refine Vrs hT [] ⟨[(2, kB false)], [], []⟩ ?_
  refine Vc [] [] (pident_R false) (W_ret ?_)
  exact ⟨.inl rfl, by cases h; rfl⟩
 ·replace h := bif_f h g1
  rcases Bool.eq_false_or_eq_true (decide ((16 : Int) < ((l0.length : Nat) : Int))) with g2 | g2
  ·replace h := bif_t h g2
   refine Vg hT fN [(3, false), (8, true)] [] [0] ⟨[(0, kH 0), (16, kB true)], [], [ow 89 l0]⟩ (aP g1 (aP g2 aN)) ?_
   refine Vi (true) (fun _ => ?_) (fun hb => by cases hb)
   refine Vrs hT [] ⟨[(2, kB false)], [], []⟩ ?_
   refine Vc [] [] (pident_R false) (W_ret ?_)
   exact ⟨.inl rfl, by cases h; rfl⟩
  ·replace h := bif_f h g2
   obtain ⟨g3, g4, h⟩ := gd2 h
   refine Vg hT fN [(3, false), (8, false)] [] [0] ⟨[(0, kH 0), (16, kB (decide ((2 : UInt32) < (l0.getD 0 0))))], [], [ow 89 l0]⟩ (aP g1 (aP g2 (aP g3 (aP g4 aN)))) ?_
   refine Vi ((decide ((2 : UInt32) < (l0.getD 0 0)))) (fun g12 => ?_) (fun g12 => ?_)
   ·replace h := bif_t h g12
    refine Vrs hT [] ⟨[(2, kB false)], [], []⟩ ?_
    refine Vc [] [] (pident_R false) (W_ret ?_)
    exact ⟨.inl rfl, by cases h; rfl⟩
   ·replace h := bif_f h g12
    refine W_skip ?_
    refine W_seq ?_
    obtain ⟨g5, g6, h⟩ := gd2 h
    refine Vgs hT fN [] [] [0] ⟨[(0, kH 0), (20, kB (decide ((l0.getD 0 0) < (2 : UInt32))))], [], [ow 89 l0]⟩ (aP g5 (aP g6 aN)) ?_
    refine Vi ((decide ((l0.getD 0 0) < (2 : UInt32)))) (fun g11 => ?_) (fun g11 => ?_)
    ·replace h := bif_t h g11
     obtain ⟨g7, g8, h⟩ := gd2 h
     refine Vgs hT fN [] [] [] ⟨[(2, kB (decide ((l0.getD 1 0) < (40 : UInt32))))], [], []⟩ (aP g7 (aP g8 aN)) ?_
     refine Vc [] [] (pident_R (decide ((l0.getD 1 0) < (40 : UInt32)))) (W_ret ?_)
     exact ⟨.inl rfl, by cases h; rfl⟩
    ·replace h := bif_f h g11
     refine W_skip ?_
     obtain ⟨g9, g10, h⟩ := gd2 h
     refine Vgs hT fN [] [] [] ⟨[(2, kB (decide ((((l0.getD 1 0).toUInt64) + (80 : UInt64)) < (4294967296 : UInt64))))], [], []⟩ (aP g9 (aP g10 aN)) ?_
     refine Vc [] [] (pident_R (decide ((((l0.getD 1 0).toUInt64) + (80 : UInt64)) < (4294967296 : UInt64)))) (W_ret ?_)
     exact ⟨.inl rfl, by cases h; rfl⟩
def pOid_l1_E (a0 : List UInt32) (l4_1 : List UInt8) (i23_1 : Int) : S := ⟨[(4, kH 0), (21, kH 1), (22, kI (((a0.length - 2) : Nat) : Int)), (23, kI i23_1)], [], [nb 5 l4_1, ⟨(.ro false), 89, 1, (a0.length - 2), .w ((a0.drop 2).take (a0.length - 2))⟩]⟩
abbrev pOid_l1_P (n : Nat) (a0 : List UInt32) (r : List UInt8 × Option Int) (fu : Nat) : S → Prop := fun s => ∃ (l4_1 : List UInt8), ∃ (i23_1 : Int), s = pOid_l1_E a0 l4_1 i23_1 ∧ pOid_l1 n a0 fu l4_1 i23_1 = some r
def pOid_R (r : List UInt8 × Option Int) : S := ⟨[(2, kH 0), (3, kE 31 r.2)], [], [nb 5 r.1]⟩
def pOid_ct (n : Nat) (r : List UInt8 × Option Int) : Ct := ctc (rW 89).rd fun _ l0 => ct0 fun H => ([pOid n l0 = some r], shA H.length (.t [.c (.wh 0), .c (.s (.er 31 .i64 r.2))]), shH H.length [nb 5 r.1])
theorem pOid_ok (n : Nat) (r : List UInt8 × Option Int) : FnOk Try.prog Tr 32 (pOid_ct n r) := by
 refine fnok Try.func32 ?_
 refine HO_c (rW 89) fun l0 _ => HO_0 tabO_pr (pOid_R r) [.tmp 2, .tmp 3] [0] 33 Try.func32 fun w hG h => ?_
 unfold pOid at h
 have hT := tabO_pr
 refine Vrs hT [0] ⟨[(0, kH 0)], [], [ow 89 l0]⟩ ?_
 refine W_seq ?_
 obtain ⟨r8, g1, h⟩ := bind_some' h
 refine Vgs hT (fT 1 (pident_ok n r8) fN) [] [] [0] ⟨[(0, kH 0), (9, kB (!r8))], [], [ow 89 l0]⟩ (aP g1 aN) ?_
 refine Vi ((!r8)) (fun g13 => ?_) (fun g13 => ?_)
 ·replace h := bif_t h g13
  refine Vrs hT [] ⟨[(2, .c (.nils)), (3, kE 31 (some 1))], [], []⟩ ?_
  refine Vc [.nil 2 5 1 (.b [])] [0] (pOid_R ([], (some 1))) (W_ret ?_)
  exact ⟨.inl rfl, by cases h; rfl⟩
 ·replace h := bif_f h g13
  refine W_skip ?_
  obtain ⟨g2, g3, g4, g5, h⟩ := gd4 h
  refine Vds hT (fT 8 group_h fN) 7 [] [(0, false), (14, false), (17, false)] [] [0, 1] ⟨[(0, kH 0), (4, kH 1)], [], [ow 89 l0, nb 5 (grp (((40 : UInt32) * (l0.getD 0 0)) + (l0.getD 1 0)))]⟩ (aP g2 (aP g3 (aP g4 (aP g5 aN)))) ?_
  refine W_seq ?_
  obtain ⟨g6, g7, h⟩ := gd2 h
  refine Vgs hT fN [] [] [1, 0] ⟨[(4, kH 0), (21, .c (.sl 1 2 (l0.length - 2))), (22, kI (((l0.length - 2) : Nat) : Int)), (23, kI 0)], [], [nb 5 (grp (((40 : UInt32) * (l0.getD 0 0)) + (l0.getD 1 0))), ow 89 l0]⟩ (aP g6 (aP g7 aN)) ?_
  refine W_block ?_
  refine Vc [.vw 21 false] [0, 2] (pOid_l1_E l0 (grp (((40 : UInt32) * (l0.getD 0 0)) + (l0.getD 1 0))) 0) (W_lp ((pOid_l1_P n l0 r)) n ⟨_, _, rfl, h⟩ ?_)
  rintro fu_l1 _ ⟨l4_1, i23_1, rfl, h⟩
  cases fu_l1 with
  | zero => cases h
  | succ fu_l1 =>
   refine ⟨fu_l1, rfl, ?_⟩
   rw [pOid_l1] at h
   refine Vrs hT [0, 1] ⟨[(4, kH 0), (21, kH 1), (22, kI (((l0.length - 2) : Nat) : Int)), (23, kI i23_1), (24, kB (decide (i23_1 < (((l0.length - 2) : Nat) : Int))))], [], [nb 5 l4_1, ⟨(.ro false), 89, 1, (l0.length - 2), .w ((l0.drop 2).take (l0.length - 2))⟩]⟩ ?_
   refine W_seq ?_
   refine Vi ((decide (i23_1 < (((l0.length - 2) : Nat) : Int)))) (fun g12 => ?_) (fun g12 => ?_)
   ·replace h := bif_t h g12
    refine W_skip ?_
    refine W_seq ?_
    refine W_block ?_
    obtain ⟨g8, g9, h⟩ := gd2 h
    refine Vgs hT fN [] [] [0, 1] ⟨[(4, kH 0), (6, kX (((l0.drop 2).take (l0.length - 2)).getD i23_1.toNat 0)), (21, kH 1), (22, kI (((l0.length - 2) : Nat) : Int)), (23, kI i23_1)], [], [nb 5 l4_1, ⟨(.ro false), 89, 1, (l0.length - 2), .w ((l0.drop 2).take (l0.length - 2))⟩]⟩ (aP g8 (aP g9 aN)) ?_
    obtain ⟨g10, h⟩ := gd_some h
    refine Vg hT (fT 2 group_h fN) [] [] [3, 1] ⟨[(4, kH 0), (21, kH 1), (22, kI (((l0.length - 2) : Nat) : Int)), (23, kI i23_1)], [], [nb 5 (l4_1 ++ (grp (((l0.drop 2).take (l0.length - 2)).getD i23_1.toNat 0))), ⟨(.ro false), 89, 1, (l0.length - 2), .w ((l0.drop 2).take (l0.length - 2))⟩]⟩ (aP g10 aN) ?_
    obtain ⟨g11, h⟩ := gd_some h
    refine Vg hT fN [] [] [0, 1] (pOid_l1_E l0 (l4_1 ++ (grp (((l0.drop 2).take (l0.length - 2)).getD i23_1.toNat 0))) (i23_1 + 1)) (aP g11 aN) ?_
    exact ⟨_, _, rfl, h⟩
   ·replace h := bif_f h g12
    refine Vc [] [0] ⟨[(4, kH 0)], [], [nb 5 l4_1]⟩ (W_exit ?_)
    refine Vrs hT [0] ⟨[(2, kH 0), (3, .c (.s (.v .nilIface)))], [], [nb 5 l4_1]⟩ ?_
    refine Vc [.er 3 31 .i64] [0] (pOid_R (l4_1, none)) (W_ret ?_)
    exact ⟨.inl rfl, by cases h; rfl⟩
def pleap_R (r : Bool) : S := ⟨[(2, kB r)], [], []⟩
def pleap_ct (n : Nat) (r : Bool) : Ct := ctc rI.rd fun _ l0 => ct0 fun H => ([pleap n l0 = some r], shA H.length (kB r), shH H.length [])
theorem pleap_ok (n : Nat) (r : Bool) : FnOk Try.prog Tr 76 (pleap_ct n r) := by
 refine fnok Try.func76 ?_
 refine HO_c rI fun l0 _ => HO_0 tabO_pr (pleap_R r) [.tmp 2] [] 16 Try.func76 fun w hG h => ?_
 unfold pleap at h
 have hT := tabO_pr
 refine Vrs hT [] ⟨[(0, kI l0)], [], []⟩ ?_
 refine W_seq ?_
 obtain ⟨g1, h⟩ := gd_some h
 rcases Bool.eq_false_or_eq_true ((Int.tmod l0 4) == 0) with g2 | g2
 ·replace h := bif_t h g2
  obtain ⟨g3, h⟩ := gd_some h
  rcases Bool.eq_false_or_eq_true ((Int.tmod l0 100) != 0) with g4 | g4
  ·replace h := bif_t h g4
   refine Vg hT fN [(3, true), (7, true)] [] [] ⟨[(2, kB true)], [], []⟩ (aP g1 (aP g2 (aP g3 (aP g4 aN)))) ?_
   refine Vc [] [] (pleap_R true) (W_ret ?_)
   exact ⟨.inl rfl, by cases h; rfl⟩
  ·replace h := bif_f h g4
   obtain ⟨g5, h⟩ := gd_some h
   refine Vg hT fN [(3, true), (7, false)] [] [] ⟨[(2, kB ((Int.tmod l0 400) == 0))], [], []⟩ (aP g1 (aP g2 (aP g3 (aP g4 (aP g5 aN))))) ?_
   refine Vc [] [] (pleap_R ((Int.tmod l0 400) == 0)) (W_ret ?_)
   exact ⟨.inl rfl, by cases h; rfl⟩
 ·replace h := bif_f h g2
  refine Vg hT fN [(3, false)] [] [] ⟨[(2, kB false)], [], []⟩ (aP g1 (aP g2 aN)) ?_
  refine Vc [] [] (pleap_R false) (W_ret ?_)
  exact ⟨.inl rfl, by cases h; rfl⟩
def pdays_j1_E (a0 : Int) (a1 : Int) (p6_1 : Bool) : S := ⟨[(0, kI a0), (5, kI a1), (6, kB p6_1)], [], []⟩
abbrev pdays_j1_P (n : Nat) (a0 : Int) (a1 : Int) (r : Int) : S → Prop := fun s => ∃ (p6_1 : Bool), s = pdays_j1_E a0 a1 p6_1 ∧ pdays_j1 n a0 a1 p6_1 = some r
def pdays_R (r : Int) : S := ⟨[(4, kI r)], [], []⟩
def pdays_ct (n : Nat) (r : Int) : Ct := ctc rI.rd fun _ l0 => ctc rI.rd fun _ l1 => ct0 fun H => ([pdays n l0 l1 = some r], shA H.length (kI r), shH H.length [])
theorem pdays_ok (n : Nat) (r : Int) : FnOk Try.prog Tr 52 (pdays_ct n r) := by
 refine fnok Try.func52 ?_
 refine HO_c rI fun l0 _ => HO_c rI fun l1 _ => HO_0 tabO_pr (pdays_R r) [.tmp 4] [] 15 Try.func52 fun w hG h => ?_
 unfold pdays at h
 have hT := tabO_pr
 refine Vrs hT [] ⟨[(0, kI l0), (1, kI l1)], [], []⟩ ?_
 refine W_seq ?_
 refine Vrs hT [] ⟨[(0, kI l0), (5, kI l1)], [], []⟩ ?_
 refine W_block ?_
 refine W_join (pdays_j1_P n l0 l1 r) ?_ ?_
 ·rintro _ ⟨p6_1, rfl, h⟩
  unfold pdays_j1 at h
  refine Vi (p6_1) (fun g4 => ?_) (fun g4 => ?_)
  ·replace h := bif_t h g4
   refine Vrs hT [] ⟨[(4, kI 30)], [], []⟩ ?_
   refine Vc [] [] (pdays_R 30) (W_ret ?_)
   exact ⟨.inl rfl, by cases h; rfl⟩
  ·replace h := bif_f h g4
   refine Vrs hT [] ⟨[(0, kI l0), (11, kB (l1 == 2))], [], []⟩ ?_
   refine Vi ((l1 == 2)) (fun g3 => ?_) (fun g3 => ?_)
   ·replace h := bif_t h g3
    refine W_seq ?_
    obtain ⟨r14, g1, h⟩ := bind_some' h
    refine Vgs hT (fT 1 (pleap_ok n r14) fN) [] [] [] ⟨[(14, kB r14)], [], []⟩ (aP g1 aN) ?_
    refine Vi (r14) (fun g2 => ?_) (fun g2 => ?_)
    ·replace h := bif_t h g2
     refine Vrs hT [] ⟨[(4, kI 29)], [], []⟩ ?_
     refine Vc [] [] (pdays_R 29) (W_ret ?_)
     exact ⟨.inl rfl, by cases h; rfl⟩
    ·replace h := bif_f h g2
     refine W_skip ?_
     refine Vrs hT [] ⟨[(4, kI 28)], [], []⟩ ?_
     refine Vc [] [] (pdays_R 28) (W_ret ?_)
     exact ⟨.inl rfl, by cases h; rfl⟩
   ·replace h := bif_f h g3
    refine W_skip ?_
    refine Vrs hT [] ⟨[(4, kI 31)], [], []⟩ ?_
    refine Vc [] [] (pdays_R 31) (W_ret ?_)
    exact ⟨.inl rfl, by cases h; rfl⟩
 ·refine W_seq ?_
  refine Vr hT [] ⟨[(0, kI l0), (5, kI l1), (6, kB (l1 == 4))], [], []⟩ ?_
  refine Vi ((l1 == 4)) (fun g7 => ?_) (fun g7 => ?_)
  ·replace h := bif_t h g7
   refine Vc [] [] (pdays_j1_E l0 l1 (l1 == 4)) (W_skip ?_)
   exact ⟨_, rfl, h⟩
  ·replace h := bif_f h g7
   refine Vrs hT [] ⟨[(0, kI l0), (5, kI l1), (6, kB (l1 == 6))], [], []⟩ ?_
   refine Vi ((l1 == 6)) (fun g6 => ?_) (fun g6 => ?_)
   ·replace h := bif_t h g6
    refine Vc [] [] (pdays_j1_E l0 l1 (l1 == 6)) (W_skip ?_)
    exact ⟨_, rfl, h⟩
   ·replace h := bif_f h g6
    refine Vrs hT [] ⟨[(0, kI l0), (5, kI l1), (6, kB (l1 == 9))], [], []⟩ ?_
    refine Vi ((l1 == 9)) (fun g5 => ?_) (fun g5 => ?_)
    ·replace h := bif_t h g5
     refine Vc [] [] (pdays_j1_E l0 l1 (l1 == 9)) (W_skip ?_)
     exact ⟨_, rfl, h⟩
    ·replace h := bif_f h g5
     refine Vr hT [] (pdays_j1_E l0 l1 (l1 == 11)) ?_
     exact ⟨_, rfl, h⟩
def pvalid_R (r : Bool) : S := ⟨[(2, kB r)], [], []⟩
def pvalid_ct (n : Nat) (r : Bool) : Ct := ctc (rSt (lC cI (lC cI (lC cI (lC cI (lC cI (lC cI lN))))))).rd fun _ y0 => ct0 fun H => ([pvalid n y0.1 y0.2.1 y0.2.2.1 y0.2.2.2.1 y0.2.2.2.2.1 y0.2.2.2.2.2.1 = some r], shA H.length (kB r), shH H.length [])
theorem pvalid_ok (n : Nat) (r : Bool) : FnOk Try.prog Tr 50 (pvalid_ct n r) := by
 refine fnok Try.func50 ?_
 refine HO_c (rSt (lC cI (lC cI (lC cI (lC cI (lC cI (lC cI lN))))))) fun p0 _ => ?_
 obtain ⟨l0_0, l0_1, l0_2, l0_3, l0_4, l0_5, _⟩ := p0
 refine HO_0 tabO_pr (pvalid_R r) [.tmp 2] [] 64 Try.func50 fun w hG h => ?_
 have h : pvalid n l0_0 l0_1 l0_2 l0_3 l0_4 l0_5 = some r := h
 unfold pvalid at h
 have hT := tabO_pr
 refine Vrs hT [0] ⟨[(1, kP 0 0)], [], [⟨.blk, 34, 1, 6, .c [.s (.k .i64 l0_0), .s (.k .i64 l0_1), .s (.k .i64 l0_2), .s (.k .i64 l0_3), .s (.k .i64 l0_4), .s (.k .i64 l0_5)]⟩]⟩ ?_
 refine W_seq ?_
 refine W_seq ?_
 rcases Bool.eq_false_or_eq_true (decide (l0_0 < (1 : Int))) with g1 | g1
 ·replace h := bif_t h g1
  refine Vd hT fN 31 [(3, true)] [(1, false), (26, false), (28, false), (33, false)] [] [0] ⟨[(1, kP 0 0), (35, kB true)], [], [⟨.blk, 34, 1, 6, .c [.s (.k .i64 l0_0), .s (.k .i64 l0_1), .s (.k .i64 l0_2), .s (.k .i64 l0_3), .s (.k .i64 l0_4), .s (.k .i64 l0_5)]⟩]⟩ (aP g1 aN) ?_
  refine Vi (true) (fun _ => ?_) (fun hb => by cases hb)
  refine Vrs hT [] ⟨[(2, kB false)], [], []⟩ ?_
  refine Vc [] [] (pvalid_R false) (W_ret ?_)
  exact ⟨.inl rfl, by cases h; rfl⟩
 ·replace h := bif_f h g1
  rcases Bool.eq_false_or_eq_true (decide ((9999 : Int) < l0_0)) with g2 | g2
  ·replace h := bif_t h g2
   refine Vd hT fN 31 [(3, false), (8, true)] [(1, false), (26, false), (28, false), (33, false)] [] [0] ⟨[(1, kP 0 0), (35, kB true)], [], [⟨.blk, 34, 1, 6, .c [.s (.k .i64 l0_0), .s (.k .i64 l0_1), .s (.k .i64 l0_2), .s (.k .i64 l0_3), .s (.k .i64 l0_4), .s (.k .i64 l0_5)]⟩]⟩ (aP g1 (aP g2 aN)) ?_
   refine Vi (true) (fun _ => ?_) (fun hb => by cases hb)
   refine Vrs hT [] ⟨[(2, kB false)], [], []⟩ ?_
   refine Vc [] [] (pvalid_R false) (W_ret ?_)
   exact ⟨.inl rfl, by cases h; rfl⟩
  ·replace h := bif_f h g2
   rcases Bool.eq_false_or_eq_true (decide (l0_1 < (1 : Int))) with g3 | g3
   ·replace h := bif_t h g3
    refine Vd hT fN 31 [(3, false), (8, false), (13, true)] [(1, false), (26, false), (28, false), (33, false)] [] [0] ⟨[(1, kP 0 0), (35, kB true)], [], [⟨.blk, 34, 1, 6, .c [.s (.k .i64 l0_0), .s (.k .i64 l0_1), .s (.k .i64 l0_2), .s (.k .i64 l0_3), .s (.k .i64 l0_4), .s (.k .i64 l0_5)]⟩]⟩ (aP g1 (aP g2 (aP g3 aN))) ?_
    refine Vi (true) (fun _ => ?_) (fun hb => by cases hb)
    refine Vrs hT [] ⟨[(2, kB false)], [], []⟩ ?_
    refine Vc [] [] (pvalid_R false) (W_ret ?_)
    exact ⟨.inl rfl, by cases h; rfl⟩
   ·replace h := bif_f h g3
    rcases Bool.eq_false_or_eq_true (decide ((12 : Int) < l0_1)) with g4 | g4
    ·replace h := bif_t h g4
     refine Vd hT fN 31 [(3, false), (8, false), (13, false), (18, true)] [(1, false), (26, false), (28, false), (33, false)] [] [0] ⟨[(1, kP 0 0), (35, kB true)], [], [⟨.blk, 34, 1, 6, .c [.s (.k .i64 l0_0), .s (.k .i64 l0_1), .s (.k .i64 l0_2), .s (.k .i64 l0_3), .s (.k .i64 l0_4), .s (.k .i64 l0_5)]⟩]⟩ (aP g1 (aP g2 (aP g3 (aP g4 aN)))) ?_
     refine Vi (true) (fun _ => ?_) (fun hb => by cases hb)
     refine Vrs hT [] ⟨[(2, kB false)], [], []⟩ ?_
     refine Vc [] [] (pvalid_R false) (W_ret ?_)
     exact ⟨.inl rfl, by cases h; rfl⟩
    ·replace h := bif_f h g4
     rcases Bool.eq_false_or_eq_true (decide (l0_2 < (1 : Int))) with g5 | g5
     ·replace h := bif_t h g5
      refine Vd hT fN 31 [(3, false), (8, false), (13, false), (18, false), (23, true)] [(1, false), (26, false), (28, false), (33, false)] [] [0] ⟨[(1, kP 0 0), (35, kB true)], [], [⟨.blk, 34, 1, 6, .c [.s (.k .i64 l0_0), .s (.k .i64 l0_1), .s (.k .i64 l0_2), .s (.k .i64 l0_3), .s (.k .i64 l0_4), .s (.k .i64 l0_5)]⟩]⟩ (aP g1 (aP g2 (aP g3 (aP g4 (aP g5 aN))))) ?_
      refine Vi (true) (fun _ => ?_) (fun hb => by cases hb)
      refine Vrs hT [] ⟨[(2, kB false)], [], []⟩ ?_
      refine Vc [] [] (pvalid_R false) (W_ret ?_)
      exact ⟨.inl rfl, by cases h; rfl⟩
     ·replace h := bif_f h g5
      obtain ⟨r33, g6, h⟩ := bind_some' h
      refine Vd hT (fT 30 (pdays_ok n r33) fN) 31 [(3, false), (8, false), (13, false), (18, false), (23, false)] [(1, false), (26, false), (28, false), (33, false)] [] [0] ⟨[(1, kP 0 0), (35, kB (decide (r33 < l0_2)))], [], [⟨.blk, 34, 1, 6, .c [.s (.k .i64 l0_0), .s (.k .i64 l0_1), .s (.k .i64 l0_2), .s (.k .i64 l0_3), .s (.k .i64 l0_4), .s (.k .i64 l0_5)]⟩]⟩ (aP g1 (aP g2 (aP g3 (aP g4 (aP g5 (aP g6 aN)))))) ?_
      refine Vi ((decide (r33 < l0_2))) (fun g12 => ?_) (fun g12 => ?_)
      ·replace h := bif_t h g12
       refine Vrs hT [] ⟨[(2, kB false)], [], []⟩ ?_
       refine Vc [] [] (pvalid_R false) (W_ret ?_)
       exact ⟨.inl rfl, by cases h; rfl⟩
      ·replace h := bif_f h g12
       refine Vc [] [0] ⟨[(1, kP 0 0)], [], [⟨.blk, 34, 1, 6, .c [.s (.k .i64 l0_0), .s (.k .i64 l0_1), .s (.k .i64 l0_2), .s (.k .i64 l0_3), .s (.k .i64 l0_4), .s (.k .i64 l0_5)]⟩]⟩ (W_skip ?_)
       refine W_seq ?_
       rcases Bool.eq_false_or_eq_true (decide ((0 : Int) ≤ l0_3)) with g7 | g7
       ·replace h := bif_t h g7
        rcases Bool.eq_false_or_eq_true (decide (l0_3 ≤ (23 : Int))) with g8 | g8
        ·replace h := bif_t h g8
         rcases Bool.eq_false_or_eq_true (decide ((0 : Int) ≤ l0_4)) with g9 | g9
         ·replace h := bif_t h g9
          rcases Bool.eq_false_or_eq_true (decide (l0_4 ≤ (59 : Int))) with g10 | g10
          ·replace h := bif_t h g10
           rcases Bool.eq_false_or_eq_true (decide ((0 : Int) ≤ l0_5)) with g11 | g11
           ·replace h := bif_t h g11
            refine Vg hT fN [(3, true), (8, true), (13, true), (18, true), (23, true)] [] [] ⟨[(2, kB (decide (l0_5 ≤ (59 : Int))))], [], []⟩ (aP g7 (aP g8 (aP g9 (aP g10 (aP g11 aN))))) ?_
            refine Vc [] [] (pvalid_R (decide (l0_5 ≤ (59 : Int)))) (W_ret ?_)
            exact ⟨.inl rfl, by cases h; rfl⟩
           ·replace h := bif_f h g11
            refine Vg hT fN [(3, true), (8, true), (13, true), (18, true), (23, false)] [] [] ⟨[(2, kB false)], [], []⟩ (aP g7 (aP g8 (aP g9 (aP g10 (aP g11 aN))))) ?_
            refine Vc [] [] (pvalid_R false) (W_ret ?_)
            exact ⟨.inl rfl, by cases h; rfl⟩
          ·replace h := bif_f h g10
           refine Vg hT fN [(3, true), (8, true), (13, true), (18, false)] [] [] ⟨[(2, kB false)], [], []⟩ (aP g7 (aP g8 (aP g9 (aP g10 aN)))) ?_
           refine Vc [] [] (pvalid_R false) (W_ret ?_)
           exact ⟨.inl rfl, by cases h; rfl⟩
         ·replace h := bif_f h g9
          refine Vg hT fN [(3, true), (8, true), (13, false)] [] [] ⟨[(2, kB false)], [], []⟩ (aP g7 (aP g8 (aP g9 aN))) ?_
          refine Vc [] [] (pvalid_R false) (W_ret ?_)
          exact ⟨.inl rfl, by cases h; rfl⟩
        ·replace h := bif_f h g8
         refine Vg hT fN [(3, true), (8, false)] [] [] ⟨[(2, kB false)], [], []⟩ (aP g7 (aP g8 aN)) ?_
         refine Vc [] [] (pvalid_R false) (W_ret ?_)
         exact ⟨.inl rfl, by cases h; rfl⟩
       ·replace h := bif_f h g7
        refine Vg hT fN [(3, false)] [] [] ⟨[(2, kB false)], [], []⟩ (aP g7 aN) ?_
        refine Vc [] [] (pvalid_R false) (W_ret ?_)
        exact ⟨.inl rfl, by cases h; rfl⟩
def pTime_l1_E (b5_1 : UInt8) (z6_1 : List Int) (m6_1 : Nat) (l7_1 : List UInt8) (i43_1 : Int) : S := ⟨[(5, kU b5_1), (7, kH 0), (41, kH 1), (42, kI ((m6_1 : Nat) : Int)), (43, kI i43_1)], [], [nb 5 l7_1, ⟨(.ro true), 3, 1, m6_1, .z z6_1⟩]⟩
abbrev pTime_l1_P (n : Nat) (b5_1 : UInt8) (z6_1 : List Int) (m6_1 : Nat) (r : UInt8 × List UInt8 × Option Int) (fu : Nat) : S → Prop := fun s => ∃ (l7_1 : List UInt8), ∃ (i43_1 : Int), s = pTime_l1_E b5_1 z6_1 m6_1 l7_1 i43_1 ∧ pTime_l1 n b5_1 z6_1 m6_1 fu l7_1 i43_1 = some r
def pTime_j1_E (b5_1 : UInt8) (z6_1 : List Int) (m6_1 : Nat) : S := ⟨[(5, kU b5_1), (6, kH 0)], [], [⟨(.ro true), 3, 1, m6_1, .z z6_1⟩]⟩
abbrev pTime_j1_P (n : Nat) (r : UInt8 × List UInt8 × Option Int) : S → Prop := fun s => ∃ (b5_1 : UInt8), ∃ (z6_1 : List Int), ∃ (m6_1 : Nat), s = pTime_j1_E b5_1 z6_1 m6_1 ∧ pTime_j1 n b5_1 z6_1 m6_1 = some r
def pTime_R (r : UInt8 × List UInt8 × Option Int) : S := ⟨[(2, kU r.1), (3, kH 0), (4, kE 31 r.2.2)], [], [nb 5 r.2.1]⟩
def pTime_ct (n : Nat) (r : UInt8 × List UInt8 × Option Int) : Ct := ctc (rSt (lC cI (lC cI (lC cI (lC cI (lC cI (lC cI lN))))))).rd fun _ y0 => ct0 fun H => ([pTime n y0.1 y0.2.1 y0.2.2.1 y0.2.2.2.1 y0.2.2.2.2.1 y0.2.2.2.2.2.1 = some r], shA H.length (.t [.c (.s (.u8 r.1)), .c (.wh 0), .c (.s (.er 31 .i64 r.2.2))]), shH H.length [nb 5 r.2.1])
theorem pTime_ok (n : Nat) (r : UInt8 × List UInt8 × Option Int) : FnOk Try.prog Tr 20 (pTime_ct n r) := by
 refine fnok Try.func20 ?_
 refine HO_c (rSt (lC cI (lC cI (lC cI (lC cI (lC cI (lC cI lN))))))) fun p0 _ => ?_
 obtain ⟨l0_0, l0_1, l0_2, l0_3, l0_4, l0_5, _⟩ := p0
 refine HO_0 tabO_pr (pTime_R r) [.tmp 2, .tmp 3, .tmp 4] [0] 63 Try.func20 fun w hG h => ?_
 have h : pTime n l0_0 l0_1 l0_2 l0_3 l0_4 l0_5 = some r := h
 unfold pTime at h
 have hT := tabO_pr
 refine Vrs hT [0] ⟨[(1, kP 0 0)], [], [⟨.blk, 34, 1, 6, .c [.s (.k .i64 l0_0), .s (.k .i64 l0_1), .s (.k .i64 l0_2), .s (.k .i64 l0_3), .s (.k .i64 l0_4), .s (.k .i64 l0_5)]⟩]⟩ ?_
 refine W_seq ?_
 obtain ⟨r11, g1, h⟩ := bind_some' h
 refine Vgs hT (fT 1 (pvalid_ok n r11) fN) [] [] [0] ⟨[(1, kP 0 0), (12, kB (!r11))], [], [⟨.blk, 34, 1, 6, .c [.s (.k .i64 l0_0), .s (.k .i64 l0_1), .s (.k .i64 l0_2), .s (.k .i64 l0_3), .s (.k .i64 l0_4), .s (.k .i64 l0_5)]⟩]⟩ (aP g1 aN) ?_
 refine Vi ((!r11)) (fun g20 => ?_) (fun g20 => ?_)
 ·replace h := bif_t h g20
  refine Vrs hT [] ⟨[(2, kU 0), (3, .c (.nils)), (4, kE 31 (some 1))], [], []⟩ ?_
  refine Vc [.nil 3 5 1 (.b [])] [0] (pTime_R (0, [], (some 1))) (W_ret ?_)
  exact ⟨.inl rfl, by cases h; rfl⟩
 ·replace h := bif_f h g20
  refine W_skip ?_
  obtain ⟨g2, g3, g4, h⟩ := gd3 h
  refine Vds hT fN 18 [] [(1, false), (5, false), (30, false)] [] [0, 1] ⟨[(1, kP 0 0), (5, kU 24), (6, kH 1)], [], [⟨.blk, 34, 1, 6, .c [.s (.k .i64 l0_0), .s (.k .i64 l0_1), .s (.k .i64 l0_2), .s (.k .i64 l0_3), .s (.k .i64 l0_4), .s (.k .i64 l0_5)]⟩, ⟨.row, 3, 1, 7, .z [(Int.tdiv l0_0 100), (Int.tmod l0_0 100), l0_1, l0_2, l0_3, l0_4, l0_5]⟩]⟩ (aP g2 (aP g3 (aP g4 aN))) ?_
  refine W_join (pTime_j1_P n r) ?_ ?_
  ·rintro _ ⟨b5_1, z6_1, m6_1, rfl, h⟩
   unfold pTime_j1 at h
   refine Vrs hT [0] ⟨[(5, kU b5_1), (6, kH 0), (7, .c (.nils))], [], [⟨(.ro true), 3, 1, m6_1, .z z6_1⟩]⟩ ?_
   refine W_seq ?_
   refine Vrs hT [0] ⟨[(5, kU b5_1), (7, .c (.nils)), (41, kH 0), (42, kI ((m6_1 : Nat) : Int)), (43, kI 0)], [], [⟨(.ro true), 3, 1, m6_1, .z z6_1⟩]⟩ ?_
   refine W_block ?_
   refine Vc [.nil 7 5 1 (.b [])] [1, 0] (pTime_l1_E b5_1 z6_1 m6_1 [] 0) (W_lp ((pTime_l1_P n b5_1 z6_1 m6_1 r)) n ⟨_, _, rfl, h⟩ ?_)
   rintro fu_l1 _ ⟨l7_1, i43_1, rfl, h⟩
   cases fu_l1 with
   | zero => cases h
   | succ fu_l1 =>
    refine ⟨fu_l1, rfl, ?_⟩
    rw [pTime_l1] at h
    refine Vrs hT [0, 1] ⟨[(5, kU b5_1), (7, kH 0), (41, kH 1), (42, kI ((m6_1 : Nat) : Int)), (43, kI i43_1), (44, kB (decide (i43_1 < ((m6_1 : Nat) : Int))))], [], [nb 5 l7_1, ⟨(.ro true), 3, 1, m6_1, .z z6_1⟩]⟩ ?_
    refine W_seq ?_
    refine Vi ((decide (i43_1 < ((m6_1 : Nat) : Int)))) (fun g15 => ?_) (fun g15 => ?_)
    ·replace h := bif_t h g15
     refine W_skip ?_
     refine W_seq ?_
     refine W_block ?_
     obtain ⟨g5, g6, h⟩ := gd2 h
     refine Vgs hT fN [] [] [0, 1] ⟨[(5, kU b5_1), (7, kH 0), (9, kI (z6_1.getD i43_1.toNat 0)), (41, kH 1), (42, kI ((m6_1 : Nat) : Int)), (43, kI i43_1)], [], [nb 5 l7_1, ⟨(.ro true), 3, 1, m6_1, .z z6_1⟩]⟩ (aP g5 (aP g6 aN)) ?_
     obtain ⟨g7, g8, g9, g10, g11, h⟩ := gd5 h
     obtain ⟨g12, h⟩ := gd_some h
     refine Vg hT fN [] [] [3, 1] ⟨[(5, kU b5_1), (7, kH 0), (41, kH 1), (42, kI ((m6_1 : Nat) : Int)), (43, kI i43_1)], [], [nb 5 (l7_1 ++ [(UInt8.ofInt (48 + (Int.tdiv (z6_1.getD i43_1.toNat 0) 10))), (UInt8.ofInt (48 + (Int.tmod (z6_1.getD i43_1.toNat 0) 10)))]), ⟨(.ro true), 3, 1, m6_1, .z z6_1⟩]⟩ (aP g7 (aP g8 (aP g9 (aP g10 (aP g11 (aP g12 aN)))))) ?_
     obtain ⟨g13, h⟩ := gd_some h
     refine Vg hT fN [] [] [0, 1] (pTime_l1_E b5_1 z6_1 m6_1 (l7_1 ++ [(UInt8.ofInt (48 + (Int.tdiv (z6_1.getD i43_1.toNat 0) 10))), (UInt8.ofInt (48 + (Int.tmod (z6_1.getD i43_1.toNat 0) 10)))]) (i43_1 + 1)) (aP g13 aN) ?_
     exact ⟨_, _, rfl, h⟩
    ·replace h := bif_f h g15
     refine Vc [] [0] ⟨[(5, kU b5_1), (7, kH 0)], [], [nb 5 l7_1]⟩ (W_exit ?_)
     obtain ⟨g14, h⟩ := gd_some h
     refine Vgs hT fN [] [] [2] ⟨[(2, kU b5_1), (3, kH 0), (4, .c (.s (.v .nilIface)))], [], [nb 5 (l7_1 ++ [90])]⟩ (aP g14 aN) ?_
     refine Vc [.er 4 31 .i64] [0] (pTime_R (b5_1, (l7_1 ++ [90]), none)) (W_ret ?_)
     exact ⟨.inl rfl, by cases h; rfl⟩
  ·refine W_seq ?_
   rcases Bool.eq_false_or_eq_true (decide ((1950 : Int) ≤ l0_0)) with g16 | g16
   ·replace h := bif_t h g16
    refine Vg hT fN [(3, true)] [] [1] ⟨[(5, kU 24), (6, kH 0), (38, kB (decide (l0_0 < (2050 : Int))))], [], [⟨.row, 3, 1, 7, .z [(Int.tdiv l0_0 100), (Int.tmod l0_0 100), l0_1, l0_2, l0_3, l0_4, l0_5]⟩]⟩ (aP g16 aN) ?_
    refine Vi ((decide (l0_0 < (2050 : Int)))) (fun g19 => ?_) (fun g19 => ?_)
    ·replace h := bif_t h g19
     obtain ⟨g17, g18, h⟩ := gd2 h
     refine Vd hT fN 3 [] [(5, false), (6, false), (40, false)] [.vw 6 true] [1] (pTime_j1_E 23 (([(Int.tdiv l0_0 100), (Int.tmod l0_0 100), l0_1, l0_2, l0_3, l0_4, l0_5].drop 1).take 6) 6) (aP g17 (aP g18 aN)) ?_
     exact ⟨_, _, _, rfl, h⟩
    ·replace h := bif_f h g19
     refine Vc [.vw 6 true] [1] (pTime_j1_E 24 [(Int.tdiv l0_0 100), (Int.tmod l0_0 100), l0_1, l0_2, l0_3, l0_4, l0_5] 7) (W_skip ?_)
     exact ⟨_, _, _, rfl, h⟩
   ·replace h := bif_f h g16
    refine Vg hT fN [(3, false)] [] [1] ⟨[(5, kU 24), (6, kH 0), (38, kB false)], [], [⟨.row, 3, 1, 7, .z [(Int.tdiv l0_0 100), (Int.tmod l0_0 100), l0_1, l0_2, l0_3, l0_4, l0_5]⟩]⟩ (aP g16 aN) ?_
    refine Vi (false) (fun hb => by cases hb) (fun _ => ?_)
    refine Vc [.vw 6 true] [1] (pTime_j1_E 24 [(Int.tdiv l0_0 100), (Int.tmod l0_0 100), l0_1, l0_2, l0_3, l0_4, l0_5] 7) (W_skip ?_)
    exact ⟨_, _, _, rfl, h⟩
def pahead_R (r : Int) : S := ⟨[(2, kI r)], [], []⟩
def pahead_ct (n : Nat) (r : Int) : Ct := ctc rI.rd fun _ l0 => ct0 fun H => ([pahead n l0 = some r], shA H.length (kI r), shH H.length [])
theorem pahead_ok (n : Nat) (r : Int) : FnOk Try.prog Tr 51 (pahead_ct n r) := by
 refine fnok Try.func51 ?_
 refine HO_c rI fun l0 _ => HO_0 tabO_pr (pahead_R r) [.tmp 2] [] 17 Try.func51 fun w hG h => ?_
 unfold pahead at h
 have hT := tabO_pr
 refine Vrs hT [] ⟨[(0, kI l0)], [], []⟩ ?_
 obtain ⟨g1, h⟩ := gd_some h
 refine Vgs hT fN [] [] [] ⟨[(3, kI (l0 - 1))], [], []⟩ (aP g1 aN) ?_
 obtain ⟨g2, g3, g4, g5, g6, h⟩ := gd5 h
 obtain ⟨g7, g8, g9, g10, g11, h⟩ := gd5 h
 refine Vgs hT fN [] [] [] ⟨[(2, kI ((((365 * (l0 - 1)) + (Int.tdiv (l0 - 1) 4)) - (Int.tdiv (l0 - 1) 100)) + (Int.tdiv (l0 - 1) 400)))], [], []⟩ (aP g2 (aP g3 (aP g4 (aP g5 (aP g6 (aP g7 (aP g8 (aP g9 (aP g10 (aP g11 aN)))))))))) ?_
 refine Vc [] [] (pahead_R ((((365 * (l0 - 1)) + (Int.tdiv (l0 - 1) 4)) - (Int.tdiv (l0 - 1) 100)) + (Int.tdiv (l0 - 1) 400))) (W_ret ?_)
 exact ⟨.inl rfl, by cases h; rfl⟩
def pCount_l1_E (a0_0 : Int) (a0_1 : Int) (a0_2 : Int) (a0_3 : Int) (a0_4 : Int) (a0_5 : Int) (i4_1 : Int) (i5_1 : Int) : S := ⟨[(1, kP 0 0), (4, kI i4_1), (5, kI i5_1)], [], [⟨.blk, 34, 1, 6, .c [.s (.k .i64 a0_0), .s (.k .i64 a0_1), .s (.k .i64 a0_2), .s (.k .i64 a0_3), .s (.k .i64 a0_4), .s (.k .i64 a0_5)]⟩]⟩
abbrev pCount_l1_P (n : Nat) (a0_0 : Int) (a0_1 : Int) (a0_2 : Int) (a0_3 : Int) (a0_4 : Int) (a0_5 : Int) (r : Int × Option Int) (fu : Nat) : S → Prop := fun s => ∃ (i4_1 : Int), ∃ (i5_1 : Int), s = pCount_l1_E a0_0 a0_1 a0_2 a0_3 a0_4 a0_5 i4_1 i5_1 ∧ pCount_l1 n a0_0 a0_1 a0_2 a0_3 a0_4 a0_5 fu i4_1 i5_1 = some r
def pCount_R (r : Int × Option Int) : S := ⟨[(2, kI r.1), (3, kE 31 r.2)], [], []⟩
def pCount_ct (n : Nat) (r : Int × Option Int) : Ct := ctc (rSt (lC cI (lC cI (lC cI (lC cI (lC cI (lC cI lN))))))).rd fun _ y0 => ct0 fun H => ([pCount n y0.1 y0.2.1 y0.2.2.1 y0.2.2.2.1 y0.2.2.2.2.1 y0.2.2.2.2.2.1 = some r], shA H.length (.t [.c (.s (.k .i64 r.1)), .c (.s (.er 31 .i64 r.2))]), shH H.length [])
theorem pCount_ok (n : Nat) (r : Int × Option Int) : FnOk Try.prog Tr 19 (pCount_ct n r) := by
 refine fnok Try.func19 ?_
 refine HO_c (rSt (lC cI (lC cI (lC cI (lC cI (lC cI (lC cI lN))))))) fun p0 _ => ?_
 obtain ⟨l0_0, l0_1, l0_2, l0_3, l0_4, l0_5, _⟩ := p0
 refine HO_0 tabO_pr (pCount_R r) [.tmp 2, .tmp 3] [] 42 Try.func19 fun w hG h => ?_
 have h : pCount n l0_0 l0_1 l0_2 l0_3 l0_4 l0_5 = some r := h
 unfold pCount at h
 have hT := tabO_pr
 refine Vrs hT [0] ⟨[(1, kP 0 0)], [], [⟨.blk, 34, 1, 6, .c [.s (.k .i64 l0_0), .s (.k .i64 l0_1), .s (.k .i64 l0_2), .s (.k .i64 l0_3), .s (.k .i64 l0_4), .s (.k .i64 l0_5)]⟩]⟩ ?_
 refine W_seq ?_
 obtain ⟨r7, g1, h⟩ := bind_some' h
 refine Vgs hT (fT 1 (pvalid_ok n r7) fN) [] [] [0] ⟨[(1, kP 0 0), (8, kB (!r7))], [], [⟨.blk, 34, 1, 6, .c [.s (.k .i64 l0_0), .s (.k .i64 l0_1), .s (.k .i64 l0_2), .s (.k .i64 l0_3), .s (.k .i64 l0_4), .s (.k .i64 l0_5)]⟩]⟩ (aP g1 aN) ?_
 refine Vi ((!r7)) (fun g15 => ?_) (fun g15 => ?_)
 ·replace h := bif_t h g15
  refine Vrs hT [] ⟨[(2, kI 0), (3, kE 31 (some 1))], [], []⟩ ?_
  refine Vc [] [] (pCount_R (0, (some 1))) (W_ret ?_)
  exact ⟨.inl rfl, by cases h; rfl⟩
 ·replace h := bif_f h g15
  refine W_skip ?_
  obtain ⟨r12, g2, h⟩ := bind_some' h
  obtain ⟨g3, g4, h⟩ := gd2 h
  refine Vds hT (fT 2 (pahead_ok n r12) fN) 6 [] [(1, false), (12, false), (15, false)] [] [0] ⟨[(1, kP 0 0), (4, kI (r12 + (l0_2 - 1)))], [], [⟨.blk, 34, 1, 6, .c [.s (.k .i64 l0_0), .s (.k .i64 l0_1), .s (.k .i64 l0_2), .s (.k .i64 l0_3), .s (.k .i64 l0_4), .s (.k .i64 l0_5)]⟩]⟩ (aP g2 (aP g3 (aP g4 aN))) ?_
  refine W_seq ?_
  refine Vrs hT [0] ⟨[(1, kP 0 0), (4, kI (r12 + (l0_2 - 1))), (5, kI 1)], [], [⟨.blk, 34, 1, 6, .c [.s (.k .i64 l0_0), .s (.k .i64 l0_1), .s (.k .i64 l0_2), .s (.k .i64 l0_3), .s (.k .i64 l0_4), .s (.k .i64 l0_5)]⟩]⟩ ?_
  refine W_block ?_
  refine Vc [] [0] (pCount_l1_E l0_0 l0_1 l0_2 l0_3 l0_4 l0_5 (r12 + (l0_2 - 1)) 1) (W_lp ((pCount_l1_P n l0_0 l0_1 l0_2 l0_3 l0_4 l0_5 r)) n ⟨_, _, rfl, h⟩ ?_)
  rintro fu_l1 _ ⟨i4_1, i5_1, rfl, h⟩
  cases fu_l1 with
  | zero => cases h
  | succ fu_l1 =>
   refine ⟨fu_l1, rfl, ?_⟩
   rw [pCount_l1] at h
   refine W_seq ?_
   refine Vrs hT [0] ⟨[(1, kP 0 0), (4, kI i4_1), (5, kI i5_1), (20, kB (decide (i5_1 < l0_1)))], [], [⟨.blk, 34, 1, 6, .c [.s (.k .i64 l0_0), .s (.k .i64 l0_1), .s (.k .i64 l0_2), .s (.k .i64 l0_3), .s (.k .i64 l0_4), .s (.k .i64 l0_5)]⟩]⟩ ?_
   refine Vi ((decide (i5_1 < l0_1))) (fun g14 => ?_) (fun g14 => ?_)
   ·replace h := bif_t h g14
    refine W_skip ?_
    refine W_seq ?_
    refine W_block ?_
    obtain ⟨r27_2, g5, h⟩ := bind_some' h
    obtain ⟨g6, h⟩ := gd_some h
    refine Vg hT (fT 4 (pdays_ok n r27_2) fN) [] [] [0] ⟨[(1, kP 0 0), (4, kI (i4_1 + r27_2)), (5, kI i5_1)], [], [⟨.blk, 34, 1, 6, .c [.s (.k .i64 l0_0), .s (.k .i64 l0_1), .s (.k .i64 l0_2), .s (.k .i64 l0_3), .s (.k .i64 l0_4), .s (.k .i64 l0_5)]⟩]⟩ (aP g5 (aP g6 aN)) ?_
    obtain ⟨g7, h⟩ := gd_some h
    refine Vg hT fN [] [] [0] (pCount_l1_E l0_0 l0_1 l0_2 l0_3 l0_4 l0_5 (i4_1 + r27_2) (i5_1 + 1)) (aP g7 aN) ?_
    exact ⟨_, _, rfl, h⟩
   ·replace h := bif_f h g14
    refine Vc [] [0] ⟨[(1, kP 0 0), (4, kI i4_1)], [], [⟨.blk, 34, 1, 6, .c [.s (.k .i64 l0_0), .s (.k .i64 l0_1), .s (.k .i64 l0_2), .s (.k .i64 l0_3), .s (.k .i64 l0_4), .s (.k .i64 l0_5)]⟩]⟩ (W_exit ?_)
    obtain ⟨g8, g9, g10, g11, g12, h⟩ := gd5 h
    obtain ⟨g13, h⟩ := gd_some h
    refine Vgs hT fN [] [] [] ⟨[(2, kI ((i4_1 * 86400) + (((l0_3 * 3600) + (l0_4 * 60)) + l0_5))), (3, .c (.s (.v .nilIface)))], [], []⟩ (aP g8 (aP g9 (aP g10 (aP g11 (aP g12 (aP g13 aN)))))) ?_
    refine Vc [.er 3 31 .i64] [] (pCount_R (((i4_1 * 86400) + (((l0_3 * 3600) + (l0_4 * 60)) + l0_5)), none)) (W_ret ?_)
    exact ⟨.inl rfl, by cases h; rfl⟩
def pInt_j1_E (l3_6 : List UInt8) (m3_4 : Nat) : S := ⟨[(3, kH 0)], [], [⟨(.ro true), 5, 1, m3_4, .b l3_6⟩]⟩
abbrev pInt_j1_P (n : Nat) (r : List UInt8) : S → Prop := fun s => ∃ (l3_6 : List UInt8), ∃ (m3_4 : Nat), s = pInt_j1_E l3_6 m3_4 ∧ pInt_j1 n l3_6 m3_4 = some r
def pInt_l2_E (l3_7 : List UInt8) (m3_5 : Nat) : S := ⟨[(3, kH 0)], [], [⟨(.ro true), 5, 1, m3_5, .b l3_7⟩]⟩
abbrev pInt_l2_P (n : Nat) (r : List UInt8) (fu : Nat) : S → Prop := fun s => ∃ (l3_7 : List UInt8), ∃ (m3_5 : Nat), s = pInt_l2_E l3_7 m3_5 ∧ pInt_l2 n fu l3_7 m3_5 = some r
def pInt_l1_E (a0 : Int) (l3_4 : List UInt8) (i4_1 : Int) : S := ⟨[(0, kI a0), (3, kH 0), (4, kI i4_1)], [], [nb 5 l3_4]⟩
abbrev pInt_l1_P (n : Nat) (a0 : Int) (r : List UInt8) (fu : Nat) : S → Prop := fun s => ∃ (l3_4 : List UInt8), ∃ (i4_1 : Int), s = pInt_l1_E a0 l3_4 i4_1 ∧ pInt_l1 n a0 fu l3_4 i4_1 = some r
def pInt_R (r : List UInt8) : S := ⟨[(2, kH 0)], [], [nb 5 r]⟩
def pInt_ct (n : Nat) (r : List UInt8) : Ct := ctc rI.rd fun _ l0 => ct0 fun H => ([pInt n l0 = some r], shA H.length (kH 0), shH H.length [nb 5 r])
theorem pInt_ok (n : Nat) (r : List UInt8) : FnOk Try.prog Tr 15 (pInt_ct n r) := by
 refine fnok Try.func15 ?_
 refine HO_c rI fun l0 _ => HO_0 tabO_pr (pInt_R r) [.tmp 2] [0] 27 Try.func15 fun w hG h => ?_
 unfold pInt at h
 have hT := tabO_pr
 refine Vrs hT [] ⟨[(0, kI l0)], [], []⟩ ?_
 refine Vrs hT [] ⟨[(0, kI l0), (3, .c (.nils))], [], []⟩ ?_
 refine W_seq ?_
 refine Vrs hT [] ⟨[(0, kI l0), (3, .c (.nils)), (4, kI 56)], [], []⟩ ?_
 refine W_block ?_
 refine Vc [.nil 3 5 1 (.b [])] [0] (pInt_l1_E l0 [] 56) (W_lp ((pInt_l1_P n l0 r)) n ⟨_, _, rfl, h⟩ ?_)
 rintro fu_l1 _ ⟨l3_4, i4_1, rfl, h⟩
 cases fu_l1 with
 | zero => cases h
 | succ fu_l1 =>
  refine ⟨fu_l1, rfl, ?_⟩
  rw [pInt_l1] at h
  refine W_seq ?_
  refine Vrs hT [0] ⟨[(0, kI l0), (3, kH 0), (4, kI i4_1), (6, kB (decide ((0 : Int) ≤ i4_1)))], [], [nb 5 l3_4]⟩ ?_
  refine Vi ((decide ((0 : Int) ≤ i4_1))) (fun g11 => ?_) (fun g11 => ?_)
  ·replace h := bif_t h g11
   refine W_skip ?_
   refine W_seq ?_
   refine W_block ?_
   obtain ⟨g1, g2, g3, h⟩ := gd3 h
   refine Vg hT fN [] [] [2] ⟨[(0, kI l0), (3, kH 0), (4, kI i4_1)], [], [nb 5 (l3_4 ++ [(UInt8.ofInt (l0 / 2 ^ i4_1.toNat))])]⟩ (aP g1 (aP g2 (aP g3 aN))) ?_
   obtain ⟨g4, h⟩ := gd_some h
   refine Vg hT fN [] [] [0] (pInt_l1_E l0 (l3_4 ++ [(UInt8.ofInt (l0 / 2 ^ i4_1.toNat))]) (i4_1 - 8)) (aP g4 aN) ?_
   exact ⟨_, _, rfl, h⟩
  ·replace h := bif_f h g11
   refine Vc [] [0] ⟨[(3, kH 0)], [], [nb 5 l3_4]⟩ (W_exit ?_)
   refine W_join (pInt_j1_P n r) ?_ ?_
   ·rintro _ ⟨l3_6, m3_4, rfl, h⟩
    unfold pInt_j1 at h
    obtain ⟨g5, h⟩ := gd_some h
    refine Vgs hT (fT 1 cloneb_h fN) [] [] [1] ⟨[(2, kH 0)], [], [nb 5 l3_6]⟩ (aP g5 aN) ?_
    refine Vc [] [0] (pInt_R l3_6) (W_ret ?_)
    exact ⟨.inl rfl, by cases h; rfl⟩
   ·refine W_block ?_
    refine Vc [.vw 3 true] [1] (pInt_l2_E l3_4 l3_4.length) (W_lp ((pInt_l2_P n r)) n ⟨_, _, rfl, h⟩ ?_)
    rintro fu_l2 _ ⟨l3_7, m3_5, rfl, h⟩
    cases fu_l2 with
    | zero => cases h
    | succ fu_l2 =>
     refine ⟨fu_l2, rfl, ?_⟩
     rw [pInt_l2] at h
     refine W_seq ?_
     refine W_seq ?_
     rcases Bool.eq_false_or_eq_true (decide ((1 : Int) < ((m3_5 : Nat) : Int))) with g6 | g6
     ·replace h := bif_t h g6
      obtain ⟨r21_5, g7, h⟩ := bind_some' h
      refine Vg hT (fT 5 (pspare_ok n r21_5) fN) [(3, true)] [] [0] ⟨[(3, kH 0), (22, kB r21_5)], [], [⟨(.ro true), 5, 1, m3_5, .b l3_7⟩]⟩ (aP g6 (aP g7 aN)) ?_
      refine Vi (r21_5) (fun g10 => ?_) (fun g10 => ?_)
      ·replace h := bif_t h g10
       refine W_skip ?_
       refine W_block ?_
       obtain ⟨g8, g9, h⟩ := gd2 h
       refine Vg hT fN [] [.vw 3 true] [1] (pInt_l2_E ((l3_7.drop 1).take (m3_5 - 1)) (m3_5 - 1)) (aP g8 (aP g9 aN)) ?_
       exact ⟨_, _, rfl, h⟩
      ·replace h := bif_f h g10
       refine Vc [] [0] (pInt_j1_E l3_7 m3_5) (W_exit ?_)
       exact ⟨_, _, rfl, h⟩
     ·replace h := bif_f h g6
      refine Vg hT fN [(3, false)] [] [0] ⟨[(3, kH 0), (22, kB false)], [], [⟨(.ro true), 5, 1, m3_5, .b l3_7⟩]⟩ (aP g6 aN) ?_
      refine Vi (false) (fun hb => by cases hb) (fun _ => ?_)
      refine Vc [] [0] (pInt_j1_E l3_7 m3_5) (W_exit ?_)
      exact ⟨_, _, rfl, h⟩
def pup_R (r : Bool) : S := ⟨[(0, kB r)], [], []⟩
def pup_ct (n : Nat) (r : Bool) : Ct := ct0 fun H => ([pup n = some r], shA H.length (kB r), shH H.length [])
theorem pup_ok (n : Nat) (r : Bool) : FnOk Try.prog Tr 14 (pup_ct n r) := by
 refine fnok Try.func14 ?_
 refine HO_0 tabO_pr (pup_R r) [.tmp 0] [] 69 Try.func14 fun w hG h => ?_
 unfold pup at h
 have hT := tabO_pr
 refine Vrs hT [] ⟨[], [], []⟩ ?_
 obtain ⟨r12, g1, h⟩ := bind_some' h
 refine Vgs hT (fT 1 (pReadInt_ok n r12) fN) [] [] [] ⟨[(2, kE 31 r12.2)], [], []⟩ (aP g1 aN) ?_
 obtain ⟨r17, g2, h⟩ := bind_some' h
 refine Vgs hT (fT 1 (pOid_ok n r17) fN) [] [] [1] ⟨[(2, kE 31 r12.2), (3, kH 0), (4, kE 31 r17.2)], [], [nb 5 r17.1]⟩ (aP g2 aN) ?_
 obtain ⟨r22, g3, h⟩ := bind_some' h
 refine Vgs hT (fT 1 (pTime_ok n r22) fN) [] [] [0, 1] ⟨[(2, kE 31 r12.2), (3, kH 0), (4, kE 31 r17.2), (5, kU r22.1), (6, kH 1), (7, kE 31 r22.2.2)], [], [nb 5 r17.1, nb 5 r22.2.1]⟩ (aP g3 aN) ?_
 obtain ⟨r28, g4, h⟩ := bind_some' h
 refine Vgs hT (fT 1 (pCount_ok n r28) fN) [] [] [0, 1] ⟨[(2, kE 31 r12.2), (3, kH 0), (4, kE 31 r17.2), (5, kU r22.1), (6, kH 1), (7, kE 31 r22.2.2), (8, kI r28.1), (9, kE 31 r28.2)], [], [nb 5 r17.1, nb 5 r22.2.1]⟩ (aP g4 aN) ?_
 refine W_seq ?_
 obtain ⟨r31, g5, h⟩ := bind_some' h
 rcases Bool.eq_false_or_eq_true (r31 == ([255, 127] : List UInt8)) with g6 | g6
 ·replace h := bif_t h g6
  obtain ⟨g7, h⟩ := gd_some h
  rcases Bool.eq_false_or_eq_true (r12.2 == (some 2)) with g8 | g8
  ·replace h := bif_t h g8
   rcases Bool.eq_false_or_eq_true ((r17.2).isNone) with g9 | g9
   ·replace h := bif_t h g9
    rcases Bool.eq_false_or_eq_true (r17.1 == ([42, 134, 72, 134, 247, 13] : List UInt8)) with g10 | g10
    ·replace h := bif_t h g10
     rcases Bool.eq_false_or_eq_true ((r22.2.2).isNone) with g11 | g11
     ·replace h := bif_t h g11
      rcases Bool.eq_false_or_eq_true (r22.1 == 23) with g12 | g12
      ·replace h := bif_t h g12
       rcases Bool.eq_false_or_eq_true (r22.2.1 == ([52, 57, 49, 50, 51, 49, 50, 51, 53, 57, 53, 57, 90] : List UInt8)) with g13 | g13
       ·replace h := bif_t h g13
        rcases Bool.eq_false_or_eq_true ((r28.2).isNone) with g14 | g14
        ·replace h := bif_t h g14
         refine Vg hT (fT 0 (pInt_ok n r31) fN) [(3, true), (8, true), (12, true), (17, true), (21, true), (25, true), (30, true), (34, true)] [] [] ⟨[(0, kB (r28.1 == 1))], [], []⟩ (aP g5 (aP g6 (aP g7 (aP g8 (aP g9 (aP g10 (aP g11 (aP g12 (aP g13 (aP g14 aN)))))))))) ?_
         refine Vc [] [] (pup_R (r28.1 == 1)) (W_ret ?_)
         exact ⟨.inl rfl, by cases h; rfl⟩
        ·replace h := bif_f h g14
         refine Vg hT (fT 0 (pInt_ok n r31) fN) [(3, true), (8, true), (12, true), (17, true), (21, true), (25, true), (30, true), (34, false)] [] [] ⟨[(0, kB false)], [], []⟩ (aP g5 (aP g6 (aP g7 (aP g8 (aP g9 (aP g10 (aP g11 (aP g12 (aP g13 (aP g14 aN)))))))))) ?_
         refine Vc [] [] (pup_R false) (W_ret ?_)
         exact ⟨.inl rfl, by cases h; rfl⟩
       ·replace h := bif_f h g13
        refine Vg hT (fT 0 (pInt_ok n r31) fN) [(3, true), (8, true), (12, true), (17, true), (21, true), (25, true), (30, false)] [] [] ⟨[(0, kB false)], [], []⟩ (aP g5 (aP g6 (aP g7 (aP g8 (aP g9 (aP g10 (aP g11 (aP g12 (aP g13 aN))))))))) ?_
        refine Vc [] [] (pup_R false) (W_ret ?_)
        exact ⟨.inl rfl, by cases h; rfl⟩
      ·replace h := bif_f h g12
       refine Vg hT (fT 0 (pInt_ok n r31) fN) [(3, true), (8, true), (12, true), (17, true), (21, true), (25, false)] [] [] ⟨[(0, kB false)], [], []⟩ (aP g5 (aP g6 (aP g7 (aP g8 (aP g9 (aP g10 (aP g11 (aP g12 aN)))))))) ?_
       refine Vc [] [] (pup_R false) (W_ret ?_)
       exact ⟨.inl rfl, by cases h; rfl⟩
     ·replace h := bif_f h g11
      refine Vg hT (fT 0 (pInt_ok n r31) fN) [(3, true), (8, true), (12, true), (17, true), (21, false)] [] [] ⟨[(0, kB false)], [], []⟩ (aP g5 (aP g6 (aP g7 (aP g8 (aP g9 (aP g10 (aP g11 aN))))))) ?_
      refine Vc [] [] (pup_R false) (W_ret ?_)
      exact ⟨.inl rfl, by cases h; rfl⟩
    ·replace h := bif_f h g10
     refine Vg hT (fT 0 (pInt_ok n r31) fN) [(3, true), (8, true), (12, true), (17, false)] [] [] ⟨[(0, kB false)], [], []⟩ (aP g5 (aP g6 (aP g7 (aP g8 (aP g9 (aP g10 aN)))))) ?_
     refine Vc [] [] (pup_R false) (W_ret ?_)
     exact ⟨.inl rfl, by cases h; rfl⟩
   ·replace h := bif_f h g9
    refine Vg hT (fT 0 (pInt_ok n r31) fN) [(3, true), (8, true), (12, false)] [] [] ⟨[(0, kB false)], [], []⟩ (aP g5 (aP g6 (aP g7 (aP g8 (aP g9 aN))))) ?_
    refine Vc [] [] (pup_R false) (W_ret ?_)
    exact ⟨.inl rfl, by cases h; rfl⟩
  ·replace h := bif_f h g8
   refine Vg hT (fT 0 (pInt_ok n r31) fN) [(3, true), (8, false)] [] [] ⟨[(0, kB false)], [], []⟩ (aP g5 (aP g6 (aP g7 (aP g8 aN)))) ?_
   refine Vc [] [] (pup_R false) (W_ret ?_)
   exact ⟨.inl rfl, by cases h; rfl⟩
 ·replace h := bif_f h g6
  refine Vg hT (fT 0 (pInt_ok n r31) fN) [(3, false)] [] [] ⟨[(0, kB false)], [], []⟩ (aP g5 (aP g6 aN)) ?_
  refine Vc [] [] (pup_R false) (W_ret ?_)
  exact ⟨.inl rfl, by cases h; rfl⟩
end Go.Proofs.Ytliilihbnhdemaa
end
section
namespace Go.Proofs.Ytliilihbnhdemaa
open Go.RowKit Go.Ch Go.Sx Go.Lib Go.Shelf Go.Proofs
theorem cat_u8W : (Try.prog.info? 89).map (fun i => (i.zero, i.size, i.bytes)) = some (some (.int .u32 0), 1, 4) := by kernel_rfl
set_option maxHeartbeats 2000000 in
set_option maxRecDepth 100000 in
theorem grow_0W (w : World) : Calls Try.prog 82 #[.slice none 0 0, .int .i64 0] w (Ret fun v w' => Ext w w' ∧ Own w' w.heap.size 89 v []) := by
 go_enter Try.func82, Try.ntmps82
 go_wp2
 go_ret
 exact ⟨_, rfl, Below.refl _ _, World.ownsRow_nil _ _ _ _⟩
set_option maxHeartbeats 4000000 in
set_option maxRecDepth 100000 in
theorem grow_1W (w : World) (n : Nat) (h0 : 0 < n) (hn : n ≤ 1000000000000) : Calls Try.prog 82 #[.slice none 0 0, .int .i64 n] w (Ret fun v w' => Ext w w' ∧ Own w' w.heap.size 89 v []) := by
 obtain ⟨i0, hi0, hz0, hs0, hb0⟩ := info_parts cat_u8W
 have t22 : Try.prog.underlying 60 = some (.slice 89) := Try.underlying60
 have t3 : Try.prog.underlying 3 = some (.int .i64) := Try.underlying3
 have u22 := run_underlying t22
 have u3 := run_underlying t3
 have h1 : ¬ ((n : Int) < 0) := by omega
 have h3 : wrap64 ((n : Int) - 0) = (n : Int) := by unfold wrap64; omega
 have h4 : (n : Int) > 0 := by omega
 have hold : (Builtin.firstCells i0.size 0 (.slice none 0 0)).run Try.prog w.drew = .ok (#[] : Array Value) w.drew := run_firstCells_none w.drew i0.size 0 0 0
 have hrz : ∀ ty, (Builtin.append_ #[60, 3] ty #[.slice none 0 0, .int .i64 (n : Int)]).run Try.prog w =
   .ok (.slice (some ⟨w.heap.size, 0, none⟩) n (grownCap w n 0 89)) (w.drew.alloc (.cells (#[] ++ Builtin.zeroCells (Value.cells (.int .u32 0)) n ++ Builtin.zeroCells (Value.cells (.int .u32 0)) (grownCap w n 0 89 - n)) 89)) := fun ty => by
  have h := Lib.run_append_grow_zeros w 60 3 ty 89 i0 (.int .u32 0) .i64 .i64 t22 t3 hi0 hz0 none 0 0 [] hold n (by omega) (by omega) (by omega) (by omega)
   (by rw [hb0]; omega)
   (by have := growslice_fits (show 0 < n from h0) (show n * i0.bytes ≤ 140737488355328 by rw [hb0]; omega); simpa using this)
  simpa using h
 have hGn : n ≤ grownCap w n 0 89 := grownCap_ge w _ _ _
 have hGm := grownCap_le_maxLen w n 0 89 (by unfold maxLen; omega)
 obtain ⟨G, hG⟩ : ∃ G, G = grownCap w n 0 89 := ⟨_, rfl⟩
 rw [← hG] at hrz hGn hGm
 have hG63 : G ≤ 9223372036854775807 := by unfold maxLen at hGm; omega
 clear hold hG
 go_enter Try.func82, Try.ntmps82
 go_wp2_with (at_builtin; refine Lib.wpList_append_run _ rfl _ _ _ _ rfl _ _ rfl rfl _ _ (hrz _) ?_)
 all_goals
  go_ret
  refine ⟨_, rfl, ?_, rfl, .inr ⟨w.heap.size, G, Builtin.zeroCells #[Value.int .u32 0] n ++ Builtin.zeroCells #[Value.int .u32 0] (G - n), rfl, Nat.le_refl _, ?_, Nat.zero_le _, hGm, ?_, ?_⟩⟩
  ·exact ((Below.refl _ _).alloc (Nat.le_refl _) _).drew
  ·show (w.heap.push _)[w.heap.size]? = _
   exact Array.getElem?_push_size
  ·have hz : ∀ k, (Builtin.zeroCells #[Value.int .u32 0] k).size = k := fun k => by simp [Builtin.zeroCells]
   rw [Array.size_append, hz, hz]; omega
  ·simp
theorem grow_cW (w : World) (n : Nat) (hn : n ≤ 1000000000000) : Calls Try.prog 82 #[.slice none 0 0, .int .i64 n] w (Ret fun v w' => Ext w w' ∧ Own w' w.heap.size 89 v []) := by
 cases n with
 | zero => exact grow_0W w
 | succ n => exact grow_1W w (n + 1) (Nat.succ_pos _) hn
theorem cat_slW : (Try.prog.info? 60).map (fun i => (i.zero, i.size, i.bytes)) = some (some (.slice none 0 0), 1, 24) := by kernel_rfl
def SlSW (w : World) (vs : List Value) (ls : List (List UInt32)) : Prop := vs.length = ls.length ∧ ∀ i, i < ls.length → ∃ B, Sl w B (vs.getD i undef) ((ls.getD i []).map w32)
theorem flat_takeW (ls : List (List UInt32)) (k : Nat) (h : k < ls.length) : (ls.take (k + 1)).flatten = (ls.take k).flatten ++ ls.getD k [] := by
 rw [List.take_succ_eq_append_getElem h, List.flatten_append, List.getD_eq_getElem?_getD, List.getElem?_eq_getElem h]; simp
theorem flat_leW (ls : List (List UInt32)) (k : Nat) : (ls.take k).flatten.length ≤ ls.flatten.length := by
 have : ls.flatten = (ls.take k).flatten ++ (ls.drop k).flatten := by rw [← List.flatten_append, List.take_append_drop]
 rw [this, List.length_append]; omega
theorem vgetW {vs : List Value} {k n : Nat} (hn : vs.length = n) (h : k < n) : vs[k]? = some (vs.getD k undef) := by
 rw [List.getD_eq_getElem?_getD, List.getElem?_eq_getElem (by omega)]; rfl
set_option maxHeartbeats 800000 in
theorem concat_cW (w : World) (B : Nat) (v : Value) (vs : List Value) (ls : List (List UInt32)) (hv : Sl w B v vs) (hvs : SlSW w vs ls) (hl : ls.length ≤ 1000000) (hb : ls.flatten.length ≤ 1000000000) :
  Calls Try.prog 67 #[v] w (Ret fun v' w' => Ext w w' ∧ Own w' w.heap.size 89 v' (ls.flatten.map w32)) := by
 obtain ⟨i89, hi89, hz89, hs89, hb89⟩ := info_parts cat_u8W
 obtain ⟨i60, hi60, hz60, hs60, hb60⟩ := info_parts cat_slW
 have hvl := hvs.1
 go_enter Try.func67, Try.ntmps67
 go_wp2_with (first
  | ((with_reducible refine g_at (d := 10) ?_); refine wpl_len rfl Try.underlying115 hv (by first | rw [List.length_map] | rfl) ?_; try (conv in (Act.put _ _ _) => simp only [Act.put, List.setIfInBounds_toArray, List.set_cons_succ, List.set_cons_zero]))
  | ((with_reducible refine g_at (d := 17) ?_); refine wpl_len rfl Try.underlying60 (by first | assumption | exact Own.sl (by assumption) | exact Sl.back (by first | assumption | exact Ext.drew' (by assumption) | exact Ext.undrew (by assumption)) (by first | assumption | exact Own.sl (by assumption) | exact Sl.back (by first | assumption | exact Ext.drew' (by assumption) | exact Ext.undrew (by assumption)) (by first | assumption | exact Own.sl (by assumption) | exact Sl.back (by first | assumption | exact Ext.drew' (by assumption) | exact Ext.undrew (by assumption)) (by first | assumption | exact Own.sl (by assumption) | exact Sl.back (by first | assumption | exact Ext.drew' (by assumption) | exact Ext.undrew (by assumption)) (by first | assumption | exact Own.sl (by assumption) | exact Sl.back (by first | assumption | exact Ext.drew' (by assumption) | exact Ext.undrew (by assumption)) (by first | assumption | exact Own.sl (by assumption) | exact Sl.back (by first | assumption | exact Ext.drew' (by assumption) | exact Ext.undrew (by assumption)) (by first | assumption | exact Own.sl (by assumption) | exact Sl.back (by first | assumption | exact Ext.drew' (by assumption) | exact Ext.undrew (by assumption)) (by first | assumption | exact Own.sl (by assumption))))))))) (by first | rw [List.length_map] | rfl) ?_; try (conv in (Act.put _ _ _) => simp only [Act.put, List.setIfInBounds_toArray, List.set_cons_succ, List.set_cons_zero]))
  | ((with_reducible refine g_at (d := 26) ?_); refine wpl_len rfl Try.underlying115 (by first | assumption | exact Own.sl (by assumption) | exact Sl.back (by first | assumption | exact Ext.drew' (by assumption) | exact Ext.undrew (by assumption)) (by first | assumption | exact Own.sl (by assumption) | exact Sl.back (by first | assumption | exact Ext.drew' (by assumption) | exact Ext.undrew (by assumption)) (by first | assumption | exact Own.sl (by assumption) | exact Sl.back (by first | assumption | exact Ext.drew' (by assumption) | exact Ext.undrew (by assumption)) (by first | assumption | exact Own.sl (by assumption) | exact Sl.back (by first | assumption | exact Ext.drew' (by assumption) | exact Ext.undrew (by assumption)) (by first | assumption | exact Own.sl (by assumption) | exact Sl.back (by first | assumption | exact Ext.drew' (by assumption) | exact Ext.undrew (by assumption)) (by first | assumption | exact Own.sl (by assumption) | exact Sl.back (by first | assumption | exact Ext.drew' (by assumption) | exact Ext.undrew (by assumption)) (by first | assumption | exact Own.sl (by assumption) | exact Sl.back (by first | assumption | exact Ext.drew' (by assumption) | exact Ext.undrew (by assumption)) (by first | assumption | exact Own.sl (by assumption))))))))) (by first | rw [List.length_map] | rfl) ?_; try (conv in (Act.put _ _ _) => simp only [Act.put, List.setIfInBounds_toArray, List.set_cons_succ, List.set_cons_zero])))
 rw [hvl]
 go_loopw [3, 11] (fun s i wr => ∃ k : Nat, k ≤ ls.length ∧ i = .int .i64 k ∧ s = .int .i64 (((ls.take k).flatten.length : Nat) : Int) ∧ Ext w wr) (fun _ i _ => ls.length - (RowKit.intOf i).toNat)
 case atStart => exact ⟨0, Nat.zero_le _, rfl, by simp, Below.refl _ _⟩
 case round =>
  obtain ⟨k, hk, rfl, rfl, hx⟩ := hrel
  by_cases hlt : k < ls.length
  ·obtain ⟨Bi, hsi⟩ := hvs.2 k hlt
   have hf := flat_takeW ls k hlt
   have hle := flat_leW ls (k + 1)
   generalize ls.getD k [] = x at *
   rw [hf, List.length_append] at hle
   have hg : (ls.take (k + 1)).flatten.length = (ls.take k).flatten.length + x.length := by rw [hf, List.length_append]
   have HF := Lib.hid hg
   clear hf hg
   generalize (ls.take k).flatten.length = S at *
   have hw : wrap64 ((S : Int) + (x.length : Int)) = (S : Int) + (x.length : Int) := by unfold wrap64; omega
   have hneg : ¬ ((S : Int) + (x.length : Int) < 0) := Int.not_lt.2 (Int.add_nonneg (Int.natCast_nonneg _) (Int.natCast_nonneg _))
   go_wp2_with (first
    | ((with_reducible refine g_at (d := 13) ?_); refine wpl_index rfl rfl Try.underlying115 hi60 hs60 (hv.ext hx) rfl (vgetW hvl hlt) ?_; intro ad13 hb13 hc13; try (conv in (Act.put _ _ _) => simp only [Act.put, List.setIfInBounds_toArray, List.set_cons_succ, List.set_cons_zero]))
    | ((with_reducible refine g_at (d := 14) ?_); refine wpl_load1 rfl Try.underlying60 rfl hc13 ?_; try (conv in (Act.put _ _ _) => simp only [Act.put, List.setIfInBounds_toArray, List.set_cons_succ, List.set_cons_zero]))
    | ((with_reducible refine g_at (d := 17) ?_); refine wpl_len rfl Try.underlying60 (hsi.ext hx) (by first | rw [List.length_map] | rfl) ?_; try (conv in (Act.put _ _ _) => simp only [Act.put, List.setIfInBounds_toArray, List.set_cons_succ, List.set_cons_zero]))
    | ((with_reducible refine g_at (d := 10) ?_); refine wpl_len rfl Try.underlying115 (by first | assumption | exact Own.sl (by assumption) | exact Sl.back (by first | assumption | exact Ext.drew' (by assumption) | exact Ext.undrew (by assumption)) (by first | assumption | exact Own.sl (by assumption) | exact Sl.back (by first | assumption | exact Ext.drew' (by assumption) | exact Ext.undrew (by assumption)) (by first | assumption | exact Own.sl (by assumption) | exact Sl.back (by first | assumption | exact Ext.drew' (by assumption) | exact Ext.undrew (by assumption)) (by first | assumption | exact Own.sl (by assumption) | exact Sl.back (by first | assumption | exact Ext.drew' (by assumption) | exact Ext.undrew (by assumption)) (by first | assumption | exact Own.sl (by assumption) | exact Sl.back (by first | assumption | exact Ext.drew' (by assumption) | exact Ext.undrew (by assumption)) (by first | assumption | exact Own.sl (by assumption) | exact Sl.back (by first | assumption | exact Ext.drew' (by assumption) | exact Ext.undrew (by assumption)) (by first | assumption | exact Own.sl (by assumption) | exact Sl.back (by first | assumption | exact Ext.drew' (by assumption) | exact Ext.undrew (by assumption)) (by first | assumption | exact Own.sl (by assumption))))))))) (by first | rw [List.length_map] | rfl) ?_; try (conv in (Act.put _ _ _) => simp only [Act.put, List.setIfInBounds_toArray, List.set_cons_succ, List.set_cons_zero]))
    | ((with_reducible refine g_at (d := 26) ?_); refine wpl_len rfl Try.underlying115 (by first | assumption | exact Own.sl (by assumption) | exact Sl.back (by first | assumption | exact Ext.drew' (by assumption) | exact Ext.undrew (by assumption)) (by first | assumption | exact Own.sl (by assumption) | exact Sl.back (by first | assumption | exact Ext.drew' (by assumption) | exact Ext.undrew (by assumption)) (by first | assumption | exact Own.sl (by assumption) | exact Sl.back (by first | assumption | exact Ext.drew' (by assumption) | exact Ext.undrew (by assumption)) (by first | assumption | exact Own.sl (by assumption) | exact Sl.back (by first | assumption | exact Ext.drew' (by assumption) | exact Ext.undrew (by assumption)) (by first | assumption | exact Own.sl (by assumption) | exact Sl.back (by first | assumption | exact Ext.drew' (by assumption) | exact Ext.undrew (by assumption)) (by first | assumption | exact Own.sl (by assumption) | exact Sl.back (by first | assumption | exact Ext.drew' (by assumption) | exact Ext.undrew (by assumption)) (by first | assumption | exact Own.sl (by assumption) | exact Sl.back (by first | assumption | exact Ext.drew' (by assumption) | exact Ext.undrew (by assumption)) (by first | assumption | exact Own.sl (by assumption))))))))) (by first | rw [List.length_map] | rfl) ?_; try (conv in (Act.put _ _ _) => simp only [Act.put, List.setIfInBounds_toArray, List.set_cons_succ, List.set_cons_zero])))
   go_roundw
   case rel => exact ⟨k + 1, by omega, by go_num, by rw [HF.out]; go_num, hx⟩
   case measure => simp [RowKit.intOf]; omega
  ·obtain rfl : k = ls.length := by omega
   rw [List.take_length]
   have HB := Lib.hid hb
   generalize hS : ls.flatten.length = S at *
   have HS := Lib.hid hS
   clear hS
   go_wp2_with (first
    | ((with_reducible refine g_at (d := 24) ?_); refine wpl_call Try.func82 (by kernel_rfl) (by kernel_rfl) rfl (grow_cW wr S (Nat.le_trans HB.out (by decide))) ?_; rintro v24 w24 ⟨hx24, h24⟩; try (conv in (Act.put _ _ _) => simp only [Act.put, List.setIfInBounds_toArray, List.set_cons_succ, List.set_cons_zero]))
    | ((with_reducible refine g_at (d := 26) ?_); refine wpl_len rfl Try.underlying115 (hv.ext (hx.tr hx24)) (by first | rw [List.length_map] | rfl) ?_; try (conv in (Act.put _ _ _) => simp only [Act.put, List.setIfInBounds_toArray, List.set_cons_succ, List.set_cons_zero]))
    | ((with_reducible refine g_at (d := 10) ?_); refine wpl_len rfl Try.underlying115 (by first | assumption | exact Own.sl (by assumption) | exact Sl.back (by first | assumption | exact Ext.drew' (by assumption) | exact Ext.undrew (by assumption)) (by first | assumption | exact Own.sl (by assumption) | exact Sl.back (by first | assumption | exact Ext.drew' (by assumption) | exact Ext.undrew (by assumption)) (by first | assumption | exact Own.sl (by assumption) | exact Sl.back (by first | assumption | exact Ext.drew' (by assumption) | exact Ext.undrew (by assumption)) (by first | assumption | exact Own.sl (by assumption) | exact Sl.back (by first | assumption | exact Ext.drew' (by assumption) | exact Ext.undrew (by assumption)) (by first | assumption | exact Own.sl (by assumption) | exact Sl.back (by first | assumption | exact Ext.drew' (by assumption) | exact Ext.undrew (by assumption)) (by first | assumption | exact Own.sl (by assumption) | exact Sl.back (by first | assumption | exact Ext.drew' (by assumption) | exact Ext.undrew (by assumption)) (by first | assumption | exact Own.sl (by assumption) | exact Sl.back (by first | assumption | exact Ext.drew' (by assumption) | exact Ext.undrew (by assumption)) (by first | assumption | exact Own.sl (by assumption))))))))) (by first | rw [List.length_map] | rfl) ?_; try (conv in (Act.put _ _ _) => simp only [Act.put, List.setIfInBounds_toArray, List.set_cons_succ, List.set_cons_zero]))
    | ((with_reducible refine g_at (d := 17) ?_); refine wpl_len rfl Try.underlying60 (by first | assumption | exact Own.sl (by assumption) | exact Sl.back (by first | assumption | exact Ext.drew' (by assumption) | exact Ext.undrew (by assumption)) (by first | assumption | exact Own.sl (by assumption) | exact Sl.back (by first | assumption | exact Ext.drew' (by assumption) | exact Ext.undrew (by assumption)) (by first | assumption | exact Own.sl (by assumption) | exact Sl.back (by first | assumption | exact Ext.drew' (by assumption) | exact Ext.undrew (by assumption)) (by first | assumption | exact Own.sl (by assumption) | exact Sl.back (by first | assumption | exact Ext.drew' (by assumption) | exact Ext.undrew (by assumption)) (by first | assumption | exact Own.sl (by assumption) | exact Sl.back (by first | assumption | exact Ext.drew' (by assumption) | exact Ext.undrew (by assumption)) (by first | assumption | exact Own.sl (by assumption) | exact Sl.back (by first | assumption | exact Ext.drew' (by assumption) | exact Ext.undrew (by assumption)) (by first | assumption | exact Own.sl (by assumption) | exact Sl.back (by first | assumption | exact Ext.drew' (by assumption) | exact Ext.undrew (by assumption)) (by first | assumption | exact Own.sl (by assumption))))))))) (by first | rw [List.length_map] | rfl) ?_; try (conv in (Act.put _ _ _) => simp only [Act.put, List.setIfInBounds_toArray, List.set_cons_succ, List.set_cons_zero])))
   rw [hvl]
   have hxx := hx.tr hx24
   have ho0 := h24.down hx.size
   clear hx hx24 h24
   go_loopw [6, 27] (fun o i wq => ∃ k : Nat, k ≤ ls.length ∧ i = .int .i64 k ∧ Own wq w.heap.size 89 o ((ls.take k).flatten.map w32) ∧ Ext w wq) (fun _ i _ => ls.length - (RowKit.intOf i).toNat)
   case atStart => exact ⟨0, Nat.zero_le _, rfl, by simpa using ho0, hxx⟩
   case round =>
    obtain ⟨k, hk, rfl, ho, hx⟩ := hrel
    by_cases hlt : k < ls.length
    ·obtain ⟨Bi, hsi⟩ := hvs.2 k hlt
     have hf := flat_takeW ls k hlt
     have hle := flat_leW ls (k + 1)
     generalize ls.getD k [] = x at *
     rw [hf, List.length_append] at hle
     have HF := Lib.hid hf
     clear hf
     generalize (ls.take k).flatten = X at *
     have hb9 : (List.map w32 X).length + (List.map w32 x).length ≤ 1000000000 := by rw [List.length_map, List.length_map]; have h1 := HS.out; have h2 := HB.out; omega
     go_wp2_with (first
      | ((with_reducible refine g_at (d := 29) ?_); refine wpl_index rfl rfl Try.underlying115 hi60 hs60 (hv.ext hx) rfl (vgetW hvl hlt) ?_; intro ad29 hb29 hc29; try (conv in (Act.put _ _ _) => simp only [Act.put, List.setIfInBounds_toArray, List.set_cons_succ, List.set_cons_zero]))
      | ((with_reducible refine g_at (d := 30) ?_); refine wpl_load1 rfl Try.underlying60 rfl hc29 ?_; try (conv in (Act.put _ _ _) => simp only [Act.put, List.setIfInBounds_toArray, List.set_cons_succ, List.set_cons_zero]))
      | ((with_reducible refine g_at (d := 33) ?_); refine wpl_append (v := u6) rfl rfl Try.underlying60 hi89 hz89 hs89 hb89 rfl ho (hsi.ext hx) (w32_one x) (by first | omega | (simp <;> omega)) (by omega) hx.size ?_; intro v33 w33 h33 hg33 ha33 hx33; try (conv in (Act.put _ _ _) => simp only [Act.put, List.setIfInBounds_toArray, List.set_cons_succ, List.set_cons_zero]))
      | ((with_reducible refine g_at (d := 10) ?_); refine wpl_len rfl Try.underlying115 (by first | assumption | exact Own.sl (by assumption) | exact Sl.back (by first | assumption | exact Ext.drew' (by assumption) | exact Ext.undrew (by assumption)) (by first | assumption | exact Own.sl (by assumption) | exact Sl.back (by first | assumption | exact Ext.drew' (by assumption) | exact Ext.undrew (by assumption)) (by first | assumption | exact Own.sl (by assumption) | exact Sl.back (by first | assumption | exact Ext.drew' (by assumption) | exact Ext.undrew (by assumption)) (by first | assumption | exact Own.sl (by assumption) | exact Sl.back (by first | assumption | exact Ext.drew' (by assumption) | exact Ext.undrew (by assumption)) (by first | assumption | exact Own.sl (by assumption) | exact Sl.back (by first | assumption | exact Ext.drew' (by assumption) | exact Ext.undrew (by assumption)) (by first | assumption | exact Own.sl (by assumption) | exact Sl.back (by first | assumption | exact Ext.drew' (by assumption) | exact Ext.undrew (by assumption)) (by first | assumption | exact Own.sl (by assumption) | exact Sl.back (by first | assumption | exact Ext.drew' (by assumption) | exact Ext.undrew (by assumption)) (by first | assumption | exact Own.sl (by assumption))))))))) (by first | rw [List.length_map] | rfl) ?_; try (conv in (Act.put _ _ _) => simp only [Act.put, List.setIfInBounds_toArray, List.set_cons_succ, List.set_cons_zero]))
      | ((with_reducible refine g_at (d := 17) ?_); refine wpl_len rfl Try.underlying60 (by first | assumption | exact Own.sl (by assumption) | exact Sl.back (by first | assumption | exact Ext.drew' (by assumption) | exact Ext.undrew (by assumption)) (by first | assumption | exact Own.sl (by assumption) | exact Sl.back (by first | assumption | exact Ext.drew' (by assumption) | exact Ext.undrew (by assumption)) (by first | assumption | exact Own.sl (by assumption) | exact Sl.back (by first | assumption | exact Ext.drew' (by assumption) | exact Ext.undrew (by assumption)) (by first | assumption | exact Own.sl (by assumption) | exact Sl.back (by first | assumption | exact Ext.drew' (by assumption) | exact Ext.undrew (by assumption)) (by first | assumption | exact Own.sl (by assumption) | exact Sl.back (by first | assumption | exact Ext.drew' (by assumption) | exact Ext.undrew (by assumption)) (by first | assumption | exact Own.sl (by assumption) | exact Sl.back (by first | assumption | exact Ext.drew' (by assumption) | exact Ext.undrew (by assumption)) (by first | assumption | exact Own.sl (by assumption) | exact Sl.back (by first | assumption | exact Ext.drew' (by assumption) | exact Ext.undrew (by assumption)) (by first | assumption | exact Own.sl (by assumption))))))))) (by first | rw [List.length_map] | rfl) ?_; try (conv in (Act.put _ _ _) => simp only [Act.put, List.setIfInBounds_toArray, List.set_cons_succ, List.set_cons_zero]))
      | ((with_reducible refine g_at (d := 26) ?_); refine wpl_len rfl Try.underlying115 (by first | assumption | exact Own.sl (by assumption) | exact Sl.back (by first | assumption | exact Ext.drew' (by assumption) | exact Ext.undrew (by assumption)) (by first | assumption | exact Own.sl (by assumption) | exact Sl.back (by first | assumption | exact Ext.drew' (by assumption) | exact Ext.undrew (by assumption)) (by first | assumption | exact Own.sl (by assumption) | exact Sl.back (by first | assumption | exact Ext.drew' (by assumption) | exact Ext.undrew (by assumption)) (by first | assumption | exact Own.sl (by assumption) | exact Sl.back (by first | assumption | exact Ext.drew' (by assumption) | exact Ext.undrew (by assumption)) (by first | assumption | exact Own.sl (by assumption) | exact Sl.back (by first | assumption | exact Ext.drew' (by assumption) | exact Ext.undrew (by assumption)) (by first | assumption | exact Own.sl (by assumption) | exact Sl.back (by first | assumption | exact Ext.drew' (by assumption) | exact Ext.undrew (by assumption)) (by first | assumption | exact Own.sl (by assumption) | exact Sl.back (by first | assumption | exact Ext.drew' (by assumption) | exact Ext.undrew (by assumption)) (by first | assumption | exact Own.sl (by assumption))))))))) (by first | rw [List.length_map] | rfl) ?_; try (conv in (Act.put _ _ _) => simp only [Act.put, List.setIfInBounds_toArray, List.set_cons_succ, List.set_cons_zero])))
     go_roundw
     case rel => exact ⟨k + 1, by omega, by go_num, by rw [HF.out, List.map_append]; exact h33, hx.trans hx33⟩
     case measure => simp [RowKit.intOf]; omega
    ·obtain rfl : k = ls.length := by omega
     rw [List.take_length] at ho
     go_wp2
     go_ret
     exact ⟨_, rfl, hx, ho⟩
end Go.Proofs.Ytliilihbnhdemaa
end
section
namespace Go.Proofs.Ytliilihbnhdemaa
open Go.RowKit Go.Ch Go.Sx
theorem slr_slW {w : World} {v : Value} {n : Nat} {vs : List Value} (h : SlR w v n 1 vs) : Sl w w.heap.size v vs := by
 obtain ⟨hl, A, c, rfl, h1, h2, h3, h4⟩ := h
 have hn : vs.length = n := by omega
 subst hn
 refine ⟨Nat.le_refl _, A, c, rfl, h1, h2, h3, fun ad had j u hu => ⟨?_, h4 ad had j u hu⟩⟩
 have := World.block_lt_of_cell? _ _ (h4 ad had j u hu)
 rwa [block_add] at this
def aLsW (H : Hp) : List Cl → Option (List (List UInt32))
 | [] => some []
 | c :: cs => (match aW H (.c c), aLsW H cs with | some l, some ls => some (l :: ls) | _, _ => none)
theorem aLs_okW {ρ : Pls} {w : World} {H : Hp} (hp : HpR ρ w H) : ∀ {cs : List Cl} {ls : List (List UInt32)} {vs : List Value}, aLsW H cs = some ls → F2 (clR ρ) cs vs → SlSW w vs ls
 | [], ls, vs, h, hv => by
  obtain rfl := F2.unnil hv
  simp only [aLsW, Option.some.injEq] at h
  subst h
  exact ⟨rfl, fun i hi => by simp at hi⟩
 | c :: cs, ls, vs, h, hv => by
  obtain ⟨v, vs', rfl, hc, hvs⟩ := F2.uncons hv
  simp only [aLsW] at h
  split at h
  ·rename_i l ls' hl hls
   injection h with h; subst h
   obtain ⟨h1, h2⟩ := aLs_okW hp hls hvs
   obtain ⟨p, hI⟩ := aW_ok hp hl hc 89
   have hs := hI.sl (fun _ _ h => csR_w.1 h) (by simp)
   refine ⟨by simp [h1], fun i hi => ?_⟩
   cases i with
   | zero => exact ⟨_, hs⟩
   | succ i => exact h2 i (by simpa using hi)
  ·cases h
def cat_ctW : Ct := fun args H => match args with
 | [.c x] => (match vcs H x with
  | some (sz, _, .c cells) => (match Nat.beq sz 1, aLsW H cells with
   | true, some ls => some ([ls.length ≤ 1000000, ls.flatten.length ≤ 1000000000], .c (.wh H.length), [⟨.row, 89, 1, ls.flatten.length, .w ls.flatten⟩])
   | _, _ => none)
  | _ => none)
 | _ => none
theorem cat_hW : FnOk Try.prog Tr 67 cat_ctW := by
 refine ⟨fun args H g av objs hF hg ρ w vals hG hp ha => ?_, _, Try.func67, by kernel_rfl, by kernel_rfl⟩
 unfold cat_ctW at hF
 split at hF
 ·rename_i x
  split at hF
  ·rename_i sz n cells hx
   split at hF
   ·rename_i ls hsz hls
    simp only [Option.some.injEq, Prod.mk.injEq] at hF
    obtain ⟨rfl, rfl, rfl⟩ := hF
    obtain ⟨v, vals, rfl, k, ha⟩ := F2.inv ha
    obtain rfl := F2.inv0 ha
    have e1 := Nat.eq_of_beq_eq_true hsz
    subst e1
    obtain ⟨vs, hc, hS⟩ := vcs_ok hp hx k
    obtain ⟨g1, g2⟩ : ls.length ≤ 1000000 ∧ ls.flatten.length ≤ 1000000000 := by simpa [allP] using hg
    exact calls_mono (concat_cW w _ v vs ls (slr_slW hS) (aLs_okW hp hls hc) g1 g2) fun v w' ⟨hx, hv⟩ => ⟨hx, left_row hv (fun _ => csR_w.2 rfl) (by rw [List.length_map])⟩
   ·cases hF
  ·cases hF
 ·cases hF
end Go.Proofs.Ytliilihbnhdemaa
end
section
namespace Go.Proofs.Ytliilihbnhdemaa
open Go.RowKit Go.Ch Go.Sx
def tabL_po : List (TypeId × Ti) := [(5, ⟨.int .u8, 1, 1, true, some [.int .u8]⟩),
 (9, ⟨.str, 1, 16, true, some [.str]⟩),
 (22, ⟨.sl 5, 1, 24, false, some [.nils]⟩),
 (28, ⟨.ifc, 1, 16, true, some [.ifc]⟩),
 (31, ⟨.int .i64, 1, 8, true, some [.int .i64]⟩),
 (60, ⟨.sl 89, 1, 24, false, some [.nils]⟩),
 (89, ⟨.int .u32, 1, 4, true, some [.int .u32]⟩),
 (102, ⟨.int .u64, 1, 8, true, some [.int .u64]⟩),
 (115, ⟨.sl 60, 1, 24, false, some [.nils]⟩)]
def tab_po : Tab := fun t => (tabL_po).lookup t
theorem tabE_po : (tabL_po.map fun p => tiOf Try.prog p.1) = tabL_po.map fun p => some p.2 := by kernel_rfl
theorem tabO_po : TabOk Try.prog tab_po := tab_of tabE_po
def pReadOid_j1 (n : Nat) (a0 : List UInt8) (i12_1 : Int) (k_l1 : (List UInt32) → UInt64 → Bool → Int → Option (List UInt32 × Option Int)) (w4_7 : List UInt32) (y5_7 : UInt64) (p6_7 : Bool) : Option (List UInt32 × Option Int) :=
 gd (okI .i64 (i12_1 + 1)) <|
 k_l1 w4_7 y5_7 p6_7 (i12_1 + 1)
def pReadOid_l1 (n : Nat) (a0 : List UInt8) : Nat → List UInt32 → UInt64 → Bool → Int → Option (List UInt32 × Option Int)
 | 0, _, _, _, _ => none
 | fu_l1 + 1, w4_5, y5_5, p6_5, i12_1 =>
  bif (decide (i12_1 < ((a0.length : Nat) : Int))) then
   gd (0 ≤ i12_1) <|
   gd (i12_1 < ((a0.length : Nat) : Int)) <|
   bif (!p6_5) then
    bif ((a0.getD i12_1.toNat 0) == 128) then
     some ([], (some 2))
    else
     bif (decide ((16 : Int) < ((w4_5.length : Nat) : Int))) then
      some ([], (some 2))
     else
      gd (0 ≤ (7 : Int)) <|
      bif (decide ((4294967296 : UInt64) ≤ ((shl64 y5_5 7) ||| (((a0.getD i12_1.toNat 0) &&& (127 : UInt8)).toUInt64)))) then
       some ([], (some 2))
      else
       bif (decide ((a0.getD i12_1.toNat 0) < (128 : UInt8))) then
        gd (rmB (w4_5.length + 1) 4) <|
        pReadOid_j1 n a0 i12_1 (pReadOid_l1 n a0 fu_l1) (w4_5 ++ [((shl64 y5_5 7) ||| (((a0.getD i12_1.toNat 0) &&& (127 : UInt8)).toUInt64)).toUInt32]) 0 false
       else
        pReadOid_j1 n a0 i12_1 (pReadOid_l1 n a0 fu_l1) w4_5 ((shl64 y5_5 7) ||| (((a0.getD i12_1.toNat 0) &&& (127 : UInt8)).toUInt64)) true
   else
    bif (decide ((16 : Int) < ((w4_5.length : Nat) : Int))) then
     some ([], (some 2))
    else
     gd (0 ≤ (7 : Int)) <|
     bif (decide ((4294967296 : UInt64) ≤ ((shl64 y5_5 7) ||| (((a0.getD i12_1.toNat 0) &&& (127 : UInt8)).toUInt64)))) then
      some ([], (some 2))
     else
      bif (decide ((a0.getD i12_1.toNat 0) < (128 : UInt8))) then
       gd (rmB (w4_5.length + 1) 4) <|
       pReadOid_j1 n a0 i12_1 (pReadOid_l1 n a0 fu_l1) (w4_5 ++ [((shl64 y5_5 7) ||| (((a0.getD i12_1.toNat 0) &&& (127 : UInt8)).toUInt64)).toUInt32]) 0 false
      else
       pReadOid_j1 n a0 i12_1 (pReadOid_l1 n a0 fu_l1) w4_5 ((shl64 y5_5 7) ||| (((a0.getD i12_1.toNat 0) &&& (127 : UInt8)).toUInt64)) true
  else
   bif p6_5 then
    some ([], (some 2))
   else
    bif (((w4_5.length : Nat) : Int) == 0) then
     some ([], (some 2))
    else
     gd (0 ≤ (0 : Int)) <|
     gd ((0 : Int) < ((w4_5.length : Nat) : Int)) <|
     gd ((40 : UInt32) ≠ 0) <|
     gd (0 ≤ (0 : Int)) <|
     gd ((0 : Int) < ((w4_5.length : Nat) : Int)) <|
     gd (0 ≤ (1 : Int)) <|
     gd ((1 : Int) ≤ ((w4_5.length : Nat) : Int)) <|
     gd ((([[(if (2 : UInt32) < ((w4_5.getD 0 0) / (40 : UInt32)) then (2 : UInt32) else ((w4_5.getD 0 0) / (40 : UInt32))), ((w4_5.getD 0 0) - ((40 : UInt32) * (if (2 : UInt32) < ((w4_5.getD 0 0) / (40 : UInt32)) then (2 : UInt32) else ((w4_5.getD 0 0) / (40 : UInt32)))))], ((w4_5.drop 1).take (w4_5.length - 1))] : List (List UInt32))).length ≤ 1000000) <|
     gd ((([[(if (2 : UInt32) < ((w4_5.getD 0 0) / (40 : UInt32)) then (2 : UInt32) else ((w4_5.getD 0 0) / (40 : UInt32))), ((w4_5.getD 0 0) - ((40 : UInt32) * (if (2 : UInt32) < ((w4_5.getD 0 0) / (40 : UInt32)) then (2 : UInt32) else ((w4_5.getD 0 0) / (40 : UInt32)))))], ((w4_5.drop 1).take (w4_5.length - 1))] : List (List UInt32))).flatten.length ≤ 1000000000) <|
     (pident n ((([[(if (2 : UInt32) < ((w4_5.getD 0 0) / (40 : UInt32)) then (2 : UInt32) else ((w4_5.getD 0 0) / (40 : UInt32))), ((w4_5.getD 0 0) - ((40 : UInt32) * (if (2 : UInt32) < ((w4_5.getD 0 0) / (40 : UInt32)) then (2 : UInt32) else ((w4_5.getD 0 0) / (40 : UInt32)))))], ((w4_5.drop 1).take (w4_5.length - 1))] : List (List UInt32))).flatten)).bind fun r70_1 =>
     bif (!r70_1) then
      some ([], (some 2))
     else
      some (((([[(if (2 : UInt32) < ((w4_5.getD 0 0) / (40 : UInt32)) then (2 : UInt32) else ((w4_5.getD 0 0) / (40 : UInt32))), ((w4_5.getD 0 0) - ((40 : UInt32) * (if (2 : UInt32) < ((w4_5.getD 0 0) / (40 : UInt32)) then (2 : UInt32) else ((w4_5.getD 0 0) / (40 : UInt32)))))], ((w4_5.drop 1).take (w4_5.length - 1))] : List (List UInt32))).flatten), none)
def pReadOid (n : Nat) (a0 : List UInt8) : Option (List UInt32 × Option Int) :=
 pReadOid_l1 n a0 n [] 0 false 0
def rOid (n : Nat) (a0 : List UInt32) : Option (Bool) :=
 bif (decide (((a0.length : Nat) : Int) < (2 : Int))) then
 some false
 else
 bif (decide ((16 : Int) < ((a0.length : Nat) : Int))) then
 some false
 else
 gd (0 ≤ (0 : Int)) <|
 gd ((0 : Int) < ((a0.length : Nat) : Int)) <|
 bif (decide ((2 : UInt32) < (a0.getD 0 0))) then
 some false
 else
 gd (0 ≤ (0 : Int)) <|
 gd ((0 : Int) < ((a0.length : Nat) : Int)) <|
 bif (decide ((a0.getD 0 0) < (2 : UInt32))) then
 gd (0 ≤ (1 : Int)) <|
 gd ((1 : Int) < ((a0.length : Nat) : Int)) <|
 some (decide ((a0.getD 1 0) < (40 : UInt32)))
 else
 gd (0 ≤ (1 : Int)) <|
 gd ((1 : Int) < ((a0.length : Nat) : Int)) <|
 some (decide ((a0.getD 1 0) ≤ (4294967215 : UInt32)))
def rgroup : Nat → UInt32 → Option (List UInt8)
 | 0, _ => none
 | n + 1, a0 =>
  bif (decide (a0 < (128 : UInt32))) then
   some [a0.toUInt8]
  else
   gd ((128 : UInt32) ≠ 0) <|
   (rgroup n (a0 / (128 : UInt32))).bind fun r11 =>
   gd (okI .i64 (((r11.length : Nat) : Int) - 1)) <|
   gd (okI .i64 (((r11.length : Nat) : Int) - 1)) <|
   gd (0 ≤ (((r11.length : Nat) : Int) - 1)) <|
   gd ((((r11.length : Nat) : Int) - 1) < ((r11.length : Nat) : Int)) <|
   gd (0 ≤ (((r11.length : Nat) : Int) - 1)) <|
   gd ((((r11.length : Nat) : Int) - 1) < ((r11.length : Nat) : Int)) <|
   gd ((128 : UInt32) ≠ 0) <|
   gd (rmB (r11.length + 1) 1) <|
   some ((r11.set ((((r11.length : Nat) : Int) - 1).toNat) ((r11.getD ((((r11.length : Nat) : Int) - 1).toNat) 0) + (128 : UInt8))) ++ [(a0 % (128 : UInt32)).toUInt8])
def rOidBody_l1 (n : Nat) (a0 : List UInt32) : Nat → List UInt8 → Int → Option (List UInt8)
 | 0, _, _ => none
 | fu_l1 + 1, l3_2, i4_2 =>
  bif (decide (i4_2 < ((a0.length : Nat) : Int))) then
   gd (0 ≤ i4_2) <|
   gd (i4_2 < ((a0.length : Nat) : Int)) <|
   (rgroup n (a0.getD i4_2.toNat 0)).bind fun r25_3 =>
   gd (rmB (l3_2.length + r25_3.length) 1) <|
   gd (okI .i64 (i4_2 + 1)) <|
   (rOidBody_l1 n a0 fu_l1) (l3_2 ++ r25_3) (i4_2 + 1)
  else
   some l3_2
def rOidBody (n : Nat) (a0 : List UInt32) : Option (List UInt8) :=
 gd (0 ≤ (0 : Int)) <|
 gd ((0 : Int) < ((a0.length : Nat) : Int)) <|
 gd (0 ≤ (1 : Int)) <|
 gd ((1 : Int) < ((a0.length : Nat) : Int)) <|
 (rgroup n (((40 : UInt32) * (a0.getD 0 0)) + (a0.getD 1 0))).bind fun r13 =>
 rOidBody_l1 n a0 n r13 2
def rReadOid_j1 (n : Nat) (a0 : List UInt8) (i6_1 : Int) (k_l1 : (List UInt32) → UInt32 → Int → Option (List UInt32 × Bool)) (w4_7 : List UInt32) (x5_7 : UInt32) : Option (List UInt32 × Bool) :=
 gd (okI .i64 (i6_1 + 1)) <|
 k_l1 w4_7 x5_7 (i6_1 + 1)
def rReadOid_j2 (n : Nat) (a0 : List UInt8) (w4_5 : List UInt32) (x7_1 : UInt32) : Option (List UInt32 × Bool) :=
 gd (0 ≤ (0 : Int)) <|
 gd ((0 : Int) < ((w4_5.length : Nat) : Int)) <|
 gd (0 ≤ (1 : Int)) <|
 gd ((1 : Int) ≤ ((w4_5.length : Nat) : Int)) <|
 gd (rmB (2 + (w4_5.length - 1)) 4) <|
 (rOid n ([x7_1, ((w4_5.getD 0 0) - ((40 : UInt32) * x7_1))] ++ ((w4_5.drop 1).take (w4_5.length - 1)))).bind fun r58_1 =>
 bif (!r58_1) then
  some ([], false)
 else
  (rOidBody n ([x7_1, ((w4_5.getD 0 0) - ((40 : UInt32) * x7_1))] ++ ((w4_5.drop 1).take (w4_5.length - 1)))).bind fun r63_1 =>
  bif (r63_1 != a0) then
   some ([], false)
  else
   some (([x7_1, ((w4_5.getD 0 0) - ((40 : UInt32) * x7_1))] ++ ((w4_5.drop 1).take (w4_5.length - 1))), true)
def rReadOid_l1 (n : Nat) (a0 : List UInt8) : Nat → List UInt32 → UInt32 → Int → Option (List UInt32 × Bool)
 | 0, _, _, _ => none
 | fu_l1 + 1, w4_5, x5_5, i6_1 =>
 bif (decide (i6_1 < ((a0.length : Nat) : Int))) then
 gd (0 ≤ i6_1) <|
 gd (i6_1 < ((a0.length : Nat) : Int)) <|
 gd ((128 : UInt8) ≠ 0) <|
 gd (0 ≤ i6_1) <|
 gd (i6_1 < ((a0.length : Nat) : Int)) <|
 bif (decide ((a0.getD i6_1.toNat 0) < (128 : UInt8))) then
 gd (rmB (w4_5.length + 1) 4) <|
 rReadOid_j1 n a0 i6_1 (rReadOid_l1 n a0 fu_l1) (w4_5 ++ [((x5_5 * (128 : UInt32)) + (((a0.getD i6_1.toNat 0) % (128 : UInt8)).toUInt32))]) 0
 else
 rReadOid_j1 n a0 i6_1 (rReadOid_l1 n a0 fu_l1) w4_5 ((x5_5 * (128 : UInt32)) + (((a0.getD i6_1.toNat 0) % (128 : UInt8)).toUInt32))
 else
 bif (((w4_5.length : Nat) : Int) == 0) then
 some ([], false)
 else
 gd (0 ≤ (0 : Int)) <|
 gd ((0 : Int) < ((w4_5.length : Nat) : Int)) <|
 gd ((40 : UInt32) ≠ 0) <|
 bif (decide ((2 : UInt32) < ((w4_5.getD 0 0) / (40 : UInt32)))) then
 rReadOid_j2 n a0 w4_5 2
 else
 rReadOid_j2 n a0 w4_5 ((w4_5.getD 0 0) / (40 : UInt32))
def rReadOid (n : Nat) (a0 : List UInt8) : Option (List UInt32 × Bool) :=
 bif (decide ((100 : Int) < ((a0.length : Nat) : Int))) then
 some ([], false)
 else
 rReadOid_l1 n a0 n [] 0 0
def lsame_l1 (n : Nat) (a0 : List UInt32) (a1 : List UInt32) : Nat → Int → Option (Bool)
 | 0, _ => none
 | fu_l1 + 1, i5_2 =>
 bif (decide (i5_2 < ((a0.length : Nat) : Int))) then
 gd (0 ≤ i5_2) <|
 gd (i5_2 < ((a0.length : Nat) : Int)) <|
 gd (0 ≤ i5_2) <|
 gd (i5_2 < ((a1.length : Nat) : Int)) <|
 bif ((a0.getD i5_2.toNat 0) != (a1.getD i5_2.toNat 0)) then
 some false
 else
 gd (okI .i64 (i5_2 + 1)) <|
 (lsame_l1 n a0 a1 fu_l1) (i5_2 + 1)
 else
 some true
def lsame (n : Nat) (a0 : List UInt32) (a1 : List UInt32) : Option (Bool) :=
 bif (((a0.length : Nat) : Int) != ((a1.length : Nat) : Int)) then
 some false
 else
 lsame_l1 n a0 a1 n 0
def lOids (n : Nat) (a0 : List UInt32) (a1 : List UInt8) : Option (Bool) :=
 (pup n).bind fun r13 =>
 bif (decide ((50 : Int) < ((a0.length : Nat) : Int))) then
  some r13
 else
  bif (decide ((200 : Int) < ((a1.length : Nat) : Int))) then
   some r13
  else
   (pOid n a0).bind fun r25 =>
   (rOid n a0).bind fun r29 =>
   bif (!r29) then
    gd (¬((r25.2 : Option Int) = none ∧ ((some 1) : Option Int) = none)) <|
    bif (!(r25.2 == (some 1))) then
     some false
    else
     bif (((r25.1.length : Nat) : Int) != 0) then
      some false
     else
      bif r29 then
       bif (!((r25.2).isNone)) then
        some false
       else
        (rOidBody n a0).bind fun r51 =>
        bif (r25.1 != r51) then
         some false
        else
         (pReadOid n a1).bind fun r59 =>
         (rReadOid n a1).bind fun r64 =>
         bif (!r64.2) then
          bif r13 then
           gd (¬((r59.2 : Option Int) = none ∧ ((some 2) : Option Int) = none)) <|
           bif (r59.2 == (some 2)) then
            some (((r59.1.length : Nat) : Int) == 0)
           else
            some false
          else
           some false
         else
          bif r13 then
           bif ((r59.2).isNone) then
            (lsame n r59.1 r64.1).bind fun r88 =>
            some r88
           else
            some false
          else
           some false
      else
       (pReadOid n a1).bind fun r59 =>
       (rReadOid n a1).bind fun r64 =>
       bif (!r64.2) then
        bif r13 then
         gd (¬((r59.2 : Option Int) = none ∧ ((some 2) : Option Int) = none)) <|
         bif (r59.2 == (some 2)) then
          some (((r59.1.length : Nat) : Int) == 0)
         else
          some false
        else
         some false
       else
        bif r13 then
         bif ((r59.2).isNone) then
          (lsame n r59.1 r64.1).bind fun r88 =>
          some r88
         else
          some false
        else
         some false
   else
    bif r29 then
     bif (!((r25.2).isNone)) then
      some false
     else
      (rOidBody n a0).bind fun r51 =>
      bif (r25.1 != r51) then
       some false
      else
       (pReadOid n a1).bind fun r59 =>
       (rReadOid n a1).bind fun r64 =>
       bif (!r64.2) then
        bif r13 then
         gd (¬((r59.2 : Option Int) = none ∧ ((some 2) : Option Int) = none)) <|
         bif (r59.2 == (some 2)) then
          some (((r59.1.length : Nat) : Int) == 0)
         else
          some false
        else
         some false
       else
        bif r13 then
         bif ((r59.2).isNone) then
          (lsame n r59.1 r64.1).bind fun r88 =>
          some r88
         else
          some false
        else
         some false
    else
     (pReadOid n a1).bind fun r59 =>
     (rReadOid n a1).bind fun r64 =>
     bif (!r64.2) then
      bif r13 then
       gd (¬((r59.2 : Option Int) = none ∧ ((some 2) : Option Int) = none)) <|
       bif (r59.2 == (some 2)) then
        some (((r59.1.length : Nat) : Int) == 0)
       else
        some false
      else
       some false
     else
      bif r13 then
       bif ((r59.2).isNone) then
        (lsame n r59.1 r64.1).bind fun r88 =>
        some r88
       else
        some false
      else
       some false
def pReadOid_j1_E (a0 : List UInt8) (i12_1 : Int) (w4_7 : List UInt32) (y5_7 : UInt64) (p6_7 : Bool) : S := ⟨[(4, kH 0), (5, kY y5_7), (6, kB p6_7), (10, kH 1), (11, kI ((a0.length : Nat) : Int)), (12, kI i12_1)], [], [nw 89 w4_7, ob 5 a0]⟩
abbrev pReadOid_j1_P (n : Nat) (a0 : List UInt8) (i12_1 : Int) (k_l1 : (List UInt32) → UInt64 → Bool → Int → Option (List UInt32 × Option Int)) (r : List UInt32 × Option Int) : S → Prop := fun s => ∃ (w4_7 : List UInt32), ∃ (y5_7 : UInt64), ∃ (p6_7 : Bool), s = pReadOid_j1_E a0 i12_1 w4_7 y5_7 p6_7 ∧ pReadOid_j1 n a0 i12_1 k_l1 w4_7 y5_7 p6_7 = some r
def pReadOid_l1_E (a0 : List UInt8) (w4_5 : List UInt32) (y5_5 : UInt64) (p6_5 : Bool) (i12_1 : Int) : S := ⟨[(4, kH 0), (5, kY y5_5), (6, kB p6_5), (10, kH 1), (11, kI ((a0.length : Nat) : Int)), (12, kI i12_1)], [], [nw 89 w4_5, ob 5 a0]⟩
abbrev pReadOid_l1_P (n : Nat) (a0 : List UInt8) (r : List UInt32 × Option Int) (fu : Nat) : S → Prop := fun s => ∃ (w4_5 : List UInt32), ∃ (y5_5 : UInt64), ∃ (p6_5 : Bool), ∃ (i12_1 : Int), s = pReadOid_l1_E a0 w4_5 y5_5 p6_5 i12_1 ∧ pReadOid_l1 n a0 fu w4_5 y5_5 p6_5 i12_1 = some r
def pReadOid_R (r : List UInt32 × Option Int) : S := ⟨[(2, kH 0), (3, kE 31 r.2)], [], [nw 89 r.1]⟩
def pReadOid_ct (n : Nat) (r : List UInt32 × Option Int) : Ct := ctc (rB 5).rd fun _ l0 => ct0 fun H => ([pReadOid n l0 = some r], shA H.length (.t [.c (.wh 0), .c (.s (.er 31 .i64 r.2))]), shH H.length [nw 89 r.1])
theorem pReadOid_ok (n : Nat) (r : List UInt32 × Option Int) : FnOk Try.prog Tr 35 (pReadOid_ct n r) := by
 refine fnok Try.func35 ?_
 refine HO_c (rB 5) fun l0 _ => HO_0 tabO_po (pReadOid_R r) [.tmp 2, .tmp 3] [0] 74 Try.func35 fun w hG h => ?_
 unfold pReadOid at h
 have hT := tabO_po
 refine Vrs hT [0] ⟨[(0, kH 0)], [], [ob 5 l0]⟩ ?_
 refine Vrs hT [0] ⟨[(0, kH 0), (4, .c (.nils))], [], [ob 5 l0]⟩ ?_
 refine Vrs hT [0] ⟨[(0, kH 0), (4, .c (.nils)), (5, kY 0), (6, kB false)], [], [ob 5 l0]⟩ ?_
 refine W_seq ?_
 refine Vrs hT [0] ⟨[(4, .c (.nils)), (5, kY 0), (6, kB false), (10, kH 0), (11, kI ((l0.length : Nat) : Int)), (12, kI 0)], [], [ob 5 l0]⟩ ?_
 refine W_block ?_
 refine Vc [.nil 4 89 1 (.w [])] [1, 0] (pReadOid_l1_E l0 [] 0 false 0) (W_lp ((pReadOid_l1_P n l0 r)) n ⟨_, _, _, _, rfl, h⟩ ?_)
 rintro fu_l1 _ ⟨w4_5, y5_5, p6_5, i12_1, rfl, h⟩
 cases fu_l1 with
 | zero => cases h
 | succ fu_l1 =>
  refine ⟨fu_l1, rfl, ?_⟩
  rw [pReadOid_l1] at h
  refine Vrs hT [0, 1] ⟨[(4, kH 0), (5, kY y5_5), (6, kB p6_5), (10, kH 1), (11, kI ((l0.length : Nat) : Int)), (12, kI i12_1), (13, kB (decide (i12_1 < ((l0.length : Nat) : Int))))], [], [nw 89 w4_5, ob 5 l0]⟩ ?_
  refine W_seq ?_
  refine Vi ((decide (i12_1 < ((l0.length : Nat) : Int)))) (fun g29 => ?_) (fun g29 => ?_)
  ·replace h := bif_t h g29
   refine Vc [] [0, 1] ⟨[(4, kH 0), (5, kY y5_5), (6, kB p6_5), (10, kH 1), (11, kI ((l0.length : Nat) : Int)), (12, kI i12_1)], [], [nw 89 w4_5, ob 5 l0]⟩ (W_skip ?_)
   refine W_join (pReadOid_j1_P n l0 i12_1 (pReadOid_l1 n l0 fu_l1) r) ?_ ?_
   ·rintro _ ⟨w4_7, y5_7, p6_7, rfl, h⟩
    unfold pReadOid_j1 at h
    obtain ⟨g1, h⟩ := gd_some h
    refine Vg hT fN [] [] [0, 1] (pReadOid_l1_E l0 w4_7 y5_7 p6_7 (i12_1 + 1)) (aP g1 aN) ?_
    exact ⟨_, _, _, _, rfl, h⟩
   ·refine W_block ?_
    obtain ⟨g2, g3, h⟩ := gd2 h
    refine Vgs hT fN [] [] [0, 1] ⟨[(4, kH 0), (5, kY y5_5), (6, kB p6_5), (8, kU (l0.getD i12_1.toNat 0)), (10, kH 1), (11, kI ((l0.length : Nat) : Int)), (12, kI i12_1)], [], [nw 89 w4_5, ob 5 l0]⟩ (aP g2 (aP g3 aN)) ?_
    refine W_seq ?_
    refine W_seq ?_
    rcases Bool.eq_false_or_eq_true (!p6_5) with g4 | g4
    ·replace h := bif_t h g4
     rcases Bool.eq_false_or_eq_true ((l0.getD i12_1.toNat 0) == 128) with g5 | g5
     ·replace h := bif_t h g5
      refine Vg hT fN [(2, true), (6, true)] [] [0, 1] ⟨[(4, kH 0), (5, kY y5_5), (8, kU (l0.getD i12_1.toNat 0)), (10, kH 1), (11, kI ((l0.length : Nat) : Int)), (12, kI i12_1), (26, kB true)], [], [nw 89 w4_5, ob 5 l0]⟩ (aP g4 (aP g5 aN)) ?_
      refine Vi (true) (fun _ => ?_) (fun hb => by cases hb)
      refine Vrs hT [] ⟨[(2, .c (.nils)), (3, kE 31 (some 2))], [], []⟩ ?_
      refine Vc [.nil 2 89 1 (.w [])] [0] (pReadOid_R ([], (some 2))) (W_ret ?_)
      exact ⟨.inl rfl, by cases h; rfl⟩
     ·replace h := bif_f h g5
      refine Vg hT fN [(2, true), (6, false)] [] [0, 1] ⟨[(4, kH 0), (5, kY y5_5), (8, kU (l0.getD i12_1.toNat 0)), (10, kH 1), (11, kI ((l0.length : Nat) : Int)), (12, kI i12_1), (26, kB (decide ((16 : Int) < ((w4_5.length : Nat) : Int))))], [], [nw 89 w4_5, ob 5 l0]⟩ (aP g4 (aP g5 aN)) ?_
      refine Vi ((decide ((16 : Int) < ((w4_5.length : Nat) : Int)))) (fun g10 => ?_) (fun g10 => ?_)
      ·replace h := bif_t h g10
       refine Vrs hT [] ⟨[(2, .c (.nils)), (3, kE 31 (some 2))], [], []⟩ ?_
       refine Vc [.nil 2 89 1 (.w [])] [0] (pReadOid_R ([], (some 2))) (W_ret ?_)
       exact ⟨.inl rfl, by cases h; rfl⟩
      ·replace h := bif_f h g10
       refine W_skip ?_
       obtain ⟨g6, h⟩ := gd_some h
       refine Vgs hT fN [] [] [0, 1] ⟨[(4, kH 0), (5, kY ((shl64 y5_5 7) ||| (((l0.getD i12_1.toNat 0) &&& (127 : UInt8)).toUInt64))), (6, kB true), (8, kU (l0.getD i12_1.toNat 0)), (10, kH 1), (11, kI ((l0.length : Nat) : Int)), (12, kI i12_1)], [], [nw 89 w4_5, ob 5 l0]⟩ (aP g6 aN) ?_
       refine W_seq ?_
       refine Vrs hT [0, 1] ⟨[(4, kH 0), (5, kY ((shl64 y5_5 7) ||| (((l0.getD i12_1.toNat 0) &&& (127 : UInt8)).toUInt64))), (6, kB true), (8, kU (l0.getD i12_1.toNat 0)), (10, kH 1), (11, kI ((l0.length : Nat) : Int)), (12, kI i12_1), (35, kB (decide ((4294967296 : UInt64) ≤ ((shl64 y5_5 7) ||| (((l0.getD i12_1.toNat 0) &&& (127 : UInt8)).toUInt64)))))], [], [nw 89 w4_5, ob 5 l0]⟩ ?_
       refine Vi ((decide ((4294967296 : UInt64) ≤ ((shl64 y5_5 7) ||| (((l0.getD i12_1.toNat 0) &&& (127 : UInt8)).toUInt64))))) (fun g9 => ?_) (fun g9 => ?_)
       ·replace h := bif_t h g9
        refine Vrs hT [] ⟨[(2, .c (.nils)), (3, kE 31 (some 2))], [], []⟩ ?_
        refine Vc [.nil 2 89 1 (.w [])] [0] (pReadOid_R ([], (some 2))) (W_ret ?_)
        exact ⟨.inl rfl, by cases h; rfl⟩
       ·replace h := bif_f h g9
        refine W_skip ?_
        refine Vrs hT [0, 1] ⟨[(4, kH 0), (5, kY ((shl64 y5_5 7) ||| (((l0.getD i12_1.toNat 0) &&& (127 : UInt8)).toUInt64))), (6, kB true), (10, kH 1), (11, kI ((l0.length : Nat) : Int)), (12, kI i12_1), (38, kB (decide ((l0.getD i12_1.toNat 0) < (128 : UInt8))))], [], [nw 89 w4_5, ob 5 l0]⟩ ?_
        refine Vi ((decide ((l0.getD i12_1.toNat 0) < (128 : UInt8)))) (fun g8 => ?_) (fun g8 => ?_)
        ·replace h := bif_t h g8
         obtain ⟨g7, h⟩ := gd_some h
         refine Vg hT fN [] [] [3, 1] (pReadOid_j1_E l0 i12_1 (w4_5 ++ [((shl64 y5_5 7) ||| (((l0.getD i12_1.toNat 0) &&& (127 : UInt8)).toUInt64)).toUInt32]) 0 false) (aP g7 aN) ?_
         exact ⟨_, _, _, rfl, h⟩
        ·replace h := bif_f h g8
         refine Vc [] [0, 1] (pReadOid_j1_E l0 i12_1 w4_5 ((shl64 y5_5 7) ||| (((l0.getD i12_1.toNat 0) &&& (127 : UInt8)).toUInt64)) true) (W_skip ?_)
         exact ⟨_, _, _, rfl, h⟩
    ·replace h := bif_f h g4
     refine Vg hT fN [(2, false)] [] [0, 1] ⟨[(4, kH 0), (5, kY y5_5), (8, kU (l0.getD i12_1.toNat 0)), (10, kH 1), (11, kI ((l0.length : Nat) : Int)), (12, kI i12_1), (26, kB (decide ((16 : Int) < ((w4_5.length : Nat) : Int))))], [], [nw 89 w4_5, ob 5 l0]⟩ (aP g4 aN) ?_
     refine Vi ((decide ((16 : Int) < ((w4_5.length : Nat) : Int)))) (fun g15 => ?_) (fun g15 => ?_)
     ·replace h := bif_t h g15
      refine Vrs hT [] ⟨[(2, .c (.nils)), (3, kE 31 (some 2))], [], []⟩ ?_
      refine Vc [.nil 2 89 1 (.w [])] [0] (pReadOid_R ([], (some 2))) (W_ret ?_)
      exact ⟨.inl rfl, by cases h; rfl⟩
     ·replace h := bif_f h g15
      refine W_skip ?_
      obtain ⟨g11, h⟩ := gd_some h
      refine Vgs hT fN [] [] [0, 1] ⟨[(4, kH 0), (5, kY ((shl64 y5_5 7) ||| (((l0.getD i12_1.toNat 0) &&& (127 : UInt8)).toUInt64))), (6, kB true), (8, kU (l0.getD i12_1.toNat 0)), (10, kH 1), (11, kI ((l0.length : Nat) : Int)), (12, kI i12_1)], [], [nw 89 w4_5, ob 5 l0]⟩ (aP g11 aN) ?_
      refine W_seq ?_
      refine Vrs hT [0, 1] ⟨[(4, kH 0), (5, kY ((shl64 y5_5 7) ||| (((l0.getD i12_1.toNat 0) &&& (127 : UInt8)).toUInt64))), (6, kB true), (8, kU (l0.getD i12_1.toNat 0)), (10, kH 1), (11, kI ((l0.length : Nat) : Int)), (12, kI i12_1), (35, kB (decide ((4294967296 : UInt64) ≤ ((shl64 y5_5 7) ||| (((l0.getD i12_1.toNat 0) &&& (127 : UInt8)).toUInt64)))))], [], [nw 89 w4_5, ob 5 l0]⟩ ?_
      refine Vi ((decide ((4294967296 : UInt64) ≤ ((shl64 y5_5 7) ||| (((l0.getD i12_1.toNat 0) &&& (127 : UInt8)).toUInt64))))) (fun g14 => ?_) (fun g14 => ?_)
      ·replace h := bif_t h g14
       refine Vrs hT [] ⟨[(2, .c (.nils)), (3, kE 31 (some 2))], [], []⟩ ?_
       refine Vc [.nil 2 89 1 (.w [])] [0] (pReadOid_R ([], (some 2))) (W_ret ?_)
       exact ⟨.inl rfl, by cases h; rfl⟩
      ·replace h := bif_f h g14
       refine W_skip ?_
       refine Vrs hT [0, 1] ⟨[(4, kH 0), (5, kY ((shl64 y5_5 7) ||| (((l0.getD i12_1.toNat 0) &&& (127 : UInt8)).toUInt64))), (6, kB true), (10, kH 1), (11, kI ((l0.length : Nat) : Int)), (12, kI i12_1), (38, kB (decide ((l0.getD i12_1.toNat 0) < (128 : UInt8))))], [], [nw 89 w4_5, ob 5 l0]⟩ ?_
       refine Vi ((decide ((l0.getD i12_1.toNat 0) < (128 : UInt8)))) (fun g13 => ?_) (fun g13 => ?_)
       ·replace h := bif_t h g13
        obtain ⟨g12, h⟩ := gd_some h
        refine Vg hT fN [] [] [3, 1] (pReadOid_j1_E l0 i12_1 (w4_5 ++ [((shl64 y5_5 7) ||| (((l0.getD i12_1.toNat 0) &&& (127 : UInt8)).toUInt64)).toUInt32]) 0 false) (aP g12 aN) ?_
        exact ⟨_, _, _, rfl, h⟩
       ·replace h := bif_f h g13
        refine Vc [] [0, 1] (pReadOid_j1_E l0 i12_1 w4_5 ((shl64 y5_5 7) ||| (((l0.getD i12_1.toNat 0) &&& (127 : UInt8)).toUInt64)) true) (W_skip ?_)
        exact ⟨_, _, _, rfl, h⟩
  ·replace h := bif_f h g29
   refine Vc [] [0] ⟨[(4, kH 0), (6, kB p6_5)], [], [nw 89 w4_5]⟩ (W_exit ?_)
   refine W_seq ?_
   refine W_seq ?_
   rcases Bool.eq_false_or_eq_true p6_5 with g16 | g16
   ·replace h := bif_t h g16
    refine Vg hT fN [(1, true)] [] [0] ⟨[(4, kH 0), (50, kB true)], [], [nw 89 w4_5]⟩ (aP g16 aN) ?_
    refine Vi (true) (fun _ => ?_) (fun hb => by cases hb)
    refine Vrs hT [] ⟨[(2, .c (.nils)), (3, kE 31 (some 2))], [], []⟩ ?_
    refine Vc [.nil 2 89 1 (.w [])] [0] (pReadOid_R ([], (some 2))) (W_ret ?_)
    exact ⟨.inl rfl, by cases h; rfl⟩
   ·replace h := bif_f h g16
    refine Vg hT fN [(1, false)] [] [0] ⟨[(4, kH 0), (50, kB (((w4_5.length : Nat) : Int) == 0))], [], [nw 89 w4_5]⟩ (aP g16 aN) ?_
    refine Vi ((((w4_5.length : Nat) : Int) == 0)) (fun g28 => ?_) (fun g28 => ?_)
    ·replace h := bif_t h g28
     refine Vrs hT [] ⟨[(2, .c (.nils)), (3, kE 31 (some 2))], [], []⟩ ?_
     refine Vc [.nil 2 89 1 (.w [])] [0] (pReadOid_R ([], (some 2))) (W_ret ?_)
     exact ⟨.inl rfl, by cases h; rfl⟩
    ·replace h := bif_f h g28
     refine W_skip ?_
     obtain ⟨g17, g18, g19, h⟩ := gd3 h
     refine Vgs hT fN [] [] [0] ⟨[(4, kH 0), (9, kX (if (2 : UInt32) < ((w4_5.getD 0 0) / (40 : UInt32)) then (2 : UInt32) else ((w4_5.getD 0 0) / (40 : UInt32))))], [], [nw 89 w4_5]⟩ (aP g17 (aP g18 (aP g19 aN))) ?_
     obtain ⟨g20, g21, g22, g23, g24, h⟩ := gd5 h
     obtain ⟨g25, h⟩ := gd_some h
     refine Vds hT (fT 11 cat_hW fN) 10 [] [(4, false), (64, false), (66, false)] [] [3] ⟨[(4, kH 0)], [], [nw 89 ((([[(if (2 : UInt32) < ((w4_5.getD 0 0) / (40 : UInt32)) then (2 : UInt32) else ((w4_5.getD 0 0) / (40 : UInt32))), ((w4_5.getD 0 0) - ((40 : UInt32) * (if (2 : UInt32) < ((w4_5.getD 0 0) / (40 : UInt32)) then (2 : UInt32) else ((w4_5.getD 0 0) / (40 : UInt32)))))], ((w4_5.drop 1).take (w4_5.length - 1))] : List (List UInt32))).flatten)]⟩ (aP g20 (aP g21 (aP g22 (aP g23 (aP g24 (aP g25 aN)))))) ?_
     refine W_seq ?_
     obtain ⟨r70_1, g26, h⟩ := bind_some' h
     refine Vgs hT (fT 1 (pident_ok n r70_1) fN) [] [] [0] ⟨[(4, kH 0), (71, kB (!r70_1))], [], [nw 89 ((([[(if (2 : UInt32) < ((w4_5.getD 0 0) / (40 : UInt32)) then (2 : UInt32) else ((w4_5.getD 0 0) / (40 : UInt32))), ((w4_5.getD 0 0) - ((40 : UInt32) * (if (2 : UInt32) < ((w4_5.getD 0 0) / (40 : UInt32)) then (2 : UInt32) else ((w4_5.getD 0 0) / (40 : UInt32)))))], ((w4_5.drop 1).take (w4_5.length - 1))] : List (List UInt32))).flatten)]⟩ (aP g26 aN) ?_
     refine Vi ((!r70_1)) (fun g27 => ?_) (fun g27 => ?_)
     ·replace h := bif_t h g27
      refine Vrs hT [] ⟨[(2, .c (.nils)), (3, kE 31 (some 2))], [], []⟩ ?_
      refine Vc [.nil 2 89 1 (.w [])] [0] (pReadOid_R ([], (some 2))) (W_ret ?_)
      exact ⟨.inl rfl, by cases h; rfl⟩
     ·replace h := bif_f h g27
      refine W_skip ?_
      refine Vrs hT [0] ⟨[(2, kH 0), (3, .c (.s (.v .nilIface)))], [], [nw 89 ((([[(if (2 : UInt32) < ((w4_5.getD 0 0) / (40 : UInt32)) then (2 : UInt32) else ((w4_5.getD 0 0) / (40 : UInt32))), ((w4_5.getD 0 0) - ((40 : UInt32) * (if (2 : UInt32) < ((w4_5.getD 0 0) / (40 : UInt32)) then (2 : UInt32) else ((w4_5.getD 0 0) / (40 : UInt32)))))], ((w4_5.drop 1).take (w4_5.length - 1))] : List (List UInt32))).flatten)]⟩ ?_
      refine Vc [.er 3 31 .i64] [0] (pReadOid_R (((([[(if (2 : UInt32) < ((w4_5.getD 0 0) / (40 : UInt32)) then (2 : UInt32) else ((w4_5.getD 0 0) / (40 : UInt32))), ((w4_5.getD 0 0) - ((40 : UInt32) * (if (2 : UInt32) < ((w4_5.getD 0 0) / (40 : UInt32)) then (2 : UInt32) else ((w4_5.getD 0 0) / (40 : UInt32)))))], ((w4_5.drop 1).take (w4_5.length - 1))] : List (List UInt32))).flatten), none)) (W_ret ?_)
      exact ⟨.inl rfl, by cases h; rfl⟩
def rOid_R (r : Bool) : S := ⟨[(2, kB r)], [], []⟩
def rOid_ct (n : Nat) (r : Bool) : Ct := ctc (rW 89).rd fun _ l0 => ct0 fun H => ([rOid n l0 = some r], shA H.length (kB r), shH H.length [])
theorem rOid_ok (n : Nat) (r : Bool) : FnOk Try.prog Tr 33 (rOid_ct n r) := by
 refine fnok Try.func33 ?_
 refine HO_c (rW 89) fun l0 _ => HO_0 tabO_po (rOid_R r) [.tmp 2] [] 29 Try.func33 fun w hG h => ?_
 unfold rOid at h
 have hT := tabO_po
 refine Vrs hT [0] ⟨[(0, kH 0)], [], [ow 89 l0]⟩ ?_
 refine W_seq ?_
 refine W_seq ?_
 rcases Bool.eq_false_or_eq_true (decide (((l0.length : Nat) : Int) < (2 : Int))) with g1 | g1
 ·replace h := bif_t h g1
  refine Vg hT fN [(3, true)] [] [0] ⟨[(0, kH 0), (16, kB true)], [], [ow 89 l0]⟩ (aP g1 aN) ?_
  refine Vi (true) (fun _ => ?_) (fun hb => by cases hb)
  refine Vrs hT [] ⟨[(2, kB false)], [], []⟩ ?_
  refine Vc [] [] (rOid_R false) (W_ret ?_)
  exact ⟨.inl rfl, by cases h; rfl⟩
 ·replace h := bif_f h g1
  rcases Bool.eq_false_or_eq_true (decide ((16 : Int) < ((l0.length : Nat) : Int))) with g2 | g2
  ·replace h := bif_t h g2
   refine Vg hT fN [(3, false), (8, true)] [] [0] ⟨[(0, kH 0), (16, kB true)], [], [ow 89 l0]⟩ (aP g1 (aP g2 aN)) ?_
   refine Vi (true) (fun _ => ?_) (fun hb => by cases hb)
   refine Vrs hT [] ⟨[(2, kB false)], [], []⟩ ?_
   refine Vc [] [] (rOid_R false) (W_ret ?_)
   exact ⟨.inl rfl, by cases h; rfl⟩
  ·replace h := bif_f h g2
   obtain ⟨g3, g4, h⟩ := gd2 h
   refine Vg hT fN [(3, false), (8, false)] [] [0] ⟨[(0, kH 0), (16, kB (decide ((2 : UInt32) < (l0.getD 0 0))))], [], [ow 89 l0]⟩ (aP g1 (aP g2 (aP g3 (aP g4 aN)))) ?_
   refine Vi ((decide ((2 : UInt32) < (l0.getD 0 0)))) (fun g12 => ?_) (fun g12 => ?_)
   ·replace h := bif_t h g12
    refine Vrs hT [] ⟨[(2, kB false)], [], []⟩ ?_
    refine Vc [] [] (rOid_R false) (W_ret ?_)
    exact ⟨.inl rfl, by cases h; rfl⟩
   ·replace h := bif_f h g12
    refine W_skip ?_
    refine W_seq ?_
    obtain ⟨g5, g6, h⟩ := gd2 h
    refine Vgs hT fN [] [] [0] ⟨[(0, kH 0), (20, kB (decide ((l0.getD 0 0) < (2 : UInt32))))], [], [ow 89 l0]⟩ (aP g5 (aP g6 aN)) ?_
    refine Vi ((decide ((l0.getD 0 0) < (2 : UInt32)))) (fun g11 => ?_) (fun g11 => ?_)
    ·replace h := bif_t h g11
     obtain ⟨g7, g8, h⟩ := gd2 h
     refine Vgs hT fN [] [] [] ⟨[(2, kB (decide ((l0.getD 1 0) < (40 : UInt32))))], [], []⟩ (aP g7 (aP g8 aN)) ?_
     refine Vc [] [] (rOid_R (decide ((l0.getD 1 0) < (40 : UInt32)))) (W_ret ?_)
     exact ⟨.inl rfl, by cases h; rfl⟩
    ·replace h := bif_f h g11
     refine W_skip ?_
     obtain ⟨g9, g10, h⟩ := gd2 h
     refine Vgs hT fN [] [] [] ⟨[(2, kB (decide ((l0.getD 1 0) ≤ (4294967215 : UInt32))))], [], []⟩ (aP g9 (aP g10 aN)) ?_
     refine Vc [] [] (rOid_R (decide ((l0.getD 1 0) ≤ (4294967215 : UInt32)))) (W_ret ?_)
     exact ⟨.inl rfl, by cases h; rfl⟩
def rgroup_R (r : List UInt8) : S := ⟨[(2, kH 0)], [], [nb 5 r]⟩
def rgroup_ct (n : Nat) (r : List UInt8) : Ct := ctc rU32.rd fun _ l0 => ct0 fun H => ([rgroup n l0 = some r], shA H.length (kH 0), shH H.length [nb 5 r])
theorem rgroup_ok (n : Nat) : ∀ r : List UInt8, FnOk Try.prog Tr 66 (rgroup_ct n r) := by
 induction n with
 | zero =>
  intro r
  refine fnok Try.func66 ?_
  refine HO_c rU32 fun l0 _ => HO_0 tabO_po (rgroup_R r) [.tmp 2] [0] 30 Try.func66 fun w hG h => ?_
  cases h
 | succ n ih =>
  intro r
  refine fnok Try.func66 ?_
  refine HO_c rU32 fun l0 _ => HO_0 tabO_po (rgroup_R r) [.tmp 2] [0] 30 Try.func66 fun w hG h => ?_
  unfold rgroup at h
  have hT := tabO_po
  refine Vrs hT [] ⟨[(0, kX l0)], [], []⟩ ?_
  refine W_seq ?_
  refine Vrs hT [] ⟨[(0, kX l0), (5, kB (decide (l0 < (128 : UInt32))))], [], []⟩ ?_
  refine Vi ((decide (l0 < (128 : UInt32)))) (fun g11 => ?_) (fun g11 => ?_)
  ·replace h := bif_t h g11
   refine Vrs hT [0] ⟨[(2, kH 0)], [], [⟨.row, 5, 1, 1, .b [l0.toUInt8]⟩]⟩ ?_
   refine Vc [] [0] (rgroup_R [l0.toUInt8]) (W_ret ?_)
   exact ⟨.inl rfl, by cases h; rfl⟩
  ·replace h := bif_f h g11
   refine W_skip ?_
   obtain ⟨g1, h⟩ := gd_some h
   obtain ⟨r11, g2, h⟩ := bind_some' h
   refine Vgs hT (fT 2 (ih r11) fN) [] [] [0] ⟨[(0, kX l0), (3, kH 0)], [], [nb 5 r11]⟩ (aP g1 (aP g2 aN)) ?_
   obtain ⟨g3, g4, g5, g6, g7, h⟩ := gd5 h
   obtain ⟨g8, h⟩ := gd_some h
   refine Vgs hT fN [] [] [0] ⟨[(0, kX l0), (3, kH 0)], [], [⟨.row, 5, 1, r11.length, .b (r11.set ((((r11.length : Nat) : Int) - 1).toNat) ((r11.getD ((((r11.length : Nat) : Int) - 1).toNat) 0) + (128 : UInt8)))⟩]⟩ (aP g3 (aP g4 (aP g5 (aP g6 (aP g7 (aP g8 aN)))))) ?_
   obtain ⟨g9, g10, h⟩ := gd2 h
   refine Vgs hT fN [] [] [2] ⟨[(2, kH 0)], [], [nb 5 ((r11.set ((((r11.length : Nat) : Int) - 1).toNat) ((r11.getD ((((r11.length : Nat) : Int) - 1).toNat) 0) + (128 : UInt8))) ++ [(l0 % (128 : UInt32)).toUInt8])]⟩ (aP g9 (aP g10 aN)) ?_
   refine Vc [] [0] (rgroup_R ((r11.set ((((r11.length : Nat) : Int) - 1).toNat) ((r11.getD ((((r11.length : Nat) : Int) - 1).toNat) 0) + (128 : UInt8))) ++ [(l0 % (128 : UInt32)).toUInt8])) (W_ret ?_)
   exact ⟨.inl rfl, by cases h; rfl⟩
def rOidBody_l1_E (a0 : List UInt32) (l3_2 : List UInt8) (i4_2 : Int) : S := ⟨[(0, kH 0), (3, kH 1), (4, kI i4_2)], [], [ow 89 a0, nb 5 l3_2]⟩
abbrev rOidBody_l1_P (n : Nat) (a0 : List UInt32) (r : List UInt8) (fu : Nat) : S → Prop := fun s => ∃ (l3_2 : List UInt8), ∃ (i4_2 : Int), s = rOidBody_l1_E a0 l3_2 i4_2 ∧ rOidBody_l1 n a0 fu l3_2 i4_2 = some r
def rOidBody_R (r : List UInt8) : S := ⟨[(2, kH 0)], [], [nb 5 r]⟩
def rOidBody_ct (n : Nat) (r : List UInt8) : Ct := ctc (rW 89).rd fun _ l0 => ct0 fun H => ([rOidBody n l0 = some r], shA H.length (kH 0), shH H.length [nb 5 r])
theorem rOidBody_ok (n : Nat) (r : List UInt8) : FnOk Try.prog Tr 34 (rOidBody_ct n r) := by
 refine fnok Try.func34 ?_
 refine HO_c (rW 89) fun l0 _ => HO_0 tabO_po (rOidBody_R r) [.tmp 2] [0] 28 Try.func34 fun w hG h => ?_
 unfold rOidBody at h
 have hT := tabO_po
 refine Vrs hT [0] ⟨[(0, kH 0)], [], [ow 89 l0]⟩ ?_
 obtain ⟨g1, g2, g3, g4, h⟩ := gd4 h
 obtain ⟨r13, g5, h⟩ := bind_some' h
 refine Vds hT (fT 8 (rgroup_ok n r13) fN) 7 [] [(0, false), (8, false), (11, false)] [] [0, 1] ⟨[(0, kH 0), (3, kH 1)], [], [ow 89 l0, nb 5 r13]⟩ (aP g1 (aP g2 (aP g3 (aP g4 (aP g5 aN))))) ?_
 refine W_seq ?_
 refine Vrs hT [0, 1] ⟨[(0, kH 0), (3, kH 1), (4, kI 2)], [], [ow 89 l0, nb 5 r13]⟩ ?_
 refine W_block ?_
 refine Vc [] [0, 1] (rOidBody_l1_E l0 r13 2) (W_lp ((rOidBody_l1_P n l0 r)) n ⟨_, _, rfl, h⟩ ?_)
 rintro fu_l1 _ ⟨l3_2, i4_2, rfl, h⟩
 cases fu_l1 with
 | zero => cases h
 | succ fu_l1 =>
  refine ⟨fu_l1, rfl, ?_⟩
  rw [rOidBody_l1] at h
  refine W_seq ?_
  refine Vrs hT [0, 1] ⟨[(0, kH 0), (3, kH 1), (4, kI i4_2), (17, kB (decide (i4_2 < ((l0.length : Nat) : Int))))], [], [ow 89 l0, nb 5 l3_2]⟩ ?_
  refine Vi ((decide (i4_2 < ((l0.length : Nat) : Int)))) (fun g11 => ?_) (fun g11 => ?_)
  ·replace h := bif_t h g11
   refine W_skip ?_
   refine W_seq ?_
   refine W_block ?_
   obtain ⟨g6, g7, h⟩ := gd2 h
   obtain ⟨r25_3, g8, h⟩ := bind_some' h
   obtain ⟨g9, h⟩ := gd_some h
   refine Vg hT (fT 5 (rgroup_ok n r25_3) fN) [] [] [0, 3] ⟨[(0, kH 0), (3, kH 1), (4, kI i4_2)], [], [ow 89 l0, nb 5 (l3_2 ++ r25_3)]⟩ (aP g6 (aP g7 (aP g8 (aP g9 aN)))) ?_
   obtain ⟨g10, h⟩ := gd_some h
   refine Vg hT fN [] [] [0, 1] (rOidBody_l1_E l0 (l3_2 ++ r25_3) (i4_2 + 1)) (aP g10 aN) ?_
   exact ⟨_, _, rfl, h⟩
  ·replace h := bif_f h g11
   refine Vc [] [1] ⟨[(3, kH 0)], [], [nb 5 l3_2]⟩ (W_exit ?_)
   refine Vrs hT [0] ⟨[(2, kH 0)], [], [nb 5 l3_2]⟩ ?_
   refine Vc [] [0] (rOidBody_R l3_2) (W_ret ?_)
   exact ⟨.inl rfl, by cases h; rfl⟩
def rReadOid_j1_E (a0 : List UInt8) (i6_1 : Int) (w4_7 : List UInt32) (x5_7 : UInt32) : S := ⟨[(0, kH 0), (4, kH 1), (5, kX x5_7), (6, kI i6_1)], [], [ob 5 a0, nw 89 w4_7]⟩
abbrev rReadOid_j1_P (n : Nat) (a0 : List UInt8) (i6_1 : Int) (k_l1 : (List UInt32) → UInt32 → Int → Option (List UInt32 × Bool)) (r : List UInt32 × Bool) : S → Prop := fun s => ∃ (w4_7 : List UInt32), ∃ (x5_7 : UInt32), s = rReadOid_j1_E a0 i6_1 w4_7 x5_7 ∧ rReadOid_j1 n a0 i6_1 k_l1 w4_7 x5_7 = some r
def rReadOid_j2_E (a0 : List UInt8) (w4_5 : List UInt32) (x7_1 : UInt32) : S := ⟨[(0, kH 0), (4, kH 1), (7, kX x7_1)], [], [ob 5 a0, nw 89 w4_5]⟩
abbrev rReadOid_j2_P (n : Nat) (a0 : List UInt8) (w4_5 : List UInt32) (r : List UInt32 × Bool) : S → Prop := fun s => ∃ (x7_1 : UInt32), s = rReadOid_j2_E a0 w4_5 x7_1 ∧ rReadOid_j2 n a0 w4_5 x7_1 = some r
def rReadOid_l1_E (a0 : List UInt8) (w4_5 : List UInt32) (x5_5 : UInt32) (i6_1 : Int) : S := ⟨[(0, kH 0), (4, kH 1), (5, kX x5_5), (6, kI i6_1)], [], [ob 5 a0, nw 89 w4_5]⟩
abbrev rReadOid_l1_P (n : Nat) (a0 : List UInt8) (r : List UInt32 × Bool) (fu : Nat) : S → Prop := fun s => ∃ (w4_5 : List UInt32), ∃ (x5_5 : UInt32), ∃ (i6_1 : Int), s = rReadOid_l1_E a0 w4_5 x5_5 i6_1 ∧ rReadOid_l1 n a0 fu w4_5 x5_5 i6_1 = some r
def rReadOid_R (r : List UInt32 × Bool) : S := ⟨[(2, kH 0), (3, kB r.2)], [], [nw 89 r.1]⟩
def rReadOid_ct (n : Nat) (r : List UInt32 × Bool) : Ct := ctc (rB 5).rd fun _ l0 => ct0 fun H => ([rReadOid n l0 = some r], shA H.length (.t [.c (.wh 0), .c (.s (.b r.2))]), shH H.length [nw 89 r.1])
theorem rReadOid_ok (n : Nat) (r : List UInt32 × Bool) : FnOk Try.prog Tr 36 (rReadOid_ct n r) := by
 refine fnok Try.func36 ?_
 refine HO_c (rB 5) fun l0 _ => HO_0 tabO_po (rReadOid_R r) [.tmp 2, .tmp 3] [0] 70 Try.func36 fun w hG h => ?_
 unfold rReadOid at h
 have hT := tabO_po
 refine Vrs hT [0] ⟨[(0, kH 0)], [], [ob 5 l0]⟩ ?_
 refine W_seq ?_
 refine Vrs hT [0] ⟨[(0, kH 0), (12, kB (decide ((100 : Int) < ((l0.length : Nat) : Int))))], [], [ob 5 l0]⟩ ?_
 refine Vi ((decide ((100 : Int) < ((l0.length : Nat) : Int)))) (fun g24 => ?_) (fun g24 => ?_)
 ·replace h := bif_t h g24
  refine Vrs hT [] ⟨[(2, .c (.nils)), (3, kB false)], [], []⟩ ?_
  refine Vc [.nil 2 89 1 (.w [])] [0] (rReadOid_R ([], false)) (W_ret ?_)
  exact ⟨.inl rfl, by cases h; rfl⟩
 ·replace h := bif_f h g24
  refine W_skip ?_
  refine Vrs hT [0] ⟨[(0, kH 0), (4, .c (.nils))], [], [ob 5 l0]⟩ ?_
  refine Vrs hT [0] ⟨[(0, kH 0), (4, .c (.nils)), (5, kX 0)], [], [ob 5 l0]⟩ ?_
  refine W_seq ?_
  refine Vrs hT [0] ⟨[(0, kH 0), (4, .c (.nils)), (5, kX 0), (6, kI 0)], [], [ob 5 l0]⟩ ?_
  refine W_block ?_
  refine Vc [.nil 4 89 1 (.w [])] [0, 1] (rReadOid_l1_E l0 [] 0 0) (W_lp ((rReadOid_l1_P n l0 r)) n ⟨_, _, _, rfl, h⟩ ?_)
  rintro fu_l1 _ ⟨w4_5, x5_5, i6_1, rfl, h⟩
  cases fu_l1 with
  | zero => cases h
  | succ fu_l1 =>
   refine ⟨fu_l1, rfl, ?_⟩
   rw [rReadOid_l1] at h
   refine W_seq ?_
   refine Vrs hT [0, 1] ⟨[(0, kH 0), (4, kH 1), (5, kX x5_5), (6, kI i6_1), (16, kB (decide (i6_1 < ((l0.length : Nat) : Int))))], [], [ob 5 l0, nw 89 w4_5]⟩ ?_
   refine Vi ((decide (i6_1 < ((l0.length : Nat) : Int)))) (fun g23 => ?_) (fun g23 => ?_)
   ·replace h := bif_t h g23
    refine Vc [] [0, 1] ⟨[(0, kH 0), (4, kH 1), (5, kX x5_5), (6, kI i6_1)], [], [ob 5 l0, nw 89 w4_5]⟩ (W_skip ?_)
    refine W_join (rReadOid_j1_P n l0 i6_1 (rReadOid_l1 n l0 fu_l1) r) ?_ ?_
    ·rintro _ ⟨w4_7, x5_7, rfl, h⟩
     unfold rReadOid_j1 at h
     obtain ⟨g1, h⟩ := gd_some h
     refine Vg hT fN [] [] [0, 1] (rReadOid_l1_E l0 w4_7 x5_7 (i6_1 + 1)) (aP g1 aN) ?_
     exact ⟨_, _, _, rfl, h⟩
    ·refine W_block ?_
     obtain ⟨g2, g3, g4, h⟩ := gd3 h
     refine Vgs hT fN [] [] [0, 1] ⟨[(0, kH 0), (4, kH 1), (5, kX ((x5_5 * (128 : UInt32)) + (((l0.getD i6_1.toNat 0) % (128 : UInt8)).toUInt32))), (6, kI i6_1)], [], [ob 5 l0, nw 89 w4_5]⟩ (aP g2 (aP g3 (aP g4 aN))) ?_
     obtain ⟨g5, g6, h⟩ := gd2 h
     refine Vgs hT fN [] [] [0, 1] ⟨[(0, kH 0), (4, kH 1), (5, kX ((x5_5 * (128 : UInt32)) + (((l0.getD i6_1.toNat 0) % (128 : UInt8)).toUInt32))), (6, kI i6_1), (32, kB (decide ((l0.getD i6_1.toNat 0) < (128 : UInt8))))], [], [ob 5 l0, nw 89 w4_5]⟩ (aP g5 (aP g6 aN)) ?_
     refine Vi ((decide ((l0.getD i6_1.toNat 0) < (128 : UInt8)))) (fun g8 => ?_) (fun g8 => ?_)
     ·replace h := bif_t h g8
      obtain ⟨g7, h⟩ := gd_some h
      refine Vgs hT fN [] [] [0, 3] ⟨[(0, kH 0), (4, kH 1), (6, kI i6_1)], [], [ob 5 l0, nw 89 (w4_5 ++ [((x5_5 * (128 : UInt32)) + (((l0.getD i6_1.toNat 0) % (128 : UInt8)).toUInt32))])]⟩ (aP g7 aN) ?_
      refine Vr hT [0, 1] (rReadOid_j1_E l0 i6_1 (w4_5 ++ [((x5_5 * (128 : UInt32)) + (((l0.getD i6_1.toNat 0) % (128 : UInt8)).toUInt32))]) 0) ?_
      exact ⟨_, _, rfl, h⟩
     ·replace h := bif_f h g8
      refine Vc [] [0, 1] (rReadOid_j1_E l0 i6_1 w4_5 ((x5_5 * (128 : UInt32)) + (((l0.getD i6_1.toNat 0) % (128 : UInt8)).toUInt32))) (W_skip ?_)
      exact ⟨_, _, rfl, h⟩
   ·replace h := bif_f h g23
    refine Vc [] [0, 1] ⟨[(0, kH 0), (4, kH 1)], [], [ob 5 l0, nw 89 w4_5]⟩ (W_exit ?_)
    refine W_seq ?_
    refine Vrs hT [0, 1] ⟨[(0, kH 0), (4, kH 1), (39, kB (((w4_5.length : Nat) : Int) == 0))], [], [ob 5 l0, nw 89 w4_5]⟩ ?_
    refine Vi ((((w4_5.length : Nat) : Int) == 0)) (fun g22 => ?_) (fun g22 => ?_)
    ·replace h := bif_t h g22
     refine Vrs hT [] ⟨[(2, .c (.nils)), (3, kB false)], [], []⟩ ?_
     refine Vc [.nil 2 89 1 (.w [])] [0] (rReadOid_R ([], false)) (W_ret ?_)
     exact ⟨.inl rfl, by cases h; rfl⟩
    ·replace h := bif_f h g22
     refine W_skip ?_
     obtain ⟨g9, g10, g11, h⟩ := gd3 h
     refine Vgs hT fN [] [] [0, 1] ⟨[(0, kH 0), (4, kH 1), (7, kX ((w4_5.getD 0 0) / (40 : UInt32)))], [], [ob 5 l0, nw 89 w4_5]⟩ (aP g9 (aP g10 (aP g11 aN))) ?_
     refine W_join (rReadOid_j2_P n l0 w4_5 r) ?_ ?_
     ·rintro _ ⟨x7_1, rfl, h⟩
      unfold rReadOid_j2 at h
      obtain ⟨g12, g13, g14, g15, g16, h⟩ := gd5 h
      refine Vds hT fN 10 [] [(0, false), (53, false), (55, false)] [] [0, 3] ⟨[(0, kH 0), (8, kH 1)], [], [ob 5 l0, nw 89 ([x7_1, ((w4_5.getD 0 0) - ((40 : UInt32) * x7_1))] ++ ((w4_5.drop 1).take (w4_5.length - 1)))]⟩ (aP g12 (aP g13 (aP g14 (aP g15 (aP g16 aN))))) ?_
      obtain ⟨r58_1, g17, h⟩ := bind_some' h
      refine Vgs hT (fT 1 (rOid_ok n r58_1) fN) [] [] [0, 1] ⟨[(0, kH 0), (8, kH 1), (9, kB r58_1)], [], [ob 5 l0, nw 89 ([x7_1, ((w4_5.getD 0 0) - ((40 : UInt32) * x7_1))] ++ ((w4_5.drop 1).take (w4_5.length - 1)))]⟩ (aP g17 aN) ?_
      refine W_seq ?_
      refine W_seq ?_
      rcases Bool.eq_false_or_eq_true (!r58_1) with g18 | g18
      ·replace h := bif_t h g18
       refine Vd hT fN 8 [(2, true)] [(8, false), (61, false), (64, false), (66, false)] [] [1] ⟨[(8, kH 0), (68, kB true)], [], [nw 89 ([x7_1, ((w4_5.getD 0 0) - ((40 : UInt32) * x7_1))] ++ ((w4_5.drop 1).take (w4_5.length - 1)))]⟩ (aP g18 aN) ?_
       refine Vi (true) (fun _ => ?_) (fun hb => by cases hb)
       refine Vrs hT [] ⟨[(2, .c (.nils)), (3, kB false)], [], []⟩ ?_
       refine Vc [.nil 2 89 1 (.w [])] [0] (rReadOid_R ([], false)) (W_ret ?_)
       exact ⟨.inl rfl, by cases h; rfl⟩
      ·replace h := bif_f h g18
       obtain ⟨r63_1, g19, h⟩ := bind_some' h
       refine Vd hT (fT 4 (rOidBody_ok n r63_1) fN) 8 [(2, false)] [(8, false), (61, false), (64, false), (66, false)] [] [1] ⟨[(8, kH 0), (68, kB (r63_1 != l0))], [], [nw 89 ([x7_1, ((w4_5.getD 0 0) - ((40 : UInt32) * x7_1))] ++ ((w4_5.drop 1).take (w4_5.length - 1)))]⟩ (aP g18 (aP g19 aN)) ?_
       refine Vi ((r63_1 != l0)) (fun g20 => ?_) (fun g20 => ?_)
       ·replace h := bif_t h g20
        refine Vrs hT [] ⟨[(2, .c (.nils)), (3, kB false)], [], []⟩ ?_
        refine Vc [.nil 2 89 1 (.w [])] [0] (rReadOid_R ([], false)) (W_ret ?_)
        exact ⟨.inl rfl, by cases h; rfl⟩
       ·replace h := bif_f h g20
        refine W_skip ?_
        refine Vrs hT [0] ⟨[(2, kH 0), (3, kB true)], [], [nw 89 ([x7_1, ((w4_5.getD 0 0) - ((40 : UInt32) * x7_1))] ++ ((w4_5.drop 1).take (w4_5.length - 1)))]⟩ ?_
        refine Vc [] [0] (rReadOid_R (([x7_1, ((w4_5.getD 0 0) - ((40 : UInt32) * x7_1))] ++ ((w4_5.drop 1).take (w4_5.length - 1))), true)) (W_ret ?_)
        exact ⟨.inl rfl, by cases h; rfl⟩
     ·refine W_seq ?_
      refine Vr hT [0, 1] ⟨[(0, kH 0), (4, kH 1), (7, kX ((w4_5.getD 0 0) / (40 : UInt32))), (45, kB (decide ((2 : UInt32) < ((w4_5.getD 0 0) / (40 : UInt32)))))], [], [ob 5 l0, nw 89 w4_5]⟩ ?_
      refine Vi ((decide ((2 : UInt32) < ((w4_5.getD 0 0) / (40 : UInt32))))) (fun g21 => ?_) (fun g21 => ?_)
      ·replace h := bif_t h g21
       refine Vr hT [0, 1] (rReadOid_j2_E l0 w4_5 2) ?_
       exact ⟨_, rfl, h⟩
      ·replace h := bif_f h g21
       refine Vc [] [0, 1] (rReadOid_j2_E l0 w4_5 ((w4_5.getD 0 0) / (40 : UInt32))) (W_skip ?_)
       exact ⟨_, rfl, h⟩
def lsame_l1_E (a0 : List UInt32) (a1 : List UInt32) (i5_2 : Int) : S := ⟨[(0, kH 0), (1, kH 1), (5, kI i5_2)], [], [ow 89 a0, ow 89 a1]⟩
abbrev lsame_l1_P (n : Nat) (a0 : List UInt32) (a1 : List UInt32) (r : Bool) (fu : Nat) : S → Prop := fun s => ∃ (i5_2 : Int), s = lsame_l1_E a0 a1 i5_2 ∧ lsame_l1 n a0 a1 fu i5_2 = some r
def lsame_R (r : Bool) : S := ⟨[(4, kB r)], [], []⟩
def lsame_ct (n : Nat) (r : Bool) : Ct := ctc (rW 89).rd fun _ l0 => ctc (rW 89).rd fun _ l1 => ct0 fun H => ([lsame n l0 l1 = some r], shA H.length (kB r), shH H.length [])
theorem lsame_ok (n : Nat) (r : Bool) : FnOk Try.prog Tr 37 (lsame_ct n r) := by
 refine fnok Try.func37 ?_
 refine HO_c (rW 89) fun l0 _ => HO_c (rW 89) fun l1 _ => HO_0 tabO_po (lsame_R r) [.tmp 4] [] 26 Try.func37 fun w hG h => ?_
 unfold lsame at h
 have hT := tabO_po
 refine Vrs hT [0, 1] ⟨[(0, kH 0), (1, kH 1)], [], [ow 89 l0, ow 89 l1]⟩ ?_
 refine W_seq ?_
 refine Vrs hT [0, 1] ⟨[(0, kH 0), (1, kH 1), (10, kB (((l0.length : Nat) : Int) != ((l1.length : Nat) : Int)))], [], [ow 89 l0, ow 89 l1]⟩ ?_
 refine Vi ((((l0.length : Nat) : Int) != ((l1.length : Nat) : Int))) (fun g8 => ?_) (fun g8 => ?_)
 ·replace h := bif_t h g8
  refine Vrs hT [] ⟨[(4, kB false)], [], []⟩ ?_
  refine Vc [] [] (lsame_R false) (W_ret ?_)
  exact ⟨.inl rfl, by cases h; rfl⟩
 ·replace h := bif_f h g8
  refine W_skip ?_
  refine W_seq ?_
  refine Vrs hT [0, 1] ⟨[(0, kH 0), (1, kH 1), (5, kI 0)], [], [ow 89 l0, ow 89 l1]⟩ ?_
  refine W_block ?_
  refine Vc [] [0, 1] (lsame_l1_E l0 l1 0) (W_lp ((lsame_l1_P n l0 l1 r)) n ⟨_, rfl, h⟩ ?_)
  rintro fu_l1 _ ⟨i5_2, rfl, h⟩
  cases fu_l1 with
  | zero => cases h
  | succ fu_l1 =>
   refine ⟨fu_l1, rfl, ?_⟩
   rw [lsame_l1] at h
   refine W_seq ?_
   refine Vrs hT [0, 1] ⟨[(0, kH 0), (1, kH 1), (5, kI i5_2), (14, kB (decide (i5_2 < ((l0.length : Nat) : Int))))], [], [ow 89 l0, ow 89 l1]⟩ ?_
   refine Vi ((decide (i5_2 < ((l0.length : Nat) : Int)))) (fun g7 => ?_) (fun g7 => ?_)
   ·replace h := bif_t h g7
    refine W_skip ?_
    refine W_seq ?_
    refine W_block ?_
    obtain ⟨g1, g2, g3, g4, h⟩ := gd4 h
    refine Vds hT fN 8 [] [(0, false), (1, false), (5, false), (20, false), (24, false)] [] [0, 1] ⟨[(0, kH 0), (1, kH 1), (5, kI i5_2), (25, kB ((l0.getD i5_2.toNat 0) != (l1.getD i5_2.toNat 0)))], [], [ow 89 l0, ow 89 l1]⟩ (aP g1 (aP g2 (aP g3 (aP g4 aN)))) ?_
    refine Vi (((l0.getD i5_2.toNat 0) != (l1.getD i5_2.toNat 0))) (fun g6 => ?_) (fun g6 => ?_)
    ·replace h := bif_t h g6
     refine Vrs hT [] ⟨[(4, kB false)], [], []⟩ ?_
     refine Vc [] [] (lsame_R false) (W_ret ?_)
     exact ⟨.inl rfl, by cases h; rfl⟩
    ·replace h := bif_f h g6
     refine W_skip ?_
     obtain ⟨g5, h⟩ := gd_some h
     refine Vg hT fN [] [] [0, 1] (lsame_l1_E l0 l1 (i5_2 + 1)) (aP g5 aN) ?_
     exact ⟨_, rfl, h⟩
   ·replace h := bif_f h g7
    refine Vc [] [] ⟨[], [], []⟩ (W_exit ?_)
    refine Vrs hT [] ⟨[(4, kB true)], [], []⟩ ?_
    refine Vc [] [] (lsame_R true) (W_ret ?_)
    exact ⟨.inl rfl, by cases h; rfl⟩
def lOids_R (r : Bool) : S := ⟨[(4, kB r)], [], []⟩
def lOids_ct (n : Nat) (r : Bool) : Ct := ctc (rW 89).rd fun _ l0 => ctc (rB 5).rd fun _ l1 => ct0 fun H => ([lOids n l0 l1 = some r], shA H.length (kB r), shH H.length [])
theorem lOids_ok (n : Nat) (r : Bool) : FnOk Try.prog Tr 9 (lOids_ct n r) := by
 refine fnok Try.func9 ?_
 refine HO_c (rW 89) fun l0 _ => HO_c (rB 5) fun l1 _ => HO_0 tabO_po (lOids_R r) [.tmp 4] [] 90 Try.func9 fun w hG h => ?_
 unfold lOids at h
 have hT := tabO_po
 refine Vrs hT [0, 1] ⟨[(0, kH 0), (1, kH 1)], [], [ow 89 l0, ob 5 l1]⟩ ?_
 obtain ⟨r13, g1, h⟩ := bind_some' h
 refine Vgs hT (fT 0 (pup_ok n r13) fN) [] [] [0, 1] ⟨[(0, kH 0), (1, kH 1), (5, kB r13)], [], [ow 89 l0, ob 5 l1]⟩ (aP g1 aN) ?_
 refine W_seq ?_
 refine W_seq ?_
 rcases Bool.eq_false_or_eq_true (decide ((50 : Int) < ((l0.length : Nat) : Int))) with g2 | g2
 ·replace h := bif_t h g2
  refine Vg hT fN [(3, true)] [] [0, 1] ⟨[(0, kH 0), (1, kH 1), (5, kB r13), (21, kB true)], [], [ow 89 l0, ob 5 l1]⟩ (aP g2 aN) ?_
  refine Vi (true) (fun _ => ?_) (fun hb => by cases hb)
  refine Vrs hT [] ⟨[(4, kB r13)], [], []⟩ ?_
  refine Vc [] [] (lOids_R r13) (W_ret ?_)
  exact ⟨.inl rfl, by cases h; rfl⟩
 ·replace h := bif_f h g2
  refine Vg hT fN [(3, false)] [] [0, 1] ⟨[(0, kH 0), (1, kH 1), (5, kB r13), (21, kB (decide ((200 : Int) < ((l1.length : Nat) : Int))))], [], [ow 89 l0, ob 5 l1]⟩ (aP g2 aN) ?_
  refine Vi ((decide ((200 : Int) < ((l1.length : Nat) : Int)))) (fun g53 => ?_) (fun g53 => ?_)
  ·replace h := bif_t h g53
   refine Vrs hT [] ⟨[(4, kB r13)], [], []⟩ ?_
   refine Vc [] [] (lOids_R r13) (W_ret ?_)
   exact ⟨.inl rfl, by cases h; rfl⟩
  ·replace h := bif_f h g53
   refine W_skip ?_
   obtain ⟨r25, g3, h⟩ := bind_some' h
   refine Vgs hT (fT 1 (pOid_ok n r25) fN) [] [] [0, 1, 2] ⟨[(0, kH 0), (1, kH 1), (5, kB r13), (6, kH 2), (7, kE 31 r25.2)], [], [ow 89 l0, ob 5 l1, nb 5 r25.1]⟩ (aP g3 aN) ?_
   obtain ⟨r29, g4, h⟩ := bind_some' h
   refine Vgs hT (fT 1 (rOid_ok n r29) fN) [] [] [0, 1, 2] ⟨[(0, kH 0), (1, kH 1), (5, kB r13), (6, kH 2), (7, kE 31 r25.2), (8, kB r29)], [], [ow 89 l0, ob 5 l1, nb 5 r25.1]⟩ (aP g4 aN) ?_
   refine W_seq ?_
   refine W_seq ?_
   rcases Bool.eq_false_or_eq_true (!r29) with g5 | g5
   ·replace h := bif_t h g5
    obtain ⟨g6, h⟩ := gd_some h
    rcases Bool.eq_false_or_eq_true (!(r25.2 == (some 1))) with g7 | g7
    ·replace h := bif_t h g7
     refine Vd hT fN 25 [(2, true), (6, true)] [(1, false), (5, false), (42, false), (44, false), (54, false)] [] [1] ⟨[(1, kH 0), (5, kB r13), (56, kB true)], [], [ob 5 l1]⟩ (aP g5 (aP g6 (aP g7 aN))) ?_
     refine Vi (true) (fun _ => ?_) (fun hb => by cases hb)
     refine Vrs hT [] ⟨[(4, kB false)], [], []⟩ ?_
     refine Vc [] [] (lOids_R false) (W_ret ?_)
     exact ⟨.inl rfl, by cases h; rfl⟩
    ·replace h := bif_f h g7
     rcases Bool.eq_false_or_eq_true (((r25.1.length : Nat) : Int) != 0) with g8 | g8
     ·replace h := bif_t h g8
      refine Vd hT fN 25 [(2, true), (6, false), (12, true)] [(1, false), (5, false), (42, false), (44, false), (54, false)] [] [1] ⟨[(1, kH 0), (5, kB r13), (56, kB true)], [], [ob 5 l1]⟩ (aP g5 (aP g6 (aP g7 (aP g8 aN)))) ?_
      refine Vi (true) (fun _ => ?_) (fun hb => by cases hb)
      refine Vrs hT [] ⟨[(4, kB false)], [], []⟩ ?_
      refine Vc [] [] (lOids_R false) (W_ret ?_)
      exact ⟨.inl rfl, by cases h; rfl⟩
     ·replace h := bif_f h g8
      rcases Bool.eq_false_or_eq_true r29 with g9 | g9
      ·replace h := bif_t h g9
       rcases Bool.eq_false_or_eq_true (!((r25.2).isNone)) with g10 | g10
       ·replace h := bif_t h g10
        refine Vd hT fN 25 [(2, true), (6, false), (12, false), (14, true), (17, true)] [(1, false), (5, false), (42, false), (44, false), (54, false)] [] [1] ⟨[(1, kH 0), (5, kB r13), (56, kB true)], [], [ob 5 l1]⟩ (aP g5 (aP g6 (aP g7 (aP g8 (aP g9 (aP g10 aN)))))) ?_
        refine Vi (true) (fun _ => ?_) (fun hb => by cases hb)
        refine Vrs hT [] ⟨[(4, kB false)], [], []⟩ ?_
        refine Vc [] [] (lOids_R false) (W_ret ?_)
        exact ⟨.inl rfl, by cases h; rfl⟩
       ·replace h := bif_f h g10
        obtain ⟨r51, g11, h⟩ := bind_some' h
        refine Vd hT (fT 21 (rOidBody_ok n r51) fN) 25 [(2, true), (6, false), (12, false), (14, true), (17, false)] [(1, false), (5, false), (42, false), (44, false), (54, false)] [] [1] ⟨[(1, kH 0), (5, kB r13), (56, kB (r25.1 != r51))], [], [ob 5 l1]⟩ (aP g5 (aP g6 (aP g7 (aP g8 (aP g9 (aP g10 (aP g11 aN))))))) ?_
        refine Vi ((r25.1 != r51)) (fun g21 => ?_) (fun g21 => ?_)
        ·replace h := bif_t h g21
         refine Vrs hT [] ⟨[(4, kB false)], [], []⟩ ?_
         refine Vc [] [] (lOids_R false) (W_ret ?_)
         exact ⟨.inl rfl, by cases h; rfl⟩
        ·replace h := bif_f h g21
         refine W_skip ?_
         obtain ⟨r59, g12, h⟩ := bind_some' h
         refine Vgs hT (fT 1 (pReadOid_ok n r59) fN) [] [] [0, 1] ⟨[(1, kH 0), (5, kB r13), (9, kH 1), (10, kE 31 r59.2)], [], [ob 5 l1, nw 89 r59.1]⟩ (aP g12 aN) ?_
         obtain ⟨r64, g13, h⟩ := bind_some' h
         refine Vgs hT (fT 1 (rReadOid_ok n r64) fN) [] [] [1, 2] ⟨[(5, kB r13), (9, kH 0), (10, kE 31 r59.2), (11, kH 1), (12, kB r64.2)], [], [nw 89 r59.1, nw 89 r64.1]⟩ (aP g13 aN) ?_
         refine W_seq ?_
         refine Vrs hT [0, 1] ⟨[(5, kB r13), (9, kH 0), (10, kE 31 r59.2), (11, kH 1), (68, kB (!r64.2))], [], [nw 89 r59.1, nw 89 r64.1]⟩ ?_
         refine Vi ((!r64.2)) (fun g20 => ?_) (fun g20 => ?_)
         ·replace h := bif_t h g20
          refine W_seq ?_
          rcases Bool.eq_false_or_eq_true r13 with g14 | g14
          ·replace h := bif_t h g14
           obtain ⟨g15, h⟩ := gd_some h
           rcases Bool.eq_false_or_eq_true (r59.2 == (some 2)) with g16 | g16
           ·replace h := bif_t h g16
            refine Vg hT fN [(1, true), (6, true)] [] [] ⟨[(4, kB (((r59.1.length : Nat) : Int) == 0))], [], []⟩ (aP g14 (aP g15 (aP g16 aN))) ?_
            refine Vc [] [] (lOids_R (((r59.1.length : Nat) : Int) == 0)) (W_ret ?_)
            exact ⟨.inl rfl, by cases h; rfl⟩
           ·replace h := bif_f h g16
            refine Vg hT fN [(1, true), (6, false)] [] [] ⟨[(4, kB false)], [], []⟩ (aP g14 (aP g15 (aP g16 aN))) ?_
            refine Vc [] [] (lOids_R false) (W_ret ?_)
            exact ⟨.inl rfl, by cases h; rfl⟩
          ·replace h := bif_f h g14
           refine Vg hT fN [(1, false)] [] [] ⟨[(4, kB false)], [], []⟩ (aP g14 aN) ?_
           refine Vc [] [] (lOids_R false) (W_ret ?_)
           exact ⟨.inl rfl, by cases h; rfl⟩
         ·replace h := bif_f h g20
          refine Vc [] [0, 1] ⟨[(5, kB r13), (9, kH 0), (10, kE 31 r59.2), (11, kH 1)], [], [nw 89 r59.1, nw 89 r64.1]⟩ (W_skip ?_)
          refine W_seq ?_
          rcases Bool.eq_false_or_eq_true r13 with g17 | g17
          ·replace h := bif_t h g17
           rcases Bool.eq_false_or_eq_true ((r59.2).isNone) with g18 | g18
           ·replace h := bif_t h g18
            obtain ⟨r88, g19, h⟩ := bind_some' h
            refine Vg hT (fT 8 (lsame_ok n r88) fN) [(1, true), (5, true)] [] [] ⟨[(4, kB r88)], [], []⟩ (aP g17 (aP g18 (aP g19 aN))) ?_
            refine Vc [] [] (lOids_R r88) (W_ret ?_)
            exact ⟨.inl rfl, by cases h; rfl⟩
           ·replace h := bif_f h g18
            refine Vg hT fN [(1, true), (5, false)] [] [] ⟨[(4, kB false)], [], []⟩ (aP g17 (aP g18 aN)) ?_
            refine Vc [] [] (lOids_R false) (W_ret ?_)
            exact ⟨.inl rfl, by cases h; rfl⟩
          ·replace h := bif_f h g17
           refine Vg hT fN [(1, false)] [] [] ⟨[(4, kB false)], [], []⟩ (aP g17 aN) ?_
           refine Vc [] [] (lOids_R false) (W_ret ?_)
           exact ⟨.inl rfl, by cases h; rfl⟩
      ·replace h := bif_f h g9
       refine Vd hT fN 25 [(2, true), (6, false), (12, false), (14, false)] [(1, false), (5, false), (42, false), (44, false), (54, false)] [] [1] ⟨[(1, kH 0), (5, kB r13), (56, kB false)], [], [ob 5 l1]⟩ (aP g5 (aP g6 (aP g7 (aP g8 (aP g9 aN))))) ?_
       refine Vi (false) (fun hb => by cases hb) (fun _ => ?_)
       refine W_skip ?_
       obtain ⟨r59, g22, h⟩ := bind_some' h
       refine Vgs hT (fT 1 (pReadOid_ok n r59) fN) [] [] [0, 1] ⟨[(1, kH 0), (5, kB r13), (9, kH 1), (10, kE 31 r59.2)], [], [ob 5 l1, nw 89 r59.1]⟩ (aP g22 aN) ?_
       obtain ⟨r64, g23, h⟩ := bind_some' h
       refine Vgs hT (fT 1 (rReadOid_ok n r64) fN) [] [] [1, 2] ⟨[(5, kB r13), (9, kH 0), (10, kE 31 r59.2), (11, kH 1), (12, kB r64.2)], [], [nw 89 r59.1, nw 89 r64.1]⟩ (aP g23 aN) ?_
       refine W_seq ?_
       refine Vrs hT [0, 1] ⟨[(5, kB r13), (9, kH 0), (10, kE 31 r59.2), (11, kH 1), (68, kB (!r64.2))], [], [nw 89 r59.1, nw 89 r64.1]⟩ ?_
       refine Vi ((!r64.2)) (fun g30 => ?_) (fun g30 => ?_)
       ·replace h := bif_t h g30
        refine W_seq ?_
        rcases Bool.eq_false_or_eq_true r13 with g24 | g24
        ·replace h := bif_t h g24
         obtain ⟨g25, h⟩ := gd_some h
         rcases Bool.eq_false_or_eq_true (r59.2 == (some 2)) with g26 | g26
         ·replace h := bif_t h g26
          refine Vg hT fN [(1, true), (6, true)] [] [] ⟨[(4, kB (((r59.1.length : Nat) : Int) == 0))], [], []⟩ (aP g24 (aP g25 (aP g26 aN))) ?_
          refine Vc [] [] (lOids_R (((r59.1.length : Nat) : Int) == 0)) (W_ret ?_)
          exact ⟨.inl rfl, by cases h; rfl⟩
         ·replace h := bif_f h g26
          refine Vg hT fN [(1, true), (6, false)] [] [] ⟨[(4, kB false)], [], []⟩ (aP g24 (aP g25 (aP g26 aN))) ?_
          refine Vc [] [] (lOids_R false) (W_ret ?_)
          exact ⟨.inl rfl, by cases h; rfl⟩
        ·replace h := bif_f h g24
         refine Vg hT fN [(1, false)] [] [] ⟨[(4, kB false)], [], []⟩ (aP g24 aN) ?_
         refine Vc [] [] (lOids_R false) (W_ret ?_)
         exact ⟨.inl rfl, by cases h; rfl⟩
       ·replace h := bif_f h g30
        refine Vc [] [0, 1] ⟨[(5, kB r13), (9, kH 0), (10, kE 31 r59.2), (11, kH 1)], [], [nw 89 r59.1, nw 89 r64.1]⟩ (W_skip ?_)
        refine W_seq ?_
        rcases Bool.eq_false_or_eq_true r13 with g27 | g27
        ·replace h := bif_t h g27
         rcases Bool.eq_false_or_eq_true ((r59.2).isNone) with g28 | g28
         ·replace h := bif_t h g28
          obtain ⟨r88, g29, h⟩ := bind_some' h
          refine Vg hT (fT 8 (lsame_ok n r88) fN) [(1, true), (5, true)] [] [] ⟨[(4, kB r88)], [], []⟩ (aP g27 (aP g28 (aP g29 aN))) ?_
          refine Vc [] [] (lOids_R r88) (W_ret ?_)
          exact ⟨.inl rfl, by cases h; rfl⟩
         ·replace h := bif_f h g28
          refine Vg hT fN [(1, true), (5, false)] [] [] ⟨[(4, kB false)], [], []⟩ (aP g27 (aP g28 aN)) ?_
          refine Vc [] [] (lOids_R false) (W_ret ?_)
          exact ⟨.inl rfl, by cases h; rfl⟩
        ·replace h := bif_f h g27
         refine Vg hT fN [(1, false)] [] [] ⟨[(4, kB false)], [], []⟩ (aP g27 aN) ?_
         refine Vc [] [] (lOids_R false) (W_ret ?_)
         exact ⟨.inl rfl, by cases h; rfl⟩
   ·replace h := bif_f h g5
    rcases Bool.eq_false_or_eq_true r29 with g31 | g31
    ·replace h := bif_t h g31
     rcases Bool.eq_false_or_eq_true (!((r25.2).isNone)) with g32 | g32
     ·replace h := bif_t h g32
      refine Vd hT fN 25 [(2, false), (14, true), (17, true)] [(1, false), (5, false), (42, false), (44, false), (54, false)] [] [1] ⟨[(1, kH 0), (5, kB r13), (56, kB true)], [], [ob 5 l1]⟩ (aP g5 (aP g31 (aP g32 aN))) ?_
      refine Vi (true) (fun _ => ?_) (fun hb => by cases hb)
      refine Vrs hT [] ⟨[(4, kB false)], [], []⟩ ?_
      refine Vc [] [] (lOids_R false) (W_ret ?_)
      exact ⟨.inl rfl, by cases h; rfl⟩
     ·replace h := bif_f h g32
      obtain ⟨r51, g33, h⟩ := bind_some' h
      refine Vd hT (fT 21 (rOidBody_ok n r51) fN) 25 [(2, false), (14, true), (17, false)] [(1, false), (5, false), (42, false), (44, false), (54, false)] [] [1] ⟨[(1, kH 0), (5, kB r13), (56, kB (r25.1 != r51))], [], [ob 5 l1]⟩ (aP g5 (aP g31 (aP g32 (aP g33 aN)))) ?_
      refine Vi ((r25.1 != r51)) (fun g43 => ?_) (fun g43 => ?_)
      ·replace h := bif_t h g43
       refine Vrs hT [] ⟨[(4, kB false)], [], []⟩ ?_
       refine Vc [] [] (lOids_R false) (W_ret ?_)
       exact ⟨.inl rfl, by cases h; rfl⟩
      ·replace h := bif_f h g43
       refine W_skip ?_
       obtain ⟨r59, g34, h⟩ := bind_some' h
       refine Vgs hT (fT 1 (pReadOid_ok n r59) fN) [] [] [0, 1] ⟨[(1, kH 0), (5, kB r13), (9, kH 1), (10, kE 31 r59.2)], [], [ob 5 l1, nw 89 r59.1]⟩ (aP g34 aN) ?_
       obtain ⟨r64, g35, h⟩ := bind_some' h
       refine Vgs hT (fT 1 (rReadOid_ok n r64) fN) [] [] [1, 2] ⟨[(5, kB r13), (9, kH 0), (10, kE 31 r59.2), (11, kH 1), (12, kB r64.2)], [], [nw 89 r59.1, nw 89 r64.1]⟩ (aP g35 aN) ?_
       refine W_seq ?_
       refine Vrs hT [0, 1] ⟨[(5, kB r13), (9, kH 0), (10, kE 31 r59.2), (11, kH 1), (68, kB (!r64.2))], [], [nw 89 r59.1, nw 89 r64.1]⟩ ?_
       refine Vi ((!r64.2)) (fun g42 => ?_) (fun g42 => ?_)
       ·replace h := bif_t h g42
        refine W_seq ?_
        rcases Bool.eq_false_or_eq_true r13 with g36 | g36
        ·replace h := bif_t h g36
         obtain ⟨g37, h⟩ := gd_some h
         rcases Bool.eq_false_or_eq_true (r59.2 == (some 2)) with g38 | g38
         ·replace h := bif_t h g38
          refine Vg hT fN [(1, true), (6, true)] [] [] ⟨[(4, kB (((r59.1.length : Nat) : Int) == 0))], [], []⟩ (aP g36 (aP g37 (aP g38 aN))) ?_
          refine Vc [] [] (lOids_R (((r59.1.length : Nat) : Int) == 0)) (W_ret ?_)
          exact ⟨.inl rfl, by cases h; rfl⟩
         ·replace h := bif_f h g38
          refine Vg hT fN [(1, true), (6, false)] [] [] ⟨[(4, kB false)], [], []⟩ (aP g36 (aP g37 (aP g38 aN))) ?_
          refine Vc [] [] (lOids_R false) (W_ret ?_)
          exact ⟨.inl rfl, by cases h; rfl⟩
        ·replace h := bif_f h g36
         refine Vg hT fN [(1, false)] [] [] ⟨[(4, kB false)], [], []⟩ (aP g36 aN) ?_
         refine Vc [] [] (lOids_R false) (W_ret ?_)
         exact ⟨.inl rfl, by cases h; rfl⟩
       ·replace h := bif_f h g42
        refine Vc [] [0, 1] ⟨[(5, kB r13), (9, kH 0), (10, kE 31 r59.2), (11, kH 1)], [], [nw 89 r59.1, nw 89 r64.1]⟩ (W_skip ?_)
        refine W_seq ?_
        rcases Bool.eq_false_or_eq_true r13 with g39 | g39
        ·replace h := bif_t h g39
         rcases Bool.eq_false_or_eq_true ((r59.2).isNone) with g40 | g40
         ·replace h := bif_t h g40
          obtain ⟨r88, g41, h⟩ := bind_some' h
          refine Vg hT (fT 8 (lsame_ok n r88) fN) [(1, true), (5, true)] [] [] ⟨[(4, kB r88)], [], []⟩ (aP g39 (aP g40 (aP g41 aN))) ?_
          refine Vc [] [] (lOids_R r88) (W_ret ?_)
          exact ⟨.inl rfl, by cases h; rfl⟩
         ·replace h := bif_f h g40
          refine Vg hT fN [(1, true), (5, false)] [] [] ⟨[(4, kB false)], [], []⟩ (aP g39 (aP g40 aN)) ?_
          refine Vc [] [] (lOids_R false) (W_ret ?_)
          exact ⟨.inl rfl, by cases h; rfl⟩
        ·replace h := bif_f h g39
         refine Vg hT fN [(1, false)] [] [] ⟨[(4, kB false)], [], []⟩ (aP g39 aN) ?_
         refine Vc [] [] (lOids_R false) (W_ret ?_)
         exact ⟨.inl rfl, by cases h; rfl⟩
    ·replace h := bif_f h g31
     refine Vd hT fN 25 [(2, false), (14, false)] [(1, false), (5, false), (42, false), (44, false), (54, false)] [] [1] ⟨[(1, kH 0), (5, kB r13), (56, kB false)], [], [ob 5 l1]⟩ (aP g5 (aP g31 aN)) ?_
     refine Vi (false) (fun hb => by cases hb) (fun _ => ?_)
     refine W_skip ?_
     obtain ⟨r59, g44, h⟩ := bind_some' h
     refine Vgs hT (fT 1 (pReadOid_ok n r59) fN) [] [] [0, 1] ⟨[(1, kH 0), (5, kB r13), (9, kH 1), (10, kE 31 r59.2)], [], [ob 5 l1, nw 89 r59.1]⟩ (aP g44 aN) ?_
     obtain ⟨r64, g45, h⟩ := bind_some' h
     refine Vgs hT (fT 1 (rReadOid_ok n r64) fN) [] [] [1, 2] ⟨[(5, kB r13), (9, kH 0), (10, kE 31 r59.2), (11, kH 1), (12, kB r64.2)], [], [nw 89 r59.1, nw 89 r64.1]⟩ (aP g45 aN) ?_
     refine W_seq ?_
     refine Vrs hT [0, 1] ⟨[(5, kB r13), (9, kH 0), (10, kE 31 r59.2), (11, kH 1), (68, kB (!r64.2))], [], [nw 89 r59.1, nw 89 r64.1]⟩ ?_
     refine Vi ((!r64.2)) (fun g52 => ?_) (fun g52 => ?_)
     ·replace h := bif_t h g52
      refine W_seq ?_
      rcases Bool.eq_false_or_eq_true r13 with g46 | g46
      ·replace h := bif_t h g46
       obtain ⟨g47, h⟩ := gd_some h
       rcases Bool.eq_false_or_eq_true (r59.2 == (some 2)) with g48 | g48
       ·replace h := bif_t h g48
        refine Vg hT fN [(1, true), (6, true)] [] [] ⟨[(4, kB (((r59.1.length : Nat) : Int) == 0))], [], []⟩ (aP g46 (aP g47 (aP g48 aN))) ?_
        refine Vc [] [] (lOids_R (((r59.1.length : Nat) : Int) == 0)) (W_ret ?_)
        exact ⟨.inl rfl, by cases h; rfl⟩
       ·replace h := bif_f h g48
        refine Vg hT fN [(1, true), (6, false)] [] [] ⟨[(4, kB false)], [], []⟩ (aP g46 (aP g47 (aP g48 aN))) ?_
        refine Vc [] [] (lOids_R false) (W_ret ?_)
        exact ⟨.inl rfl, by cases h; rfl⟩
      ·replace h := bif_f h g46
       refine Vg hT fN [(1, false)] [] [] ⟨[(4, kB false)], [], []⟩ (aP g46 aN) ?_
       refine Vc [] [] (lOids_R false) (W_ret ?_)
       exact ⟨.inl rfl, by cases h; rfl⟩
     ·replace h := bif_f h g52
      refine Vc [] [0, 1] ⟨[(5, kB r13), (9, kH 0), (10, kE 31 r59.2), (11, kH 1)], [], [nw 89 r59.1, nw 89 r64.1]⟩ (W_skip ?_)
      refine W_seq ?_
      rcases Bool.eq_false_or_eq_true r13 with g49 | g49
      ·replace h := bif_t h g49
       rcases Bool.eq_false_or_eq_true ((r59.2).isNone) with g50 | g50
       ·replace h := bif_t h g50
        obtain ⟨r88, g51, h⟩ := bind_some' h
        refine Vg hT (fT 8 (lsame_ok n r88) fN) [(1, true), (5, true)] [] [] ⟨[(4, kB r88)], [], []⟩ (aP g49 (aP g50 (aP g51 aN))) ?_
        refine Vc [] [] (lOids_R r88) (W_ret ?_)
        exact ⟨.inl rfl, by cases h; rfl⟩
       ·replace h := bif_f h g50
        refine Vg hT fN [(1, true), (5, false)] [] [] ⟨[(4, kB false)], [], []⟩ (aP g49 (aP g50 aN)) ?_
        refine Vc [] [] (lOids_R false) (W_ret ?_)
        exact ⟨.inl rfl, by cases h; rfl⟩
      ·replace h := bif_f h g49
       refine Vg hT fN [(1, false)] [] [] ⟨[(4, kB false)], [], []⟩ (aP g49 aN) ?_
       refine Vc [] [] (lOids_R false) (W_ret ?_)
       exact ⟨.inl rfl, by cases h; rfl⟩
end Go.Proofs.Ytliilihbnhdemaa
end
section
namespace Go.Sx
open Go Go.RowKit Go.Ch Go.Proofs.Ytliilihbnhdemaa
def cnt : Nat → Nat → List UInt8
 | 0, _ => []
 | f + 1, m => if m = 0 then [] else cnt f (m / 128) ++ [UInt8.ofNat (m % 128 + 128)]
def gN (m : Nat) : List UInt8 := cnt 5 (m / 128) ++ [UInt8.ofNat (m % 128)]
theorem cnt_0 (f : Nat) : cnt f 0 = [] := by cases f <;> simp [cnt]
theorem cnt_up : ∀ (f m : Nat), m < 128 ^ f → cnt (f + 1) m = cnt f m
 | 0, m, h => by
  obtain rfl : m = 0 := by simpa using h
  rfl
 | f + 1, m, h => by
  rw [cnt]
  conv => rhs; rw [cnt]
  by_cases h0 : m = 0
  ·rw [if_pos h0, if_pos h0]
  ·rw [if_neg h0, if_neg h0, cnt_up f (m / 128) (Nat.div_lt_of_lt_mul (by rw [Nat.pow_succ] at h; omega))]
theorem cnt_step {m d : Nat} (h0 : 0 < m) (hd : d < 128) (h : m * 128 + d < 4294967296) : cnt 5 (m * 128 + d) = cnt 5 m ++ [UInt8.ofNat (d + 128)] := by
 rw [cnt, if_neg (by omega), show (m * 128 + d) / 128 = m by omega, show (m * 128 + d) % 128 = d by omega, cnt_up 4 m (by omega)]
theorem cnt_small {d : Nat} (h0 : 0 < d) (hd : d < 128) : cnt 5 d = [UInt8.ofNat (d + 128)] := by
 rw [cnt, if_neg (by omega), show d / 128 = 0 by omega, show d % 128 = d by omega, cnt_0]; rfl
theorem gN_step {m d : Nat} (hd : d < 128) : gN (m * 128 + d) = cnt 5 m ++ [UInt8.ofNat d] := by
 unfold gN; rw [show (m * 128 + d) / 128 = m by omega, show (m * 128 + d) % 128 = d by omega]
theorem gN_small {d : Nat} (hd : d < 128) : gN d = [UInt8.ofNat d] := by
 unfold gN; rw [show d / 128 = 0 by omega, show d % 128 = d by omega, cnt_0]; rfl
theorem cnt_len : ∀ (f m : Nat), (cnt f m).length ≤ f
 | 0, _ => Nat.le_refl _
 | f + 1, m => by
  rw [cnt]; split
  ·simp
  ·have := cnt_len f (m / 128); simp; omega
theorem or128 : ∀ k : Fin 128, (UInt8.ofNat k.1 ||| 128) = UInt8.ofNat (k.1 + 128) := by decide
theorem low7 (n : UInt32) : (n &&& 127).toUInt8 = UInt8.ofNat (n.toNat % 128) := by
 apply UInt8.toNat_inj.1
 rw [UInt32.toNat_toUInt8, UInt32.toNat_and, show (127 : UInt32).toNat = 2 ^ 7 - 1 from rfl, Nat.and_two_pow_sub_one_eq_mod]
 simp
theorem shr7n (n : UInt32) : (n >>> 7).toNat = n.toNat / 128 := by
 rw [UInt32.toNat_shiftRight, show (7 : UInt32).toNat % 32 = 7 from rfl, Nat.shiftRight_eq_div_pow]
theorem grpT_is : ∀ (f : Nat) (n : UInt32), (grpT f n).reverse = cnt f n.toNat
 | 0, _ => rfl
 | f + 1, n => by
  rw [grpT, cnt]
  by_cases h : n = 0
  ·subst h; rfl
  ·have h' : ¬ n.toNat = 0 := fun e => h (UInt32.toNat_inj.1 e)
   rw [if_neg h, if_neg h', List.reverse_cons, grpT_is f, shr7n, low7, or128 ⟨n.toNat % 128, Nat.mod_lt _ (by decide)⟩]
theorem grp_is (n : UInt32) : grp n = gN n.toNat := by
 unfold grp gN
 rw [List.reverse_cons, grpT_is, shr7n, low7]
theorem grp_len (n : UInt32) : (grp n).length ≤ 6 := by rw [grp_is]; unfold gN; have := cnt_len 5 (n.toNat / 128); simp; omega
theorem set_last {α : Type} (l : List α) (x y z : α) : (l ++ [x]).set ((l ++ [x]).length - 1) y = l ++ [y] ∧ (l ++ [x]).getD ((l ++ [x]).length - 1) z = x := by
 constructor
 ·rw [List.length_append, show l.length + [x].length - 1 = l.length from rfl, List.set_append_right _ _ (Nat.le_refl _), Nat.sub_self]; rfl
 ·rw [List.length_append, show l.length + [x].length - 1 = l.length from rfl, List.getD_eq_getElem?_getD, List.getElem?_append_right (Nat.le_refl _), Nat.sub_self]; rfl
theorem rgroup_is : ∀ (f n : Nat) (a : UInt32), a.toNat < 128 ^ f → f < n → rgroup n a = some (gN a.toNat)
 | f, 0, _, _, h => by omega
 | 0, n + 1, a, ha, _ => by
  have h0 : a.toNat = 0 := by simpa using ha
  obtain rfl : a = 0 := UInt32.toNat_inj.1 h0
  rfl
 | f + 1, n + 1, a, ha, hf => by
  rw [rgroup]
  by_cases h : a < 128
  ·have h' : a.toNat < 128 := by rw [UInt32.lt_iff_toNat_lt] at h; exact h
   rw [ite_t (decide_eq_true h), gN_small h']
   congr 2
  ·have h' : 128 ≤ a.toNat := by rw [UInt32.lt_iff_toNat_lt] at h; exact Nat.le_of_not_lt h
   have e : (a / 128).toNat = a.toNat / 128 := by rw [UInt32.toNat_div]; rfl
   rw [ite_f (decide_eq_false h), gd_pos (by decide), rgroup_is f n (a / 128) (by rw [e]; exact Nat.div_lt_of_lt_mul (by rw [Nat.pow_succ] at ha; omega)) (by omega), Option.bind_some, e]
   have hl : (gN (a.toNat / 128)).length ≤ 6 := by unfold gN; have := cnt_len 5 (a.toNat / 128 / 128); simp; omega
   have hp : 0 < (gN (a.toNat / 128)).length := by unfold gN; simp
   have ei : ((((gN (a.toNat / 128)).length : Nat) : Int) - 1).toNat = (gN (a.toNat / 128)).length - 1 := by omega
   rw [gd_pos (okI64 (by omega) (by omega)), gd_pos (okI64 (by omega) (by omega)), gd_pos (by omega), gd_pos (by omega), gd_pos (by omega), gd_pos (by omega), gd_pos (by decide), gd_pos (by unfold rmB; omega), ei]
   have hdiv : a.toNat / 128 / 128 * 128 + a.toNat / 128 % 128 = a.toNat / 128 := by omega
   have ha32 : a.toNat < 4294967296 := a.toNat_lt
   have hs := set_last (cnt 5 (a.toNat / 128 / 128)) (UInt8.ofNat (a.toNat / 128 % 128)) (UInt8.ofNat (a.toNat / 128 % 128) + 128) 0
   unfold gN
   rw [hs.2, hs.1]
   have e2 : UInt8.ofNat (a.toNat / 128 % 128) + 128 = UInt8.ofNat (a.toNat / 128 % 128 + 128) := by
    apply UInt8.toNat_inj.1; rw [UInt8.toNat_add]; simp
   rw [e2]
   have e3 : cnt 5 (a.toNat / 128 / 128) ++ [UInt8.ofNat (a.toNat / 128 % 128 + 128)] = cnt 5 (a.toNat / 128) := by
    conv => rhs; rw [cnt, if_neg (by omega)]
    rw [cnt_up 4 _ (by omega)]
   rw [e3]
   congr 3
theorem rgroup_g {n : Nat} (hn : 6 ≤ n) (a : UInt32) : rgroup n a = some (grp a) := by
 rw [grp_is]; exact rgroup_is 5 n a (by have := a.toNat_lt; omega) (by omega)
def oidOk (l : List UInt32) : Bool := decide (2 ≤ l.length) && decide (l.length ≤ 16) && (decide (l.getD 0 0 < 2) && decide (l.getD 1 0 < 40) || l.getD 0 0 == 2 && decide ((l.getD 1 0).toNat ≤ 4294967215))
theorem u32_3 (x : UInt32) : x < 2 ∨ x = 2 ∨ 2 < x := by
 rw [UInt32.lt_iff_toNat_lt, UInt32.lt_iff_toNat_lt, ← UInt32.toNat_inj]; show x.toNat < 2 ∨ x.toNat = 2 ∨ 2 < x.toNat; omega
theorem rOid_is (n : Nat) (l : List UInt32) : rOid n l = some (oidOk l) := by
 unfold rOid oidOk
 by_cases h1 : l.length < 2
 ·rw [ite_t (decide_eq_true (by omega)), decide_eq_false (show ¬ 2 ≤ l.length by omega)]; rfl
 ·rw [ite_f (decide_eq_false (by omega)), decide_eq_true (show 2 ≤ l.length by omega)]
  by_cases h2 : 16 < l.length
  ·rw [ite_t (decide_eq_true (by omega)), decide_eq_false (show ¬ l.length ≤ 16 by omega)]; rfl
  ·rw [ite_f (decide_eq_false (by omega)), decide_eq_true (show l.length ≤ 16 by omega), gd_pos (by omega), gd_pos (by omega)]
   rcases u32_3 (l.getD 0 0) with h | h | h
   ·have h' : ¬ 2 < l.getD 0 0 := fun h2 => UInt32.lt_irrefl _ (UInt32.lt_trans h h2)
    have h3 : (l.getD 0 0 == 2) = false := beq_eq_false_iff_ne.2 fun e => UInt32.lt_irrefl _ (e ▸ h)
    rw [ite_f (decide_eq_false h'), gd_pos (by omega), gd_pos (by omega), ite_t (decide_eq_true h), gd_pos (by omega), gd_pos (by omega), decide_eq_true h, h3]; simp
   ·rw [h, ite_f (by decide), gd_pos (by omega), gd_pos (by omega), ite_f (by decide), gd_pos (by omega), gd_pos (by omega)]
    simp [UInt32.le_iff_toNat_le]
   ·have h' : ¬ l.getD 0 0 < 2 := fun h2 => UInt32.lt_irrefl _ (UInt32.lt_trans h h2)
    have h3 : (l.getD 0 0 == 2) = false := beq_eq_false_iff_ne.2 fun e => UInt32.lt_irrefl _ (e ▸ h)
    rw [ite_t (decide_eq_true h), decide_eq_false h', h3]; rfl
theorem pident_is (n : Nat) (l : List UInt32) : pident n l = some (oidOk l) := by
 unfold pident oidOk
 by_cases h1 : l.length < 2
 ·rw [ite_t (decide_eq_true (by omega)), decide_eq_false (show ¬ 2 ≤ l.length by omega)]; rfl
 ·rw [ite_f (decide_eq_false (by omega)), decide_eq_true (show 2 ≤ l.length by omega)]
  by_cases h2 : 16 < l.length
  ·rw [ite_t (decide_eq_true (by omega)), decide_eq_false (show ¬ l.length ≤ 16 by omega)]; rfl
  ·rw [ite_f (decide_eq_false (by omega)), decide_eq_true (show l.length ≤ 16 by omega), gd_pos (by omega), gd_pos (by omega)]
   rcases u32_3 (l.getD 0 0) with h | h | h
   ·have h' : ¬ 2 < l.getD 0 0 := fun h2 => UInt32.lt_irrefl _ (UInt32.lt_trans h h2)
    have h3 : (l.getD 0 0 == 2) = false := beq_eq_false_iff_ne.2 fun e => UInt32.lt_irrefl _ (e ▸ h)
    rw [ite_f (decide_eq_false h'), gd_pos (by omega), gd_pos (by omega), ite_t (decide_eq_true h), gd_pos (by omega), gd_pos (by omega), decide_eq_true h, h3]; simp
   ·rw [h, ite_f (by decide), gd_pos (by omega), gd_pos (by omega), ite_f (by decide), gd_pos (by omega), gd_pos (by omega)]
    have e : (((l.getD 1 0).toUInt64 + 80 : UInt64) < 4294967296) ↔ (l.getD 1 0).toNat ≤ 4294967215 := by
     rw [UInt64.lt_iff_toNat_lt, UInt64.toNat_add, UInt32.toNat_toUInt64]
     have := (l.getD 1 0).toNat_lt
     show ((l.getD 1 0).toNat + 80) % 2 ^ 64 < 4294967296 ↔ _
     omega
    rw [show (decide (((l.getD 1 0).toUInt64 + 80 : UInt64) < 4294967296)) = decide ((l.getD 1 0).toNat ≤ 4294967215) from decide_eq_decide.2 e]
    simp
   ·have h' : ¬ l.getD 0 0 < 2 := fun h2 => UInt32.lt_irrefl _ (UInt32.lt_trans h h2)
    have h3 : (l.getD 0 0 == 2) = false := beq_eq_false_iff_ne.2 fun e => UInt32.lt_irrefl _ (e ▸ h)
    rw [ite_t (decide_eq_true h), decide_eq_false h', h3]; rfl
theorem oidOk_len {l : List UInt32} (h : oidOk l = true) : 2 ≤ l.length ∧ l.length ≤ 16 := by
 unfold oidOk at h
 simp only [Bool.and_eq_true, decide_eq_true_eq] at h
 exact ⟨h.1.1, h.1.2⟩
def grps (l : List UInt32) : List UInt8 := (l.map grp).flatten
theorem grps_cons (x : UInt32) (l : List UInt32) : grps (x :: l) = grp x ++ grps l := rfl
def bodyOf (l : List UInt32) : List UInt8 := grp (40 * l.getD 0 0 + l.getD 1 0) ++ grps (l.drop 2)
theorem drop_at {α : Type} {l : List α} {i : Nat} {z : α} (h : i < l.length) : l.drop i = l.getD i z :: l.drop (i + 1) := by
 rw [List.drop_eq_getElem_cons h, List.getD_eq_getElem?_getD, List.getElem?_eq_getElem h]; rfl
theorem pOid_l1_is (n : Nat) (l : List UInt32) (hl : 2 ≤ l.length) (h16 : l.length ≤ 16) : ∀ (m i fu : Nat) (acc : List UInt8), i + m = l.length - 2 → m < fu → acc.length ≤ 1000 - 6 * m → pOid_l1 n l fu acc (i : Int) = some (acc ++ grps (l.drop (2 + i)), none) := by
 intro m
 induction m with
 | zero =>
  intro i fu acc hi hf _
  cases fu with
  | zero => omega
  | succ fu => rw [pOid_l1, ite_f (decide_eq_false (by omega)), List.drop_eq_nil_of_le (by omega)]; simp [grps]
 | succ m ih =>
  intro i fu acc hi hf ha
  cases fu with
  | zero => omega
  | succ fu =>
   have e : ((l.drop 2).take (l.length - 2)).getD i 0 = l.getD (2 + i) 0 := by
    rw [List.take_of_length_le (by simp)]
    simp [List.getD_eq_getElem?_getD]
   have hg := grp_len (l.getD (2 + i) 0)
   rw [pOid_l1, ite_t (decide_eq_true (by omega)), gd_pos (by omega), gd_pos (by omega), Int.toNat_natCast, e, gd_pos (by unfold rmB; omega), gd_pos (okI64 (by omega) (by omega))]
   have := ih (i + 1) fu (acc ++ grp (l.getD (2 + i) 0)) (by omega) (by omega) (by rw [List.length_append]; omega)
   rw [drop_at (z := 0) (show 2 + i < l.length by omega), grps_cons, ← List.append_assoc]
   exact this
theorem pOid_is {n : Nat} (hn : 100 ≤ n) (l : List UInt32) : pOid n l = some (if oidOk l then (bodyOf l, none) else ([], some 1)) := by
 unfold pOid
 rw [pident_is, Option.bind_some]
 cases h : oidOk l with
 | false => rfl
 | true =>
  obtain ⟨h2, h16⟩ := oidOk_len h
  rw [ite_f (by rfl), gd_pos (by omega), gd_pos (by omega), gd_pos (by omega), gd_pos (by omega), gd_pos (by omega), gd_pos (by omega), if_pos rfl]
  have hg := grp_len (40 * l.getD 0 0 + l.getD 1 0)
  exact pOid_l1_is n l h2 h16 (l.length - 2) 0 n _ (by omega) (by omega) (by omega)
theorem rOidBody_l1_is {n : Nat} (hn : 6 ≤ n) (l : List UInt32) (h16 : l.length ≤ 1000) : ∀ (m i fu : Nat) (acc : List UInt8), 2 + i + m = l.length → m < fu → acc.length ≤ 10000 - 6 * m → rOidBody_l1 n l fu acc ((2 + i : Nat) : Int) = some (acc ++ grps (l.drop (2 + i))) := by
 intro m
 induction m with
 | zero =>
  intro i fu acc hi hf _
  cases fu with
  | zero => omega
  | succ fu => rw [rOidBody_l1, ite_f (decide_eq_false (by omega)), List.drop_eq_nil_of_le (by omega)]; simp [grps]
 | succ m ih =>
  intro i fu acc hi hf ha
  cases fu with
  | zero => omega
  | succ fu =>
   have hg := grp_len (l.getD (2 + i) 0)
   rw [rOidBody_l1, ite_t (decide_eq_true (by omega)), gd_pos (by omega), gd_pos (by omega), Int.toNat_natCast, rgroup_g hn, Option.bind_some, gd_pos (by unfold rmB; omega), gd_pos (okI64 (by omega) (by omega))]
   have := ih (i + 1) fu (acc ++ grp (l.getD (2 + i) 0)) (by omega) (by omega) (by rw [List.length_append]; omega)
   rw [drop_at (z := 0) (show 2 + i < l.length by omega), grps_cons, ← List.append_assoc]
   exact this
theorem rOidBody_is {n : Nat} (hn : 2000 ≤ n) {l : List UInt32} (h2 : 2 ≤ l.length) (h16 : l.length ≤ 1000) : rOidBody n l = some (bodyOf l) := by
 unfold rOidBody
 have hg := grp_len (40 * l.getD 0 0 + l.getD 1 0)
 rw [gd_pos (by omega), gd_pos (by omega), gd_pos (by omega), gd_pos (by omega), rgroup_g (by omega), Option.bind_some]
 exact rOidBody_l1_is (by omega) l h16 (l.length - 2) 0 n _ (by omega) (by omega) (by omega)
def pRd : List UInt8 → List UInt32 → Nat → Bool → Option (List UInt32)
 | [], acc, _, bg => if bg then none else some acc
 | x :: t, acc, n, bg => if (bg = false ∧ x = 128) ∨ 16 < acc.length then none
 else if 4294967296 ≤ n * 128 + x.toNat % 128 then none
 else if x < 128 then pRd t (acc ++ [UInt32.ofNat (n * 128 + x.toNat % 128)]) 0 false else pRd t acc (n * 128 + x.toNat % 128) true
def rRd : List UInt8 → List UInt32 → Nat → List UInt32
 | [], acc, _ => acc
 | x :: t, acc, n => if x < 128 then rRd t (acc ++ [UInt32.ofNat ((n * 128 + x.toNat % 128) % 4294967296)]) 0 else rRd t acc ((n * 128 + x.toNat % 128) % 4294967296)
theorem b_hi {d : Nat} (h : d < 128) : ¬ (UInt8.ofNat (d + 128) < 128) ∧ (UInt8.ofNat (d + 128)).toNat % 128 = d ∧ (UInt8.ofNat (d + 128) = 128 ↔ d = 0) := by
 have e : (UInt8.ofNat (d + 128)).toNat = d + 128 := by simp; omega
 refine ⟨by rw [UInt8.lt_iff_toNat_lt, e]; show ¬ d + 128 < 128; omega, by rw [e]; omega, ?_⟩
 rw [← UInt8.toNat_inj, e]; show d + 128 = 128 ↔ _; omega
theorem b_lo {d : Nat} (h : d < 128) : UInt8.ofNat d < 128 ∧ (UInt8.ofNat d).toNat % 128 = d ∧ UInt8.ofNat d ≠ 128 := by
 have e : (UInt8.ofNat d).toNat = d := by simp; omega
 refine ⟨by rw [UInt8.lt_iff_toNat_lt, e]; exact h, by rw [e]; omega, fun h2 => ?_⟩
 rw [← UInt8.toNat_inj, e] at h2; revert h2; show ¬ d = 128; omega
theorem cnt_div {m : Nat} (h0 : 0 < m) (h : m < 4294967296) : cnt 5 m = cnt 5 (m / 128) ++ [UInt8.ofNat (m % 128 + 128)] := by
 have := cnt_up 4 (m / 128) (by omega)
 rw [this]
 conv => lhs; rw [cnt, if_neg (by omega)]
theorem pRd_cnt : ∀ (k m : Nat) (t : List UInt8) (acc : List UInt32), m < k → 0 < m → m < 4294967296 → acc.length ≤ 16 → pRd (cnt 5 m ++ t) acc 0 false = pRd t acc m true
 | 0, _, _, _, h, _, _, _ => by omega
 | k + 1, m, t, acc, hk, h0, hm, ha => by
  obtain ⟨a1, a2, a3⟩ := b_hi (show m % 128 < 128 from Nat.mod_lt _ (by decide))
  rw [cnt_div h0 hm]
  by_cases h : m / 128 = 0
  ·rw [h, cnt_0, List.nil_append, List.singleton_append, pRd, if_neg (by rw [a3]; rintro (⟨_, h2⟩ | h2) <;> omega), a2, if_neg (by omega), if_neg a1]
   congr 1; omega
  ·rw [List.append_assoc, pRd_cnt k (m / 128) _ acc (by omega) (by omega) (by omega) ha, List.singleton_append, pRd, if_neg (by rintro (⟨h2, _⟩ | h2) <;> first | cases h2 | omega), a2, if_neg (by omega), if_neg a1]
   congr 1; omega
theorem pRd_grp (x : UInt32) (t : List UInt8) (acc : List UInt32) (ha : acc.length ≤ 16) : pRd (grp x ++ t) acc 0 false = pRd t (acc ++ [x]) 0 false := by
 have hx : x.toNat < 4294967296 := x.toNat_lt
 obtain ⟨a1, a2, a3⟩ := b_lo (show x.toNat % 128 < 128 from Nat.mod_lt _ (by decide))
 rw [grp_is]; unfold gN
 by_cases h : x.toNat / 128 = 0
 ·rw [h, cnt_0, List.nil_append, List.singleton_append, pRd, if_neg (by rintro (⟨_, h2⟩ | h2); exact a3 h2; omega), a2, if_neg (by omega), if_pos a1]
  congr 3
  rw [show 0 * 128 + x.toNat % 128 = x.toNat by omega, UInt32.ofNat_toNat]
 ·rw [List.append_assoc, pRd_cnt (x.toNat / 128 + 1) _ _ acc (by omega) (by omega) (by omega) ha, List.singleton_append, pRd, if_neg (by rintro (⟨h2, _⟩ | h2) <;> first | cases h2 | omega), a2, if_neg (by omega), if_pos a1]
  congr 3
  rw [show x.toNat / 128 * 128 + x.toNat % 128 = x.toNat by omega, UInt32.ofNat_toNat]
theorem pRd_grps : ∀ (ws acc : List UInt32), acc.length + ws.length ≤ 17 → pRd (grps ws) acc 0 false = some (acc ++ ws)
 | [], acc, _ => by simp [grps, pRd]
 | x :: ws, acc, h => by
  rw [List.length_cons] at h
  rw [grps_cons, pRd_grp x _ acc (by omega), pRd_grps ws _ (by simp; omega)]; simp
theorem rRd_cnt : ∀ (k m : Nat) (t : List UInt8) (acc : List UInt32), m < k → m < 4294967296 → rRd (cnt 5 m ++ t) acc 0 = rRd t acc m
 | 0, _, _, _, h, _ => by omega
 | k + 1, m, t, acc, hk, hm => by
  by_cases h0 : m = 0
  ·rw [h0, cnt_0]; rfl
  obtain ⟨a1, a2, a3⟩ := b_hi (show m % 128 < 128 from Nat.mod_lt _ (by decide))
  rw [cnt_div (by omega) hm, List.append_assoc, rRd_cnt k (m / 128) _ acc (by omega) (by omega), List.singleton_append, rRd, if_neg a1, a2]
  congr 1; omega
theorem rRd_grp (x : UInt32) (t : List UInt8) (acc : List UInt32) : rRd (grp x ++ t) acc 0 = rRd t (acc ++ [x]) 0 := by
 have hx : x.toNat < 4294967296 := x.toNat_lt
 obtain ⟨a1, a2, a3⟩ := b_lo (show x.toNat % 128 < 128 from Nat.mod_lt _ (by decide))
 rw [grp_is]; unfold gN
 rw [List.append_assoc, rRd_cnt (x.toNat / 128 + 1) _ _ acc (by omega) (by omega), List.singleton_append, rRd, if_pos a1, a2]
 congr 3
 rw [show (x.toNat / 128 * 128 + x.toNat % 128) % 4294967296 = x.toNat by omega, UInt32.ofNat_toNat]
theorem rRd_grps : ∀ (ws acc : List UInt32), rRd (grps ws) acc 0 = acc ++ ws
 | [], acc => by simp [grps, rRd]
 | x :: ws, acc => by rw [grps_cons, rRd_grp, rRd_grps ws]; simp
theorem byte_hi {x : UInt8} (h : ¬ x < 128) : x = UInt8.ofNat (x.toNat % 128 + 128) := by
 rw [UInt8.lt_iff_toNat_lt] at h
 have h2 : 128 ≤ x.toNat := Nat.le_of_not_lt h
 have := x.toNat_lt
 apply UInt8.toNat_inj.1; simp; omega
theorem byte_lo {x : UInt8} (h : x < 128) : x = UInt8.ofNat (x.toNat % 128) := by
 rw [UInt8.lt_iff_toNat_lt] at h
 have h2 : x.toNat < 128 := h
 apply UInt8.toNat_inj.1; simp; omega
theorem pRd_some : ∀ (t : List UInt8) (acc w : List UInt32) (n : Nat) (bg : Bool), (bg = false → n = 0) → (bg = true → 0 < n) → n < 4294967296 → pRd t acc n bg = some w → ∃ ws, w = acc ++ ws ∧ cnt 5 n ++ t = grps ws
 | [], acc, w, n, bg, h0, h1, hn, h => by
  rw [pRd] at h
  cases bg with
  | true => cases h
  | false =>
   obtain rfl := h0 rfl
   injection h with h
   exact ⟨[], by simp [h], rfl⟩
 | x :: t, acc, w, n, bg, h0, h1, hn, h => by
  rw [pRd] at h
  split at h
  ·cases h
  ·rename_i hc
   split at h
   ·cases h
   ·rename_i hlt
    have hm : x.toNat % 128 < 128 := Nat.mod_lt _ (by decide)
    split at h
    ·rename_i hx
     obtain ⟨ws, rfl, hw⟩ := pRd_some t _ w 0 false (fun _ => rfl) (fun e => by cases e) (by decide) h
     refine ⟨UInt32.ofNat (n * 128 + x.toNat % 128) :: ws, by simp, ?_⟩
     have e : (UInt32.ofNat (n * 128 + x.toNat % 128)).toNat = n * 128 + x.toNat % 128 := by simp; omega
     rw [cnt_0, List.nil_append] at hw
     rw [grps_cons, grp_is, e, gN_step hm, ← byte_lo hx, ← hw]; simp
    ·rename_i hx
     have hpos : 0 < n * 128 + x.toNat % 128 := by
      cases bg with
      | true => have := h1 rfl; omega
      | false =>
       have hne : x ≠ 128 := fun e => hc (.inl ⟨rfl, e⟩)
       rw [byte_hi hx] at hne
       have : ¬ x.toNat % 128 = 0 := fun e => hne ((b_hi hm).2.2.2 e)
       omega
     obtain ⟨ws, rfl, hw⟩ := pRd_some t _ w _ true (fun e => by cases e) (fun _ => hpos) (by omega) h
     refine ⟨ws, rfl, ?_⟩
     rw [← hw]
     have : cnt 5 (n * 128 + x.toNat % 128) = cnt 5 n ++ [x] := by
      rcases Nat.eq_zero_or_pos n with hz | hz
      ·subst hz
       rw [cnt_0, Nat.zero_mul, Nat.zero_add, cnt_small (by omega) hm, ← byte_hi hx]; rfl
      ·rw [cnt_step hz hm (by omega), ← byte_hi hx]
     rw [this]; simp
def lOf (w : List UInt32) : List UInt32 := [if 2 < w.getD 0 0 / 40 then 2 else w.getD 0 0 / 40, w.getD 0 0 - 40 * (if 2 < w.getD 0 0 / 40 then 2 else w.getD 0 0 / 40)] ++ w.drop 1
theorem u32_back (a b : UInt32) : a + (b - a) = b := by
 apply UInt32.toNat_inj.1
 have ha := a.toNat_lt; have hb := b.toNat_lt
 rw [UInt32.toNat_add, UInt32.toNat_sub]
 omega
theorem bodyOf_lOf {w : List UInt32} (h : w ≠ []) : bodyOf (lOf w) = grps w := by
 cases w with
 | nil => exact absurd rfl h
 | cons x t =>
  unfold bodyOf lOf
  exact congrArg (fun y => grp y ++ grps t) (u32_back _ x)
def pFin (w : List UInt32) : List UInt32 × Option Int := if w ≠ [] ∧ oidOk (lOf w) = true then (lOf w, none) else ([], some 2)
def rFin (a : List UInt8) (w : List UInt32) : List UInt32 × Bool := if w ≠ [] ∧ oidOk (lOf w) = true ∧ bodyOf (lOf w) = a then (lOf w, true) else ([], false)
def pAll (a : List UInt8) : List UInt32 × Option Int := match pRd a [] 0 false with | none => ([], some 2) | some w => pFin w
def rAll (a : List UInt8) : List UInt32 × Bool := if 100 < a.length then ([], false) else rFin a (rRd a [] 0)
theorem lOf_len {w : List UInt32} (h : w ≠ []) : (lOf w).length = w.length + 1 := by
 cases w with
 | nil => exact absurd rfl h
 | cons x t => simp [lOf]
theorem grps_len5 : ∀ l : List UInt32, (grps l).length ≤ 5 * l.length
 | [] => Nat.le_refl _
 | x :: l => by
  rw [grps_cons, List.length_append, List.length_cons]
  have := grps_len5 l
  have hx : x.toNat < 4294967296 := x.toNat_lt
  have : (grp x).length ≤ 5 := by
   rw [grp_is]; unfold gN; rw [cnt_up 4 _ (by omega)]
   have := cnt_len 4 (x.toNat / 128); simp; omega
  omega
theorem all_eq (a : List UInt8) : (∃ l, oidOk l = true ∧ bodyOf l = a ∧ pAll a = (l, none) ∧ rAll a = (l, true)) ∨ (pAll a = ([], some 2) ∧ rAll a = ([], false)) := by
 cases h : pRd a [] 0 false with
 | some w =>
  obtain ⟨ws, e, hw⟩ := pRd_some a [] w 0 false (fun _ => rfl) (fun e => by cases e) (by decide) h
  rw [List.nil_append] at e; subst e
  rw [cnt_0, List.nil_append] at hw
  by_cases hc : w ≠ [] ∧ oidOk (lOf w) = true
  ·refine .inl ⟨lOf w, hc.2, by rw [bodyOf_lOf hc.1, hw], ?_, ?_⟩
   ·unfold pAll; rw [h]; exact if_pos hc
   ·unfold rAll
    have h1 := (oidOk_len hc.2).2
    rw [lOf_len hc.1] at h1
    have h2 := grps_len5 w
    rw [if_neg (by rw [hw]; omega)]
    have e : rRd a [] 0 = w := by rw [hw, rRd_grps]; rfl
    rw [e]; exact if_pos ⟨hc.1, hc.2, by rw [bodyOf_lOf hc.1, hw]⟩
  ·refine .inr ⟨?_, ?_⟩
   ·unfold pAll; rw [h]; exact if_neg hc
   ·unfold rAll
    split
    ·rfl
    ·have e : rRd a [] 0 = w := by rw [hw, rRd_grps]; rfl
     rw [e]; exact if_neg fun hh => hc ⟨hh.1, hh.2.1⟩
 | none =>
  refine .inr ⟨by unfold pAll; rw [h], ?_⟩
  unfold rAll
  split
  ·rfl
  ·refine if_neg fun ⟨h1, h2, h3⟩ => ?_
   rw [bodyOf_lOf h1] at h3
   have h4 := (oidOk_len h2).2
   rw [lOf_len h1] at h4
   generalize rRd a [] 0 = w at *
   rw [← h3, pRd_grps w [] (by simp; omega)] at h
   cases h
theorem shl7_or (y : UInt64) (x : UInt8) (h : y.toNat < 4294967296) : (shl64 y 7 ||| (x &&& 127).toUInt64).toNat = y.toNat * 128 + x.toNat % 128 := by
 have e1 : (shl64 y 7).toNat = y.toNat * 128 := by
  unfold shl64
  rw [if_pos (by decide), UInt64.toNat_shiftLeft, show (UInt64.ofNat (7 : Int).toNat).toNat % 64 = 7 from rfl, Nat.shiftLeft_eq]
  omega
 have e2 : (x &&& 127).toUInt64.toNat = x.toNat % 128 := by
  rw [UInt8.toNat_toUInt64, UInt8.toNat_and, show (127 : UInt8).toNat = 2 ^ 7 - 1 from rfl, Nat.and_two_pow_sub_one_eq_mod]
 rw [UInt64.toNat_or, e1, e2, show y.toNat * 128 = y.toNat <<< 7 by rw [Nat.shiftLeft_eq], ← Nat.shiftLeft_add_eq_or_of_lt (Nat.mod_lt _ (by decide)), Nat.shiftLeft_eq]
def pEnd (o : Option (List UInt32)) : List UInt32 × Option Int := match o with | none => ([], some 2) | some w => pFin w
theorem flat2 (w : List UInt32) (f g : UInt32) : ([[f, g], ((w.drop 1).take (w.length - 1))] : List (List UInt32)).flatten = [f, g] ++ w.drop 1 := by
 rw [List.take_of_length_le (by simp)]; simp
theorem pReadOid_l1_is (n : Nat) {a : List UInt8} (ha : a.length ≤ 1000) : ∀ (m i fu : Nat) (w : List UInt32) (y : UInt64) (bg : Bool), i + m = a.length → m < fu → w.length ≤ 17 → y.toNat < 4294967296 →
  pReadOid_l1 n a fu w y bg (i : Int) = some (pEnd (pRd (a.drop i) w y.toNat bg)) := by
 intro m
 induction m with
 | zero =>
  intro i fu w y bg hi hf hw hy
  cases fu with
  | zero => omega
  | succ fu =>
   rw [pReadOid_l1, ite_f (decide_eq_false (by omega)), List.drop_eq_nil_of_le (show a.length ≤ i by omega), pRd]
   cases bg with
   | true => rfl
   | false =>
    rw [ite_f (by rfl)]
    by_cases h0 : w = []
    ·subst h0; rfl
    ·have hpos : 0 < w.length := List.length_pos_iff.2 h0
     rw [ite_f (by simp; omega), gd_pos (by omega), gd_pos (by omega), gd_pos (by decide), gd_pos (by omega), gd_pos (by omega), gd_pos (by omega), gd_pos (by omega), flat2]
     have hl : (lOf w).length ≤ 18 := by rw [lOf_len h0]; omega
     rw [gd_pos (by simp), gd_pos (by have := hl; unfold lOf at this; omega)]
     change ((pident n (lOf w)).bind fun r => bif !r then some ([], some 2) else some (lOf w, none)) = _
     rw [pident_is, Option.bind_some, if_neg (by simp)]
     show _ = some (pFin w)
     unfold pFin
     cases h : oidOk (lOf w) with
     | true => rw [if_pos ⟨h0, rfl⟩]; rfl
     | false => rw [if_neg (by simp)]; rfl
 | succ m ih =>
  intro i fu w y bg hi hf hw hy
  cases fu with
  | zero => omega
  | succ fu =>
   have hd := drop_at (l := a) (z := 0) (show i < a.length by omega)
   have hy7 := shl7_or y (a.getD i 0) hy
   have hlast : ∀ hw16 : w.length ≤ 16, (gd (0 ≤ (7 : Int)) <|
     bif (decide ((4294967296 : UInt64) ≤ ((shl64 y 7) ||| (((a.getD i 0) &&& (127 : UInt8)).toUInt64)))) then some ([], (some 2))
     else bif (decide ((a.getD i 0) < (128 : UInt8))) then
       gd (rmB (w.length + 1) 4) <| pReadOid_j1 n a (i : Int) (pReadOid_l1 n a fu) (w ++ [((shl64 y 7) ||| (((a.getD i 0) &&& (127 : UInt8)).toUInt64)).toUInt32]) 0 false
      else pReadOid_j1 n a (i : Int) (pReadOid_l1 n a fu) w ((shl64 y 7) ||| (((a.getD i 0) &&& (127 : UInt8)).toUInt64)) true) =
     some (pEnd (if 4294967296 ≤ y.toNat * 128 + (a.getD i 0).toNat % 128 then none
      else if a.getD i 0 < 128 then pRd (a.drop (i + 1)) (w ++ [UInt32.ofNat (y.toNat * 128 + (a.getD i 0).toNat % 128)]) 0 false else pRd (a.drop (i + 1)) w (y.toNat * 128 + (a.getD i 0).toNat % 128) true)) := by
    intro hw16
    rw [gd_pos (by decide)]
    by_cases hbig : 4294967296 ≤ y.toNat * 128 + (a.getD i 0).toNat % 128
    ·rw [if_pos hbig, ite_t (decide_eq_true (by rw [UInt64.le_iff_toNat_le, hy7]; exact hbig))]; rfl
    ·rw [if_neg hbig, ite_f (decide_eq_false (by rw [UInt64.le_iff_toNat_le, hy7]; exact hbig))]
     by_cases hlo : a.getD i 0 < 128
     ·have e32 : ((shl64 y 7) ||| (((a.getD i 0) &&& (127 : UInt8)).toUInt64)).toUInt32 = UInt32.ofNat (y.toNat * 128 + (a.getD i 0).toNat % 128) := by
       apply UInt32.toNat_inj.1
       rw [UInt64.toNat_toUInt32, hy7]; simp
      rw [if_pos hlo, ite_t (decide_eq_true hlo), gd_pos (by unfold rmB; omega)]
      unfold pReadOid_j1
      rw [gd_pos (okI64 (by omega) (by omega)), e32]
      exact ih (i + 1) fu _ 0 false (by omega) (by omega) (by simp; omega) (by decide)
     ·rw [if_neg hlo, ite_f (decide_eq_false hlo)]
      unfold pReadOid_j1
      rw [gd_pos (okI64 (by omega) (by omega))]
      have := ih (i + 1) fu w ((shl64 y 7) ||| (((a.getD i 0) &&& (127 : UInt8)).toUInt64)) true (by omega) (by omega) hw (by rw [hy7]; omega)
      rw [hy7] at this
      exact this
   rw [pReadOid_l1, ite_t (decide_eq_true (by omega)), gd_pos (by omega), gd_pos (by omega), hd, pRd, Int.toNat_natCast]
   cases bg with
   | true =>
    rw [ite_f (by rfl)]
    by_cases h16 : 16 < w.length
    ·rw [ite_t (decide_eq_true (by omega)), if_pos (.inr h16)]; rfl
    ·rw [ite_f (decide_eq_false (by omega)), if_neg (by rintro (⟨h, _⟩ | h); cases h; exact h16 h)]
     exact hlast (by omega)
   | false =>
    rw [ite_t (by rfl)]
    by_cases h128 : a.getD i 0 = 128
    ·rw [ite_t (by rw [h128]; rfl), if_pos (.inl ⟨rfl, h128⟩)]; rfl
    ·rw [ite_f (beq_eq_false_iff_ne.2 h128)]
     by_cases h16 : 16 < w.length
     ·rw [ite_t (decide_eq_true (by omega)), if_pos (.inr h16)]; rfl
     ·rw [ite_f (decide_eq_false (by omega)), if_neg (by rintro (⟨_, h⟩ | h); exact h128 h; exact h16 h)]
      exact hlast (by omega)
theorem pReadOid_is {n : Nat} {a : List UInt8} (ha : a.length ≤ 1000) (hn : 2000 ≤ n) : pReadOid n a = some (pAll a) := by
 unfold pReadOid
 have := pReadOid_l1_is n ha a.length 0 n [] 0 false (by omega) (by omega) (by simp) (by decide)
 rw [List.drop_zero] at this
 exact this
theorem rReadOid_l1_is {n : Nat} (hn : 2000 ≤ n) {a : List UInt8} (ha : a.length ≤ 100) : ∀ (m i fu : Nat) (w : List UInt32) (y : UInt32), i + m = a.length → m < fu → w.length ≤ i →
  rReadOid_l1 n a fu w y (i : Int) = some (rFin a (rRd (a.drop i) w y.toNat)) := by
 intro m
 induction m with
 | zero =>
  intro i fu w y hi hf hw
  cases fu with
  | zero => omega
  | succ fu =>
   rw [rReadOid_l1, ite_f (decide_eq_false (by omega)), List.drop_eq_nil_of_le (show a.length ≤ i by omega), rRd]
   by_cases h0 : w = []
   ·subst h0; rfl
   ·have hpos : 0 < w.length := List.length_pos_iff.2 h0
    have hj : ∀ f : UInt32, f = (if 2 < w.getD 0 0 / 40 then 2 else w.getD 0 0 / 40) → rReadOid_j2 n a w f = some (rFin a w) := by
     intro f hf
     unfold rReadOid_j2
     have el : ([f, ((w.getD 0 0) - ((40 : UInt32) * f))] ++ ((w.drop 1).take (w.length - 1))) = lOf w := by
      rw [List.take_of_length_le (by simp), hf]; rfl
     rw [gd_pos (by omega), gd_pos (by omega), gd_pos (by omega), gd_pos (by omega), gd_pos (by unfold rmB; omega), el, rOid_is, Option.bind_some]
     unfold rFin
     cases h : oidOk (lOf w) with
     | false => rw [if_neg (by simp)]; rfl
     | true =>
      have hl := oidOk_len h
      rw [ite_f (by rfl), rOidBody_is hn hl.1 (by omega), Option.bind_some]
      by_cases hb : bodyOf (lOf w) = a
      ·rw [if_pos ⟨h0, rfl, hb⟩, hb, ite_f (by simp)]
      ·rw [if_neg (fun hh => hb hh.2.2), ite_t (by simpa using hb)]
    rw [ite_f (by simp; omega), gd_pos (by omega), gd_pos (by omega), gd_pos (by decide)]
    by_cases h2 : 2 < w.getD 0 0 / 40
    ·rw [ite_t (decide_eq_true h2)]; exact hj 2 (by rw [if_pos h2])
    ·rw [ite_f (decide_eq_false h2)]; exact hj _ (by rw [if_neg h2])
 | succ m ih =>
  intro i fu w y hi hf hw
  cases fu with
  | zero => omega
  | succ fu =>
   have hd := drop_at (l := a) (z := 0) (show i < a.length by omega)
   have e : ((y * (128 : UInt32)) + (((a.getD i 0) % (128 : UInt8)).toUInt32)).toNat = (y.toNat * 128 + (a.getD i 0).toNat % 128) % 4294967296 := by
    rw [UInt32.toNat_add, UInt32.toNat_mul, UInt8.toNat_toUInt32, UInt8.toNat_mod]
    show (y.toNat * 128 % 4294967296 + (a.getD i 0).toNat % 128) % 4294967296 = _
    omega
   rw [rReadOid_l1, ite_t (decide_eq_true (by omega)), gd_pos (by omega), gd_pos (by omega), gd_pos (by decide), gd_pos (by omega), gd_pos (by omega), hd, rRd, Int.toNat_natCast, ← e]
   by_cases hlo : a.getD i 0 < 128
   ·rw [if_pos hlo, ite_t (decide_eq_true hlo), gd_pos (by unfold rmB; omega)]
    unfold rReadOid_j1
    rw [gd_pos (okI64 (by omega) (by omega)), UInt32.ofNat_toNat]
    exact ih (i + 1) fu _ 0 (by omega) (by omega) (by simp; omega)
   ·rw [if_neg hlo, ite_f (decide_eq_false hlo)]
    unfold rReadOid_j1
    rw [gd_pos (okI64 (by omega) (by omega))]
    exact ih (i + 1) fu w _ (by omega) (by omega) (by omega)
theorem rReadOid_is {n : Nat} {a : List UInt8} (hn : 2000 ≤ n) : rReadOid n a = some (rAll a) := by
 unfold rReadOid rAll
 by_cases h : 100 < a.length
 ·rw [ite_t (decide_eq_true (by omega)), if_pos h]
 ·rw [ite_f (decide_eq_false (by omega)), if_neg h]
  have := rReadOid_l1_is hn (a := a) (by omega) a.length 0 n [] 0 (by omega) (by omega) (by simp)
  rw [List.drop_zero] at this
  exact this
theorem lsame_l1_is (n : Nat) {a b : List UInt32} (hab : a.length = b.length) (ha : a.length ≤ 1000) : ∀ (m i fu : Nat), i + m = a.length → m < fu → (∀ k, k < i → a.getD k 0 = b.getD k 0) → lsame_l1 n a b fu (i : Int) = some (a == b) := by
 intro m
 induction m with
 | zero =>
  intro i fu hi hf hk
  cases fu with
  | zero => omega
  | succ fu =>
   rw [lsame_l1, ite_f (decide_eq_false (by omega))]
   have : a = b := by
    apply List.ext_getElem hab
    intro k h1 h2
    have := hk k (by omega)
    rw [List.getD_eq_getElem?_getD, List.getElem?_eq_getElem h1, List.getD_eq_getElem?_getD, List.getElem?_eq_getElem h2] at this
    exact this
   subst this; simp
 | succ m ih =>
  intro i fu hi hf hk
  cases fu with
  | zero => omega
  | succ fu =>
   rw [lsame_l1, ite_t (decide_eq_true (by omega)), gd_pos (by omega), gd_pos (by omega), gd_pos (by omega), gd_pos (by omega), Int.toNat_natCast]
   by_cases h : a.getD i 0 = b.getD i 0
   ·rw [ite_f (by rw [h]; simp), gd_pos (okI64 (by omega) (by omega))]
    exact ih (i + 1) fu (by omega) (by omega) fun k hk' => by
     rcases Nat.lt_succ_iff_lt_or_eq.1 hk' with h1 | h1
     ·exact hk k h1
     ·rw [h1]; exact h
   ·rw [ite_t (by simpa using h)]
    have : a ≠ b := fun e => h (by rw [e])
    rw [beq_eq_false_iff_ne.2 this]
theorem lsame_is {n : Nat} (hn : 2000 ≤ n) (a b : List UInt32) (ha : a.length ≤ 1000) : lsame n a b = some (a == b) := by
 unfold lsame
 by_cases h : a.length = b.length
 ·rw [ite_f (by simp [h])]
  exact lsame_l1_is n h ha a.length 0 n (by omega) (by omega) (fun k hk => by omega)
 ·rw [ite_t (by simp; omega)]
  have : a ≠ b := fun e => h (by rw [e])
  rw [beq_eq_false_iff_ne.2 this]
theorem up8_o : pup 2000 = some true := by decide +kernel
theorem oids_tail (b : List UInt8) (hb : b.length ≤ 200) :
  ((pReadOid 2000 b).bind fun r59 =>
   (rReadOid 2000 b).bind fun r64 =>
   bif (!r64.2) then
    bif true then
     gd (¬((r59.2 : Option Int) = none ∧ ((some 2) : Option Int) = none)) <|
     bif (r59.2 == (some 2)) then
      some (((r59.1.length : Nat) : Int) == 0)
     else
      some false
    else
     some false
   else
    bif true then
     bif ((r59.2).isNone) then
      (lsame 2000 r59.1 r64.1).bind fun r88 =>
      some r88
     else
      some false
    else
     some false) = some true := by
 rw [pReadOid_is (by omega) (by decide), Option.bind_some, rReadOid_is (by decide), Option.bind_some]
 rcases all_eq b with ⟨l, h1, h2, h3, h4⟩ | ⟨h3, h4⟩
 ·rw [h3, h4]
  have hl := oidOk_len h1
  rw [ite_f (by rfl), ite_t (by rfl), ite_t (by rfl), lsame_is (by decide) l l (by omega), Option.bind_some]
  simp
 ·rw [h3, h4]; simp [gd_pos]
theorem lOids_is (a : List UInt32) (b : List UInt8) : lOids 2000 a b = some true := by
 unfold lOids
 rw [up8_o, Option.bind_some]
 by_cases h0 : 50 < a.length
 ·rw [ite_t (decide_eq_true (by omega))]
 ·rw [ite_f (decide_eq_false (by omega))]
  by_cases h1 : 200 < b.length
  ·rw [ite_t (decide_eq_true (by omega))]
  ·rw [ite_f (decide_eq_false (by omega)), pOid_is (by decide), Option.bind_some, rOid_is, Option.bind_some]
   cases h : oidOk a with
   | true =>
    have hl := oidOk_len h
    rw [if_pos rfl, ite_f (by rfl), ite_t (by rfl), ite_f (by rfl), rOidBody_is (by decide) hl.1 (by omega), Option.bind_some, ite_f (by simp)]
    exact oids_tail b (by omega)
   | false =>
    rw [if_neg (by simp), ite_t (by rfl), gd_pos (by simp), ite_f (by rfl), ite_f (by rfl), ite_f (by rfl)]
    exact oids_tail b (by omega)
end Go.Sx
end
section
namespace Go.Sx
open Go Go.RowKit Go.Ch Go.Proofs.Ytliilihbnhdemaa
end Go.Sx
namespace Go.Proofs.Ytliilihbnhdemaa
open Go.RowKit Go.Ch Go.Sx
theorem primOids_c (w : World) (B0 : Nat) (v0 : Value) (l0 : List UInt32) (hv0 : Sl w B0 v0 (l0.map w32)) (B1 : Nat) (v1 : Value) (l1 : List UInt8) (hv1 : Sl w B1 v1 (l1.map bU)) :
  Calls Try.prog 9 #[v0, v1] w (Ret fun v' w' => Ext w w' ∧ v' = .bool true) := by
 obtain ⟨p0, a0, b0⟩ := in_w hv0 89
 obtain ⟨p1, a1, b1⟩ := in_b hv1 5
 exact law_of (lOids_ok 2000 true) (args := [.c (.wh 0), .c (.wh 1)]) (H := [⟨.ro false, 89, 1, l0.length, .w l0⟩, ⟨.ro false, 5, 1, l1.length, .b l1⟩]) (ρ := plL [p0, p1]) (vals := [v0, v1]) rfl (allP_cons.2 ⟨lOids_is l0 l1, allP_nil⟩) trivial (hpL (ps := [p0, p1]) (F2.cons b0 (F2.cons b1 F2.nil))) (F2.cons a0 (F2.cons a1 F2.nil))
end Go.Proofs.Ytliilihbnhdemaa
end
