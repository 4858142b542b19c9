import Derived.Test.YtliilihbnhdemaaZ1
import Derived.Test.YtliilihbnhdemaaRows
import Derived.Test.YtliilihbnhdemaaChecked
import Derived.WalkKit
import Derived.ProofKit
import Derived.OpenShut
import Derived.ShutString
import Derived.ChangeOld
import Derived.Below
import Derived.Test.YtliilihbnhdemaaProg
import Derived.Shelf.RegionOpenPlain
import Derived.Deep.LoopGhost
import Derived.Lib.Walk
import Derived.Sort.WalkB12
import Derived.Lib.SlicesMore
section
set_option linter.unusedVariables false
set_option linter.unusedSimpArgs false
namespace Go.Sx
open Go.RowKit Go.Ch
section
variable {P : Program} {T : Tab} {ρ ρ' : Pls} {w w' : World} {bs : Bs} {w0 : World} {s s' : S} {a : Act} {N : Nat}

/-! ### what is handed back, cells among it -/
def rvA (T : Tab) (s : S) : ResultVar → Option AV
  | .tmp t => s.fr.lookup t
  | .cell p ty => match s.fr.lookup p with
    | some x => (match ldA T s.H ty x with | some ([], z) => some z | _ => none)
    | none => none
theorem loadAt_run {t : TypeId} {v u : Value} (h : (Instr.loadAt t v).run P w = .ok u w) : (do loadVar t (← asAddr v) : Sem Value).run P w = .ok u w := by
  unfold Instr.loadAt Instr.sureAddr at h
  cases v with
  | pointer a => cases a with
    | some a => simpa [asAddr] using h
    | none => simp at h
  | _ => simp at h
def rvM (tmps : Array Value) : ResultVar → Sem Value
  | .tmp t => pure (tmps.getD t undef)
  | .cell p ty => do loadVar ty (← asAddr (tmps.getD p undef))
theorem results_rv (fn : Func) (tmps : Array Value) : results fn tmps = (do
    let vs ← fn.results.mapM (rvM tmps)
    pure (if h : vs.size = 1 then vs[0] else .tuple vs)) := by
  unfold results
  have e : rvM tmps = fun r => (match r with | .tmp t => (pure (tmps.getD t undef) : Sem Value) | .cell p ty => (do loadVar ty (← asAddr (tmps.getD p undef)))) := by
    funext r; cases r <;> rfl
  rw [e]; rfl
theorem rvA_ok (hT : TabOk P T) (hr : RelA ρ bs w0 s a w) {r : ResultVar} {av : AV} (h : rvA T s r = some av) :
    ∃ v, (rvM a.tmps r).run P w = .ok v w ∧ avR ρ av v := by
  cases r with
  | tmp t => exact ⟨_, rfl, hr.fr t _ h⟩
  | cell p ty =>
    simp only [rvA] at h
    split at h
    · rename_i x hx
      split at h
      · rename_i z hz
        injection h with h; subst h
        obtain ⟨u, h1, h2⟩ := ldA_ok hT hr.hp hz allP_nil (hr.fr p x hx)
        exact ⟨u, loadAt_run h1, h2⟩
      · cases h
    · cases h
def a1Of : AV → Option A1
  | .c x => some (.c x)
  | .g n cs => some (.g n cs)
  | .t _ => none
theorem a1Of_ok {x : AV} {y : A1} (h : a1Of x = some y) {v : Value} (hv : avR ρ x v) : a1R ρ y v := by
  cases x <;> simp only [a1Of] at h <;> first | (injection h with h; subst h; exact hv) | cases h
def resA (T : Tab) (s : S) : List ResultVar → Option AV
  | [] => some (.t [])
  | [r] => rvA T s r
  | [r, r'] => (match rvA T s r, rvA T s r' with
    | some x, some y => (match a1Of x, a1Of y with | some x, some y => some (.t [x, y]) | _, _ => none)
    | _, _ => none)
  | [r, r', r''] => (match rvA T s r, rvA T s r', rvA T s r'' with
    | some x, some y, some z => (match a1Of x, a1Of y, a1Of z with | some x, some y, some z => some (.t [x, y, z]) | _, _, _ => none)
    | _, _, _ => none)
  | _ => none
theorem resA_ok (hT : TabOk P T) (hr : RelA ρ bs w0 s a w) {fn : Func} {rs : List ResultVar} (hf : fn.results = rs.toArray) {av : AV} (h : resA T s rs = some av) :
    ∃ v, (results fn a.tmps).run P w = .ok v w ∧ avR ρ av v := by
  unfold resA at h
  split at h
  · injection h with h; subst h
    exact ⟨.tuple #[], by simp [results, hf], [], F2.nil, rfl⟩
  · rename_i r
    obtain ⟨v, h1, h2⟩ := rvA_ok hT hr h
    refine ⟨v, ?_, h2⟩
    rw [results_rv, hf]; simp [h1]
  · rename_i r r'
    split at h
    · rename_i x y hx hy
      split at h
      · rename_i x1 y1 hx1 hy1
        injection h with h; subst h
        obtain ⟨v, h1, h2⟩ := rvA_ok hT hr hx
        obtain ⟨u, h3, h4⟩ := rvA_ok hT hr hy
        refine ⟨.tuple #[v, u], ?_, [v, u], F2.cons (a1Of_ok hx1 h2) (F2.cons (a1Of_ok hy1 h4) F2.nil), rfl⟩
        rw [results_rv, hf]; simp [h1, h3]
      · cases h
    · cases h
  · rename_i r r' r''
    split at h
    · rename_i x y z hx hy hz
      split at h
      · rename_i x1 y1 z1 hx1 hy1 hz1
        injection h with h; subst h
        obtain ⟨v, h1, h2⟩ := rvA_ok hT hr hx
        obtain ⟨u, h3, h4⟩ := rvA_ok hT hr hy
        obtain ⟨t, h5, h6⟩ := rvA_ok hT hr hz
        refine ⟨.tuple #[v, u, t], ?_, [v, u, t], F2.cons (a1Of_ok hx1 h2) (F2.cons (a1Of_ok hy1 h4) (F2.cons (a1Of_ok hz1 h6) F2.nil)), rfl⟩
        rw [results_rv, hf]; simp [h1, h3, h5]
      · cases h
    · cases h
  · cases h
def retS (T : Tab) (s : S) (rs : List ResultVar) (objs : List Nat) : Option (AV × Hp) := match resA T s rs with
  | some av => (match keep [0] objs ⟨[(0, av)], [], s.H⟩ with
    | some ⟨[(0, x)], _, H⟩ => (match ltA H.length x && ltH H.length H with | true => some (x, H) | false => none)
    | _ => none)
  | none => none
theorem retS_ok {gv : Nat → Value} (hT : TabOk P T) (hR : Rel N (noB gv) w s a w') {fn : Func} {rs : List ResultVar} (hf : fn.results = rs.toArray) {objs : List Nat} {av : AV} {H' : Hp} (h : retS T s rs objs = some (av, H')) {ρ0 : Pls} {H : Hp} :
    ∃ v, (results fn a.tmps).run P w' = .ok v w' ∧ Ext w w' ∧ ∃ ps, Left ρ0 w H (shA H.length av) (shH H.length H') v w' ps := by
  obtain ⟨_, _, ρ, hr⟩ := hR
  unfold retS at h
  split at h
  · rename_i x hx
    obtain ⟨v, h1, h2⟩ := resA_ok hT hr hf hx
    split at h
    · rename_i y gl H2 hk
      split at h
      · rename_i hlt
        simp only [Bool.and_eq_true] at hlt
        injection h with h; simp only [Prod.mk.injEq] at h; obtain ⟨rfl, rfl⟩ := h
        have h0 : Rel 1 (noB gv) w ⟨[(0, x)], [], s.H⟩ { tmps := #[v], defers := [] } w' := ⟨rfl, rfl, ρ, fun t z hz => by
          rw [List.lookup_cons] at hz
          split at hz
          · rename_i e
            have : t = 0 := by simpa using e
            subst this
            injection hz with hz; subst hz; exact h2
          · simp at hz, GlR.nil, hr.hp, hr.sep, hr.own, hr.kp⟩
        obtain ⟨_, _, ρ2, hr2⟩ := keep_ok hk h0
        have hv := hr2.fr 0 y rfl
        exact ⟨v, h1, hr.kp.below, left_of hr2 hv hlt.1 hlt.2⟩
      · cases h
    · cases h
  · cases h

/-! ### structs and arrays that are handed in -/
def aGc (n : Nat) : AV → Option (List Cl) | .g m (.c l) => (match Nat.beq m n && Nat.beq l.length n with | true => some l | false => none) | _ => none
theorem lstE {α : Type} (d : α) {l : List α} {n : Nat} (h : l.length = n) : l = (List.range n).map fun i => l.getD i d := by
  subst h
  apply List.ext_getElem?
  intro i
  by_cases hi : i < l.length
  · simp [hi]
  · simp [hi]
theorem F2.getD {l : List Cl} {vs : List Value} (h : F2 (clR ρ) l vs) (i : Nat) (hi : i < vs.length) : avR ρ (.c (l.getD i .junk)) (vs.getD i undef) := by
  have hl : i < l.length := by have := h.1; omega
  have := h.2 i _ _ (List.getElem?_eq_getElem hl) (List.getElem?_eq_getElem hi)
  show clR ρ _ _
  rw [List.getD_eq_getElem?_getD, List.getD_eq_getElem?_getD, List.getElem?_eq_getElem hl, List.getElem?_eq_getElem hi]
  exact this
theorem aGc_ok {n : Nat} {x : AV} {l : List Cl} (h : aGc n x = some l) {v : Value} (hv : avR ρ x v) : ∃ vs : List Value, vs.length = n ∧ v = .agg vs.toArray ∧ ∀ i, i < n → avR ρ (.c (l.getD i .junk)) (vs.getD i undef) := by
  unfold aGc at h
  split at h
  · split at h
    · rename_i hm
      simp only [Bool.and_eq_true] at hm
      injection h with h; subst h
      have e := Nat.eq_of_beq_eq_true hm.1
      have e2 := Nat.eq_of_beq_eq_true hm.2
      subst e
      obtain ⟨vs, h1, h2, h3⟩ := hv
      have h1' : F2 (clR ρ) _ vs := h1
      refine ⟨vs, h2, h3, fun i hi => ?_⟩
      have := F2.getD h1' i (by omega)
      exact this
    · cases h
  · cases h
end
end Go.Sx
end
section
set_option linter.unusedVariables false
set_option linter.unusedSimpArgs false
namespace Go.Sx
open Go.RowKit Go.Ch
section
variable {P : Program} {ρ : Pls} {w w' : World} {H : Hp}

/-! ### contracts that were shown by hand -/
theorem left_row {v : Value} {e : TypeId} {vs : List Value} {cs : Cs} {n : Nat} (h : Own w' w.heap.size e v vs) (hc : ∀ ρ, csR ρ cs vs) (hn : vs.length = n) :
    ∃ ps, Left ρ w H (.c (.wh H.length)) [⟨.row, e, 1, n, cs⟩] v w' ps := by
  obtain ⟨n', h1⟩ : ∃ n', w'.ownsRow w.heap.size e 1 v n' vs := ⟨_, h⟩
  have hl := h1.1
  rw [Nat.mul_one] at hl
  have hn' : n' = n := by omega
  subst hn'
  have hv : ∃ p : Pl, v = .slice p.A p.n p.cap ∧ p.sz = 1 ∧ p.n = n' ∧ ∀ g, (∃ ad, p.A = some ad ∧ ad.block = g) → w.heap.size ≤ g := by
    rcases h1.2 with ⟨hv, hn0⟩ | ⟨g, cap, cur, hv, hg, _⟩
    · exact ⟨⟨none, 0, 0, 1⟩, hv, rfl, hn0.symm, fun g ⟨ad, had, _⟩ => by cases had⟩
    · exact ⟨⟨some ⟨g, 0, none⟩, n', cap, 1⟩, hv, rfl, rfl, fun g' ⟨ad, had, he⟩ => by injection had with had; subst had; subst he; exact hg⟩
  obtain ⟨p, rfl, e1, e2, hp⟩ := hv
  have hu : updL ρ H.length [p] (H.length + 0) = p := updL_at rfl
  rw [Nat.add_zero] at hu
  refine ⟨[p], rfl, fun k o q ho hq => ?_, ?_, fun k o q g ho hq hat => ?_, fun k l o o' q q' g hkl ho ho' => ?_⟩
  · cases k with
    | zero =>
      simp at ho hq; subst ho; subst hq
      refine ⟨⟨e1, e2, by rw [← (hc (updL ρ H.length [p])).len, hl]; simp⟩, vs, hc _, ?_⟩
      rw [e2]
      refine ⟨h1.1, ?_⟩
      rcases h1.2 with h2 | ⟨g, cap, cur, hv, _, h2⟩
      · rw [e2] at h2; exact .inl h2
      · rw [e2] at hv; exact .inr ⟨g, cap, cur, hv, Nat.zero_le _, h2⟩
    | succ k => simp at ho
  · show clR _ (.wh _) _
    simp only [clR, hu]
  · cases k with
    | zero => simp at ho hq; subst ho; subst hq; exact .inl (hp g hat)
    | succ k => simp at ho
  · cases k with
    | zero => cases l with
      | zero => exact absurd rfl hkl
      | succ l => simp at ho'
    | succ k => simp at ho
theorem calls_mono {f : FuncId} {args : Array Value} {R R' : Value → World → Prop} (h : Calls P f args w (Ret R)) (hR : ∀ v w', R v w' → R' v w') : Calls P f args w (Ret R') :=
  h.mono fun _ _ ⟨v, he, hr⟩ => ⟨v, he, hR v _ hr⟩
theorem InSl.sl {e : TypeId} {n : Nat} {cs : Cs} {v : Value} {p : Pl} (h : InSl w e n cs v p) {vs : List Value} (hc : ∀ ρ us, csR ρ cs us → us = vs) (hn : vs.length = n) : Sl w w.heap.size v vs := by
  obtain ⟨rfl, hr⟩ := h
  obtain ⟨⟨e1, e2, e3⟩, ⟨h1, h2, h3⟩, us, hcs, hA⟩ := hr (fun _ => p)
  obtain rfl := hc _ us hcs
  have e4 : p.n = us.length := by rw [hn]; exact e2
  refine ⟨Nat.le_refl _, p.A, p.cap, by rw [e4], by rw [← e4]; exact h1, h2, h3, fun ad had j u hu => ⟨?_, hA ad had j u hu⟩⟩
  have := World.block_lt_of_cell? _ _ (hA ad had j u hu)
  rwa [block_add] at this
end
end Go.Sx
end
section
set_option linter.unusedVariables false
set_option linter.unusedSimpArgs false
namespace Go.Sx
open Go.RowKit Go.Ch

/-! ### plain laws for what sx.py prints -/
theorem okI64 {n : Int} (h0 : -9223372036854775808 ≤ n) (h1 : n < 9223372036854775808) : okI .i64 n := by
  unfold okI IntKind.wrap
  simp [IntKind.bits, IntKind.signed]
  omega
theorem ite_t {α : Type} {b : Bool} {x y : α} (h : b = true) : (bif b then x else y) = x := by rw [h]; rfl
theorem ite_f {α : Type} {b : Bool} {x y : α} (h : b = false) : (bif b then x else y) = y := by rw [h]; rfl
/-- a law's walk: what came in, what is handed back -/
theorem law_of {P : Program} {I : World → Prop} {f : FuncId} {F : Ct} {args : List AV} {H : Hp} {g : List Prop} {objs : List Oj} {ρ : Pls} {w : World} {vals : List Value} (h : FnOk P I f F) (hF : F args H = some (g, .c (.s (.b true)), objs)) (hg : allP g)
    (hI : I w) (hp : HpR ρ w H) (ha : F2 (avR ρ) args vals) : Calls P f vals.toArray w (Ret fun v w' => Ext w w' ∧ v = .bool true) :=
  calls_mono (h.ct args H g _ objs hF hg ρ w vals hI hp ha) fun _ _ ⟨hx, _, hL⟩ => ⟨hx, hL.val⟩
theorem in_b {w : World} {B : Nat} {v : Value} {l : List UInt8} (hv : Sl w B v (l.map bU)) (e : TypeId) : ∃ p, InSl w e l.length (.b l) v p := by
  have h := sl_slr hv
  rw [List.length_map] at h
  exact in_sl h (fun ρ => csR_b.2 rfl) e
end Go.Sx
end
section
set_option linter.unusedVariables false
set_option linter.unusedSimpArgs false
namespace Go.Ch
open Go.ChangeShapes Go.WideShapes Go.RowKit

/-- a struct of n whole numbers -/
def structB (P : Program) (t : TypeId) (n : Nat) : Bool := (match P.underlying t with
  | some (.struct fs) => fs.size == n && (List.range n).all fun i => match fs[i]? with
    | some f => f.offset == i && (match P.underlying f.type with | some (.int .i64) => true | _ => false) && P.cellsOf f.type == 1
    | none => false
  | _ => false) && P.cellsOf t == n
theorem open_zs {H : Type} {enc : TypeId × Value → H} {P : Program} {W : World} {t : TypeId} {n : Nat} {v : Value} {d : DataW H} {p : List MemPlace} {base : Nat} {sp : Nat → Bool} {held : Bool} (hb : structB P t n = true)
    (hok : Value.okWide P W .any base t v) (h : DataW.Trod enc P W 0 sp held t v d p) : ∃ zs : List Int, zs.length = n ∧ v = .agg (zs.map (Value.int .i64)).toArray ∧ ∀ z ∈ zs, (Lit.int .i64 z).wf = true := by
  unfold structB at hb
  split at hb
  · rename_i fs ht
    simp only [Bool.and_eq_true, beq_iff_eq, List.all_eq_true, List.mem_range] at hb
    obtain ⟨⟨hfs, hfa⟩, hct⟩ := hb
    obtain ⟨cs, rfl, hsz, _⟩ : ∃ cs, v = .agg cs ∧ cs.size = P.cellsOf t ∧ Row.okWide P W .any base t cs := by
      simpa [Value.okWide, ht] using hok
    obtain ⟨fuel, hf⟩ := h
    obtain ⟨xs, m, _, _, hl, hxl, hel⟩ := DataW.trod_struct ht hf
    obtain ⟨l⟩ := cs
    have hlen : l.length = n := by rw [← hct]; exact hsz
    have key : ∀ i, i < n → ∃ z, l[i]? = some (.int .i64 z) ∧ (Lit.int .i64 z).wf = true := by
      intro i hi
      have h0 := hfa i hi
      split at h0
      · rename_i f hfi
        simp only [Bool.and_eq_true, beq_iff_eq] at h0
        obtain ⟨⟨ho, hu⟩, hc⟩ := h0
        have hu' : P.underlying f.type = some (.int .i64) := by
          split at hu
          · assumption
          · cases hu
        have h1 := hel i f hfi
        rw [hc, ho] at h1
        rw [List.getElem?_eq_getElem (show i < xs.length by rw [hxl, hfs]; exact hi)] at h1
        have h1' : DataW.trod enc P W 0 sp held m f.type ((l.drop i).take 1) = _ := h1
        obtain ⟨z, hz, _, hw⟩ := DataW.trod_int hu' h1'
        refine ⟨z, ?_, hw⟩
        have h2 := congrArg (·[0]?) hz
        simp only [List.getElem?_take, List.getElem?_drop, Nat.add_zero] at h2
        simpa [Value.cells] using h2
      · cases h0
    refine ⟨l.map (fun v => match v with | .int _ z => z | _ => 0), by simpa using hlen, ?_, ?_⟩
    · congr 1
      congr 1
      apply List.ext_getElem?
      intro i
      simp only [List.getElem?_map]
      by_cases hi : i < n
      · obtain ⟨z, hz, _⟩ := key i hi
        rw [hz]; rfl
      · rw [List.getElem?_eq_none (by omega)]; rfl
    · intro z hz
      obtain ⟨u, hu, rfl⟩ := List.mem_map.1 hz
      obtain ⟨i, hi⟩ := List.mem_iff_getElem?.1 hu
      have hin : i < n := by rw [← hlen]; exact (List.getElem?_eq_some_iff.1 hi).1
      obtain ⟨z', hz', hw⟩ := key i hin
      rw [hi] at hz'
      injection hz' with hz'
      subst hz'
      exact hw
  · simp at hb
theorem open_z6 {H : Type} {enc : TypeId × Value → H} {P : Program} {W : World} {t : TypeId} {v : Value} {d : DataW H} {p : List MemPlace} {base : Nat} {sp : Nat → Bool} {held : Bool} (hb : structB P t 6 = true)
    (hok : Value.okWide P W .any base t v) (h : DataW.Trod enc P W 0 sp held t v d p) : ∃ a b c e f g : Int, v = .agg #[.int .i64 a, .int .i64 b, .int .i64 c, .int .i64 e, .int .i64 f, .int .i64 g] := by
  obtain ⟨zs, hl, hv, _⟩ := open_zs hb hok h
  match zs, hl with
  | [a, b, c, e, f, g], _ => exact ⟨a, b, c, e, f, g, hv⟩
end Go.Ch
namespace Go.Proofs.Ytliilihbnhdemaa
open Go.ChangeShapes Go.WideShapes Go.ChangeAt Go.RowKit Go.Ch

theorem own : ownKnob Try.prog.godebug = none := by kernel_rfl
theorem laidOut : laidOutB Try.prog = true := by kernel_rfl
end Go.Proofs.Ytliilihbnhdemaa
end
section
set_option linter.unusedVariables false
set_option linter.unusedSimpArgs false
namespace Go.Sx
open Go.RowKit Go.Ch
section
variable {P : Program} {T : Tab} {ft : Nat → FT} {ρ : Pls} {w w' : World} {bs : Bs} {w0 wB : World} {s s' : S} {a : Act} {N m : Nat}

/-! ### a drawn region with one store among what is free: no other operation looks at the cells that it writes -/
def XS (wA wB : World) (a b : World) : Prop := a = b ∨ (a = wA ∧ b = wB)
theorem XS.tr {wA wB a b c : World} (h1 : XS wA wB a b) (h2 : XS wA wB b c) : XS wA wB a c := by
  rcases h1 with rfl | ⟨rfl, rfl⟩
  · exact h2
  · rcases h2 with rfl | ⟨_, rfl⟩
    · exact .inr ⟨rfl, rfl⟩
    · exact .inr ⟨rfl, rfl⟩
end
end Go.Sx
end
section
set_option linter.unusedVariables false
set_option linter.unusedSimpArgs false
namespace Go.Sx
open Go.RowKit Go.Ch
section
variable {P : Program} {T : Tab} {ρ ρ' : Pls} {w w' : World} {bs : Bs} {w0 : World} {s s' : S} {a : Act} {N : Nat}

/-! ### a part of what was handed in is handed back -/
theorem GlR.cons {gl : Fr} {x : AV} (j : Nat) (hx : avR ρ x (bs.gv j)) (h : GlR bs ρ gl) : GlR bs ρ ((1000000 + j, x) :: gl) := by
  intro t y hy
  rw [List.lookup_cons] at hy
  split at hy
  · rename_i e
    have e : t = 1000000 + j := by simpa using e
    subst e
    injection hy with hy; subst hy
    unfold gvOf
    rw [if_neg (by omega), Nat.add_sub_cancel_left]
    exact hx
  · exact h t y hy
end
end Go.Sx
end
section
set_option linter.unusedVariables false
set_option linter.unusedSimpArgs false
namespace Go.Sx
open Go.RowKit Go.Ch
section
variable {P : Program} {T : Tab} {ft : Nat → FT} {ρ : Pls} {w w' : World} {bs : Bs} {w0 : World} {s s' : S} {a a' : Act} {N : Nat} {ops : Array Oper} {asm : List (Nat × Bool)}

/-! ### a region that draws its order: operations that leave the world alone come up at any time -/
def vA (asm : List (Nat × Bool)) (i : Nat) (r : List Prop × AV) : Option (List Prop × AV) := match asm.lookup i with
  | none => some r
  | some bv => match r with
    | (g, .c (.s (.b e))) => some (g ++ [e = bv], .c (.s (.b bv)))
    | _ => none
def puV (T : Tab) (asm : List (Nat × Bool)) (i : Nat) (o : Oper) (s : S) : Option (List Prop × AV) := match vop T s.H (ev0 s.fr s.gl) o.op with
  | some r => vA asm i r
  | none => none
def puG (T : Tab) (ops : Array Oper) (asm : List (Nat × Bool)) (i : Nat) (o : Oper) (s : S) : Option (List Prop × AV) := match o.guard with
  | none => puV T asm i o s
  | some (j, want) => match (ops[j]?).bind (·.dst) with
    | none => none
    | some dj => match s.fr.lookup dj with
      | some (.c (.s (.b b))) => (match b, want with
        | true, true => puV T asm i o s
        | false, false => puV T asm i o s
        | true, false => some ([], .t [])
        | false, true => some ([], .t []))
      | some (.t []) => some ([], .t [])
      | _ => none
theorem get_look {x y : Array Value} (hs : x.size = y.size) {t : Nat} (h : x.getD t undef = y.getD t undef) : x[t]? = y[t]? := by
  by_cases ht : t < x.size
  · have hy : t < y.size := by omega
    simp only [Array.getD_eq_getD_getElem?, Array.getElem?_eq_getElem ht, Array.getElem?_eq_getElem hy, Option.getD_some] at h
    rw [Array.getElem?_eq_getElem ht, Array.getElem?_eq_getElem hy, h]
  · rw [Array.getElem?_eq_none (by omega), Array.getElem?_eq_none (by omega)]
theorem exec_look {o : Oper} (hs : ∀ cs b, o.op ≠ .select cs b) (hl : ∀ t ∈ o.looksAt ops, a.tmps.getD t undef = a'.tmps.getD t undef) : execOp a.eval o = execOp a'.eval o :=
  execOp_congr o hs fun x hx => by
    cases x with
    | tmp t => exact hl t (List.mem_append_left _ (List.mem_filterMap.2 ⟨.tmp t, by simpa using hx, rfl⟩))
    | _ => rfl
theorem wanted_look {o : Oper} (hs : a.tmps.size = a'.tmps.size) (hl : ∀ t ∈ o.looksAt ops, a.tmps.getD t undef = a'.tmps.getD t undef) : Region.wanted o (yielded ops a.tmps) = Region.wanted o (yielded ops a'.tmps) := by
  unfold Region.wanted
  cases hg : o.guard with
  | none => rfl
  | some gw =>
    obtain ⟨g, want⟩ := gw
    have hy : yielded ops a.tmps g = yielded ops a'.tmps g := by
      unfold yielded
      cases ht : (ops[g]?).bind (·.dst) with
      | none => rfl
      | some t =>
        have := get_look hs (hl t (by unfold Oper.looksAt; rw [hg]; simp [ht]))
        simp only [Option.bind_some, this]
    simp only [hy]
theorem wp_shift {o : Oper} {K : Act → World → Prop} {Q : Exit → Act → World → Prop} (he : execOp a.eval o = execOp a'.eval o) (hK : ∀ a w, K a w → a.defers = []) (h : o.wp P a' w K (fun _ _ _ => False)) :
    o.wp P a w (fun a1 w1 => ∃ v, a1 = a.put o.dst v ∧ K (a'.put o.dst v) w1) Q := by
  unfold Oper.wp at *
  rw [he]
  generalize (execOp a'.eval o).run P w = r at *
  cases r with
  | ok n w' =>
    cases n <;> simp only [Oper.upon] at h ⊢ <;>
    first
    | exact ⟨_, rfl, h⟩
    | exact Calls.mono h (fun e w'' he => by
        cases e with
        | returned v => exact ⟨v, rfl, he⟩
        | panicked c => exact he.elim
        | outgrown => obtain ⟨_, _, hf⟩ := he; exact hf.elim)
    | exact Rows.mono h (fun _ _ he => ⟨_, rfl, he⟩)
    | (have := hK _ _ h; rw [put_defers] at this; cases this)
  | halt x w' => cases x <;> simp only [Oper.upon] at h ⊢
theorem puV_ok (hT : TabOk P T) {i : Nat} {o : Oper} {g : List Prop} {z : AV} (h : puV T asm i o s = some (g, z)) (hg : allP g) (hR : RelA ρ bs w0 s a' w) :
    ∃ v, avR ρ z v ∧ (execOp a'.eval o).run P w = .ok (.value v) w := by
  obtain ⟨dst, op, ty, pos, aft, gd⟩ := o
  have hae := fun x av h => ev0_ok (ρ := ρ) (a := a') hR.fr hR.gl x av h
  unfold puV at h
  split at h
  · rename_i r hv
    obtain ⟨g1, z1⟩ := r
    unfold vA at h
    split at h
    · injection h with h; simp only [Prod.mk.injEq] at h; obtain ⟨rfl, rfl⟩ := h
      obtain ⟨u, hr, hu⟩ := vop_ok hT hR.hp hae hv hg dst ty pos aft gd
      exact ⟨u, hu, hr⟩
    · split at h
      · rename_i bv _ g2 e hge
        simp only [Prod.mk.injEq] at hge; obtain ⟨rfl, rfl⟩ := hge
        injection h with h; simp only [Prod.mk.injEq] at h; obtain ⟨rfl, rfl⟩ := h
        obtain ⟨ga, gb⟩ := allP_append.1 hg
        simp only [allP] at gb
        subst gb
        obtain ⟨u, hr, hu⟩ := vop_ok hT hR.hp hae hv ga dst ty pos aft gd
        exact ⟨u, hu, hr⟩
      · cases h
  · cases h
/-- such an operation, in a frame that agrees where it looks -/
theorem puG_ok (hT : TabOk P T) {i : Nat} {o : Oper} (hs : ∀ cs b, o.op ≠ .select cs b) {g : List Prop} {z : AV} (h : puG T ops asm i o s = some (g, z)) (hg : allP g) (hR : RelA ρ bs w0 s a' w) :
    ∃ v, avR ρ z v ∧ ∀ (a : Act), a.tmps.size = a'.tmps.size → (∀ t ∈ o.looksAt ops, a.tmps.getD t undef = a'.tmps.getD t undef) → ∀ (K : Act → World → Prop) (Q : Exit → Act → World → Prop), K (a.put o.dst v) w →
      if Region.wanted o (yielded ops a.tmps) = true then o.wp P a w K Q ∨ (o.asks P a w ∧ LetsOut Q) else K (a.put o.dst undef) w := by
  have go : puV T asm i o s = some (g, z) → Region.wanted o (yielded ops a'.tmps) = true → ∃ v, avR ρ z v ∧ ∀ (a : Act), a.tmps.size = a'.tmps.size → (∀ t ∈ o.looksAt ops, a.tmps.getD t undef = a'.tmps.getD t undef) → ∀ (K : Act → World → Prop) (Q : Exit → Act → World → Prop), K (a.put o.dst v) w →
      if Region.wanted o (yielded ops a.tmps) = true then o.wp P a w K Q ∨ (o.asks P a w ∧ LetsOut Q) else K (a.put o.dst undef) w := fun h1 hw => by
    obtain ⟨v, hv, hr⟩ := puV_ok hT h1 hg hR
    refine ⟨v, hv, fun a hsz hl K Q hK => ?_⟩
    rw [wanted_look hsz hl, if_pos hw]
    refine .inl ?_
    unfold Oper.wp
    rw [exec_look hs hl, hr]
    exact hK
  have skip : (some (([] : List Prop), AV.t []) : Option (List Prop × AV)) = some (g, z) → Region.wanted o (yielded ops a'.tmps) = false → ∃ v, avR ρ z v ∧ ∀ (a : Act), a.tmps.size = a'.tmps.size → (∀ t ∈ o.looksAt ops, a.tmps.getD t undef = a'.tmps.getD t undef) → ∀ (K : Act → World → Prop) (Q : Exit → Act → World → Prop), K (a.put o.dst v) w →
      if Region.wanted o (yielded ops a.tmps) = true then o.wp P a w K Q ∨ (o.asks P a w ∧ LetsOut Q) else K (a.put o.dst undef) w := fun h1 hw => by
    injection h1 with h1; simp only [Prod.mk.injEq] at h1; obtain ⟨rfl, rfl⟩ := h1
    refine ⟨undef, ⟨[], F2.nil, rfl⟩, fun a hsz hl K Q hK => ?_⟩
    rw [wanted_look hsz hl, hw]
    exact hK
  unfold puG at h
  split at h
  · rename_i hgd
    exact go h (by unfold Region.wanted; rw [hgd])
  · rename_i j want hgd
    split at h
    · cases h
    · rename_i dj hdj
      split at h
      · rename_i b hb
        have hv : a'.tmps.getD dj undef = .bool b := hR.fr dj _ hb
        have hw := wanted_b hgd hdj hv
        split at h
        · exact go h hw
        · exact go h hw
        · exact skip h hw
        · exact skip h hw
      · rename_i hb
        have hv : avR ρ (.t []) (a'.tmps.getD dj undef) := hR.fr dj _ hb
        exact skip h (wanted_u hgd hdj (undef_of hv))
      · cases h
def runP (T : Tab) (N : Nat) (ops : Array Oper) (asm : List (Nat × Bool)) : List Nat → S → Option (List Prop × S)
  | [], s => some ([], s)
  | i :: is, s => match ops[i]? with
    | none => none
    | some o => match dOk N o.dst, puG T ops asm i o s with
      | true, some (g, z) => (match runP T N ops asm is ⟨putF s.fr o.dst z, s.gl, s.H⟩ with
        | some (g2, s2) => some (g ++ g2, s2)
        | none => none)
      | _, _ => none
theorem runP_ok (hT : TabOk P T) (hs : ∀ (i : Nat) (o : Oper), ops[i]? = some o → ∀ cs b, o.op ≠ .select cs b) (is : List Nat) : ∀ (g : List Prop) (s : S) (a : Act), runP T N ops asm is s = some (g, s') → allP g → Rel N bs w0 s a w →
    ∃ a', Rel N bs w0 s' a' w ∧ ∀ t, (∀ i ∈ is, ∀ o, ops[i]? = some o → o.dst ≠ some t) → a'.tmps.getD t undef = a.tmps.getD t undef := by
  induction is with
  | nil =>
    intro g s a h hg hR
    injection h with h; simp only [Prod.mk.injEq] at h; obtain ⟨rfl, rfl⟩ := h
    exact ⟨a, hR, fun _ _ => rfl⟩
  | cons i is ih =>
    intro g s a h hg hR
    simp only [runP] at h
    split at h
    · cases h
    · rename_i o ho
      split at h
      · rename_i g1 z hdk hp
        split at h
        · rename_i g2 s2 h2
          injection h with h; simp only [Prod.mk.injEq] at h; obtain ⟨rfl, rfl⟩ := h
          obtain ⟨ga, gb⟩ := allP_append.1 hg
          obtain ⟨r1, r2, ρ, r3⟩ := hR
          obtain ⟨v, hv, _⟩ := puG_ok hT (hs i o ho) hp ga r3
          obtain ⟨a2, hR2, hl⟩ := ih g2 _ (a.put o.dst v) h2 gb ⟨by rw [put_defers]; exact r1, by rw [put_size]; exact r2, ρ, r3.put hv (dOk_ok hdk r2)⟩
          refine ⟨a2, hR2, fun t ht => ?_⟩
          rw [hl t (fun j hj => ht j (List.mem_cons_of_mem _ hj)), getD_put_other _ _ _ _ (ht i List.mem_cons_self o ho)]
        · cases h
      · cases h

/-- one way on: from node n the operation m leads to node t, then the operations ps; the same in other words -/
structure Ed where
  n : Nat
  m : Nat
  t : Nat
  ps : List Nat
  cs : List Co
  live : List Nat
  objs : List Nat
def stE (T : Tab) (ft : Nat → FT) (N : Nat) (ops : Array Oper) (asm : List (Nat × Bool)) (e : Ed) (s : S) : Option (List Prop × S) := match ops[e.m]? with
  | none => none
  | some o => match stG T ft N ops asm e.m o s with
    | none => none
    | some (g1, s1) => match runP T N ops asm e.ps s1 with
      | none => none
      | some (g2, s2) => match after e.cs e.live e.objs s2 with
        | none => none
        | some s3 => some (g1 ++ g2, s3)
def st0 (T : Tab) (N : Nat) (ops : Array Oper) (asm : List (Nat × Bool)) (ps : List Nat) (cs : List Co) (live objs : List Nat) (s : S) : Option (List Prop × S) := match runP T N ops asm ps s with
  | none => none
  | some (g, s1) => match after cs live objs s1 with
    | none => none
    | some s2 => some (g, s2)
def rdL (T : Tab) (ops : Array Oper) (asm : List (Nat × Bool)) (p : Nat) (s : S) : Option (Option (List Prop × AV)) := match ops[p]? with
  | some o => some (puG T ops asm p o s)
  | none => none
def rdR (ops : Array Oper) (g : List Prop) (p : Nat) (s : S) : Option (Option (List Prop × AV)) := match (ops[p]?).bind (·.dst) with
  | some d => (match s.fr.lookup d with | some z => some (some (g, z)) | none => none)
  | none => none
inductive AllE (T : Tab) (ft : Nat → FT) (N : Nat) (ops : Array Oper) (asm : List (Nat × Bool)) (sts : List S) (s : S) : List Ed → Prop
  | nil : AllE T ft N ops asm sts s []
  | cons {e : Ed} {l : List Ed} : (∃ g, stE T ft N ops asm e (sts.getD e.n s) = some (g, sts.getD e.t s) ∧ allP g) → AllE T ft N ops asm sts s l → AllE T ft N ops asm sts s (e :: l)
inductive AllR (T : Tab) (ops : Array Oper) (asm : List (Nat × Bool)) (sts : List S) (s : S) : List (Nat × Nat) → Prop
  | nil : AllR T ops asm sts s []
  | cons {k p : Nat} {l : List (Nat × Nat)} : (∃ g, rdL T ops asm p (sts.getD k s) = rdR ops g p (sts.getD k s) ∧ allP g) → AllR T ops asm sts s l → AllR T ops asm sts s ((k, p) :: l)
theorem AllE.mem {sts : List S} {l : List Ed} (h : AllE T ft N ops asm sts s l) : ∀ e ∈ l, ∃ g, stE T ft N ops asm e (sts.getD e.n s) = some (g, sts.getD e.t s) ∧ allP g := by
  induction h with
  | nil => intro e he; cases he
  | cons h1 _ ih =>
    intro e he
    rcases List.mem_cons.1 he with rfl | he
    · exact h1
    · exact ih e he
theorem AllR.mem {sts : List S} {l : List (Nat × Nat)} (h : AllR T ops asm sts s l) : ∀ e ∈ l, ∃ g, rdL T ops asm e.2 (sts.getD e.1 s) = rdR ops g e.2 (sts.getD e.1 s) ∧ allP g := by
  induction h with
  | nil => intro e he; cases he
  | cons h1 _ ih =>
    intro e he
    rcases List.mem_cons.1 he with rfl | he
    · exact h1
    · exact ih e he

def okOps (ops : Array Oper) (N : Nat) (pu : List Nat) : Bool :=
  (List.range ops.size).all fun i => match ops[i]? with
    | none => false
    | some o => okEdges o (fun j => decide (j < i)) && ((match o.op with | .select _ _ => false | _ => true) &&
        (((o.looksAt ops).all fun t => pu.all fun p => match ops[p]? with | some q => q.dst != some t || inC ops i ops.size p | none => true) &&
        (!pu.contains i || (match o.dst with | some d => decide (d < N) | none => false))))
def okNode (ops : Array Oper) (pu : List Nat) (es : List Ed) (rd : List (Nat × Nat)) (k : Nat) (dn : List Nat) : Bool :=
  (List.range ops.size).all fun i => match dn.contains i with
    | true => !pu.contains i || (rd.contains (k, i) || dn.any fun m => !pu.contains m && (decide (m < ops.size) && inC ops m ops.size i))
    | false => (!pu.contains i && es.any fun e => Nat.beq e.n k && Nat.beq e.m i) || (List.range ops.size).any fun j => hasE ops i j && !dn.contains j
def okEdge (pu : List Nat) (nodes : List (List Nat)) (e : Ed) : Bool := match nodes[e.n]?, nodes[e.t]? with
  | some dn, some dt => !pu.contains e.m && (!dn.contains e.m && (e.ps.all (fun p => pu.contains p && !dn.contains p) && (dt.all (fun i => Nat.beq i e.m || (e.ps.contains i || dn.contains i)) && (dn.all (fun i => dt.contains i) && dt.contains e.m))))
  | _, _ => false
def okPlan (ops : Array Oper) (N : Nat) (pu : List Nat) (nodes : List (List Nat)) (ps0 : List Nat) (es : List Ed) (rd : List (Nat × Nat)) (fin : Nat) : Bool :=
  okOps ops N pu && (((List.range nodes.length).all fun k => okNode ops pu es rd k (nodes.getD k [])) && (es.all (okEdge pu nodes) &&
    ((ps0.all fun p => pu.contains p) && (((nodes.getD 0 []).all fun p => pu.contains p) && (decide (0 < nodes.length) &&
      ((List.range nodes.length).all fun k => Nat.beq k fin || (List.range ops.size).any fun i => !(nodes.getD k []).contains i))))))
structure Pln (ops : Array Oper) (N : Nat) (pu : List Nat) (nodes : List (List Nat)) (ps0 : List Nat) (es : List Ed) (rd : List (Nat × Nat)) (fin : Nat) : Prop where
  edges : ∀ (i : Nat) (o : Oper), ops[i]? = some o → okEdges o (fun j => decide (j < i)) = true
  nosel : ∀ (i : Nat) (o : Oper), ops[i]? = some o → ∀ cs b, o.op ≠ .select cs b
  look : ∀ (i : Nat) (o : Oper), ops[i]? = some o → ∀ t ∈ o.looksAt ops, ∀ p, p ∈ pu → ∀ (q : Oper), ops[p]? = some q → q.dst = some t → inC ops i ops.size p = true
  pdst : ∀ (p : Nat) (o : Oper), p ∈ pu → ops[p]? = some o → ∃ d, o.dst = some d ∧ d < N
  nin : ∀ k dn, nodes[k]? = some dn → ∀ i, i < ops.size → i ∈ dn → i ∈ pu → (k, i) ∈ rd ∨ ∃ m ∈ dn, m ∉ pu ∧ m < ops.size ∧ inC ops m ops.size i = true
  nout : ∀ k dn, nodes[k]? = some dn → ∀ i, i < ops.size → i ∉ dn → (i ∉ pu ∧ ∃ e ∈ es, e.n = k ∧ e.m = i) ∨ ∃ j, hasE ops i j = true ∧ j ∉ dn
  edge : ∀ e ∈ es, ∃ dn dt, nodes[e.n]? = some dn ∧ nodes[e.t]? = some dt ∧ e.m ∉ pu ∧ e.m ∉ dn ∧ (∀ p ∈ e.ps, p ∈ pu ∧ p ∉ dn) ∧ (∀ i ∈ dt, i = e.m ∨ i ∈ e.ps ∨ i ∈ dn) ∧ (∀ i ∈ dn, i ∈ dt) ∧ e.m ∈ dt
  start : ∀ p ∈ ps0, p ∈ pu
  zero : ∃ dn, nodes[0]? = some dn ∧ ∀ p ∈ dn, p ∈ pu
  last : ∀ k dn, nodes[k]? = some dn → (∀ i, i < ops.size → i ∈ dn) → k = fin
theorem Pln.of {pu : List Nat} {nodes : List (List Nat)} {ps0 : List Nat} {es : List Ed} {rd : List (Nat × Nat)} {fin : Nat} (h : okPlan ops N pu nodes ps0 es rd fin = true) : Pln ops N pu nodes ps0 es rd fin := by
  unfold okPlan at h
  simp only [Bool.and_eq_true] at h
  obtain ⟨h1, h2, h3, h4, h5, h6, h7⟩ := h
  have H : ∀ (i : Nat) (o : Oper), ops[i]? = some o → _ := fun i o ho => by
    have hi := (Array.getElem?_eq_some_iff.1 ho).1
    have := List.all_eq_true.1 h1 i (List.mem_range.2 hi)
    rw [ho] at this
    simp only [Bool.and_eq_true] at this
    exact this
  have nd : ∀ k dn, nodes[k]? = some dn → k < nodes.length ∧ nodes.getD k [] = dn := fun k dn hk => ⟨(List.getElem?_eq_some_iff.1 hk).1, by rw [List.getD_eq_getElem?_getD, hk]; rfl⟩
  refine ⟨fun i o ho => (H i o ho).1, fun i o ho cs b e => ?_, fun i o ho t ht p hp q hq hd => ?_, fun p o hp ho => ?_, fun k dn hk i hi hin hpu => ?_, fun k dn hk i hi hin => ?_, fun e he => ?_, fun p hp => ?_, ⟨nodes.getD 0 [], ?_, fun p hp => ?_⟩, fun k dn hk hall => ?_⟩
  · have := (H i o ho).2.1
    rw [e] at this; cases this
  · have := List.all_eq_true.1 (List.all_eq_true.1 (H i o ho).2.2.1 t ht) p hp
    rw [hq] at this
    simp only [hd, Bool.or_eq_true, bne_self_eq_false, Bool.false_eq_true, false_or] at this
    exact this
  · have := (H p o ho).2.2.2
    rw [show pu.contains p = true by simpa using hp] at this
    simp only [Bool.not_true, Bool.false_or] at this
    cases hd : o.dst with
    | none => rw [hd] at this; cases this
    | some d => rw [hd] at this; exact ⟨d, rfl, by simpa using this⟩
  · obtain ⟨hk1, hk2⟩ := nd k dn hk
    have := List.all_eq_true.1 (List.all_eq_true.1 h2 k (List.mem_range.2 hk1)) i (List.mem_range.2 hi)
    rw [hk2, show dn.contains i = true by simpa using hin, show pu.contains i = true by simpa using hpu] at this
    simp only [Bool.not_true, Bool.false_or, Bool.or_eq_true, List.any_eq_true, Bool.and_eq_true, decide_eq_true_eq, Bool.not_eq_true'] at this
    rcases this with h | ⟨m, hm, h1, h2, h3⟩
    · exact .inl (by simpa using h)
    · exact .inr ⟨m, hm, by simpa using h1, h2, h3⟩
  · obtain ⟨hk1, hk2⟩ := nd k dn hk
    have := List.all_eq_true.1 (List.all_eq_true.1 h2 k (List.mem_range.2 hk1)) i (List.mem_range.2 hi)
    rw [hk2, show dn.contains i = false by simpa using hin] at this
    simp only [Bool.or_eq_true, List.any_eq_true, Bool.and_eq_true, Bool.not_eq_true'] at this
    rcases this with ⟨h, e, he, h1, h2⟩ | ⟨j, _, h1, h2⟩
    · exact .inl ⟨by simpa using h, e, he, Nat.eq_of_beq_eq_true h1, Nat.eq_of_beq_eq_true h2⟩
    · exact .inr ⟨j, h1, by simpa using h2⟩
  · have := List.all_eq_true.1 h3 e he
    unfold okEdge at this
    split at this
    · rename_i dn dt hn ht
      simp only [Bool.and_eq_true, List.all_eq_true, Bool.not_eq_true', Bool.or_eq_true] at this
      obtain ⟨g1, g2, g3, g4, g5, g6⟩ := this
      refine ⟨dn, dt, hn, ht, by simpa using g1, by simpa using g2, fun p hp => ?_, fun i hi => ?_, fun i hi => ?_, by simpa using g6⟩
      · have := g3 p hp; exact ⟨by simpa using this.1, by simpa using this.2⟩
      · rcases g4 i hi with h | h | h
        · exact .inl (Nat.eq_of_beq_eq_true h)
        · exact .inr (.inl (by simpa using h))
        · exact .inr (.inr (by simpa using h))
      · simpa using g5 i hi
    · cases this
  · simpa using List.all_eq_true.1 h4 p hp
  · have h6' : 0 < nodes.length := by simpa using h6
    rw [List.getD_eq_getElem?_getD, List.getElem?_eq_getElem h6']; rfl
  · simpa using List.all_eq_true.1 h5 p hp
  · obtain ⟨hk1, hk2⟩ := nd k dn hk
    have := List.all_eq_true.1 h7 k (List.mem_range.2 hk1)
    simp only [Bool.or_eq_true, List.any_eq_true, List.mem_range, Bool.not_eq_true'] at this
    rcases this with h | ⟨i, hi, h⟩
    · exact Nat.eq_of_beq_eq_true h
    · rw [hk2] at h
      have := hall i hi
      simp only [List.contains_eq_mem, decide_eq_false_iff_not] at h
      exact absurd this h

theorem okEdges_has {o : Oper} {g : Nat → Bool} {j : Nat} (hg : okEdges o g = true) (he : hasEdge o j = true) : g j = true := by
  unfold okEdges at hg
  unfold hasEdge at he
  obtain ⟨x, hx, hb⟩ := Array.any_eq_true'.1 he
  have := Array.all_eq_true'.1 hg x hx
  simp only [Bool.and_eq_true, beq_iff_eq] at hb
  rw [hb.1, hb.2] at this
  simpa using this
theorem okEdges_mono {o : Oper} {f g : Nat → Bool} (hf : okEdges o f = true) (hfg : ∀ j, f j = true → g j = true) : okEdges o g = true := by
  unfold okEdges at *
  rw [Array.all_eq_true'] at *
  intro x hx
  have := hf x hx
  simp only [Bool.or_eq_true, Bool.not_eq_true'] at this ⊢
  exact this.imp id (hfg _)
theorem getD_any {l : Array Bool} {i : Nat} (h : i < l.size) {d d' : Bool} : l.getD i d = l.getD i d' := by
  simp only [Array.getD_eq_getD_getElem?, Array.getElem?_eq_getElem h, Option.getD_some]
theorem Act.same {a a' : Act} (h : a.tmps.size = a'.tmps.size) (hd : a.defers = a'.defers) (ht : ∀ t, a.tmps.getD t undef = a'.tmps.getD t undef) : a = a' := by
  obtain ⟨x, d⟩ := a; obtain ⟨y, d'⟩ := a'
  simp only at h hd ht
  subst hd
  have : x = y := by
    apply Array.ext h
    intro i h1 h2
    have := ht i
    simpa only [Array.getD_eq_getD_getElem?, Array.getElem?_eq_getElem h1, Array.getElem?_eq_getElem h2, Option.getD_some] using this
  rw [this]

set_option maxHeartbeats 1000000 in
theorem any_G (hT : TabOk P T) (hF : ∀ i, FtOk P (Kp bs w0) (ft i)) {pu : List Nat} {nodes : List (List Nat)} {ps0 : List Nat} {es : List Ed} {rd : List (Nat × Nat)} {fin : Nat} (hp : Pln ops N pu nodes ps0 es rd fin) {sts : List S}
    (hE : AllE T ft N ops asm sts s es) (hD : AllR T ops asm sts s rd) {Q : Exit → Act → World → Prop} (hQ : ∀ a w, Rel N bs w0 (sts.getD fin s) a w → Q .normal a w) :
    ∀ (f k : Nat) (dn : List Nat) (listed : Array Bool) (a a' : Act) (w : World), listed.size = ops.size → (∀ j o, ops[j]? = some o → listed.getD j true = true → okEdges o (fun e => listed.getD e false) = true) →
      nodes[k]? = some dn → (∀ i, listed.getD i false = true → i ∈ dn) → (∀ i ∈ dn, i < ops.size → i ∉ pu → listed.getD i false = true) → cnt (fun j => listed.getD j true) ops.size ≤ f →
      Rel N bs w0 (sts.getD k s) a' w → a.tmps.size = N → a.defers = [] → (∀ t, (∀ p o, p ∈ pu → ops[p]? = some o → o.dst = some t → listed.getD p false = true) → a.tmps.getD t undef = a'.tmps.getD t undef) →
      wpAny P .any ops Q f listed a w := by
  intro f
  have fini : ∀ (k : Nat) (dn : List Nat) (listed : Array Bool) (a a' : Act) (w : World), listed.size = ops.size → nodes[k]? = some dn → (∀ i, listed.getD i false = true → i ∈ dn) → cnt (fun j => listed.getD j true) ops.size = 0 →
      Rel N bs w0 (sts.getD k s) a' w → a.tmps.size = N → a.defers = [] → (∀ t, (∀ p o, p ∈ pu → ops[p]? = some o → o.dst = some t → listed.getD p false = true) → a.tmps.getD t undef = a'.tmps.getD t undef) → Q .normal a w := by
    intro k dn listed a a' w hs hk hsub hc hR hn hd hl
    have hall := cnt_zero _ _ hc
    have hall' : ∀ i, i < ops.size → listed.getD i false = true := fun i hi => by rw [getD_any (d' := true) (by omega)]; exact hall i hi
    have := hp.last k dn hk (fun i hi => hsub i (hall' i hi))
    subst this
    have e : a = a' := Act.same (by rw [hn, hR.size]) (by rw [hd, hR.dfr]) (fun t => hl t (fun p o _ ho _ => hall' p (Array.getElem?_eq_some_iff.1 ho).1))
    rw [e]; exact hQ a' w hR
  induction f with
  | zero =>
    intro k dn listed a a' w hs hcl hk hsub hmn hc hR hn hd hl
    have hc0 : cnt (fun j => listed.getD j true) ops.size = 0 := by omega
    have hall := cnt_zero _ _ hc0
    refine ⟨List.eq_nil_iff_forall_not_mem.2 fun i hi => ?_, fini k dn listed a a' w hs hk hsub hc0 hR hn hd hl⟩
    obtain ⟨o, ho, h1, _⟩ := Go.Ch.mem_ready.1 hi
    have := hall i (Array.getElem?_eq_some_iff.1 ho).1
    rw [this] at h1; cases h1
  | succ f ih =>
    intro k dn listed a a' w hs hcl hk hsub hmn hc hR hn hd hl
    refine ⟨fun h0 => ?_, fun i hi => ?_⟩
    · refine fini k dn listed a a' w hs hk hsub ?_ hR hn hd hl
      -- all have come up, else the least that has not is ready
      have key : ∀ m, m ≤ ops.size → ∀ j < m, listed.getD j true = true := by
        intro m
        induction m with
        | zero => intro _ j hj; omega
        | succ m ihm =>
          intro hm j hj
          have hlt := ihm (by omega)
          by_cases e : j = m
          · subst e
            cases hj' : listed.getD j true
            · have hjs : j < ops.size := by omega
              have : j ∈ Region.ready .any ops listed := Go.Ch.mem_ready.2 ⟨_, Array.getElem?_eq_getElem hjs, hj', okEdges_mono (hp.edges j _ (Array.getElem?_eq_getElem hjs)) (fun q hq => by
                have hq' : q < j := by simpa using hq
                rw [getD_any (d' := true) (by omega)]; exact hlt q hq')⟩
              rw [h0] at this; cases this
            · rfl
          · exact hlt j (by omega)
      rw [cnt_congr ops.size (l' := fun _ => true) (fun j hj => key ops.size (Nat.le_refl _) j hj)]
      exact cnt_true _
    · obtain ⟨o, ho, h1, h2⟩ := Go.Ch.mem_ready.1 hi
      have hin := (Array.getElem?_eq_some_iff.1 ho).1
      have hgs : ∀ j d, (listed.setIfInBounds i true).getD j d = if j = i then true else listed.getD j d := fun j d => getD_set listed i d j (by omega)
      have hcl' : ∀ j oj, ops[j]? = some oj → (listed.setIfInBounds i true).getD j true = true → okEdges oj (fun e => (listed.setIfInBounds i true).getD e false) = true := fun j oj hoj hlj => by
        by_cases e : j = i
        · subst e
          rw [ho] at hoj; injection hoj with hoj; subst hoj
          exact okEdges_mono h2 (fun x hx => by rw [hgs]; split <;> simp_all)
        · rw [hgs, if_neg e] at hlj
          exact okEdges_mono (hcl j oj hoj hlj) (fun x hx => by rw [hgs]; split <;> simp_all)
      have hcnt' : cnt (fun j => (listed.setIfInBounds i true).getD j true) ops.size ≤ f := by
        have := cnt_set (fun j => listed.getD j true) i ops.size hin h1
        rw [cnt_congr ops.size (l' := fun j => if j = i then true else listed.getD j true) (fun j _ => hgs j true)]
        omega
      have hlk : ∀ t ∈ o.looksAt ops, a.tmps.getD t undef = a'.tmps.getD t undef := fun t ht => hl t (fun p q hpp hq hdq => inC_ok hcl hs ho h2 _ _ (hp.look i o ho t ht p hpp q hq hdq))
      have hsz : a.tmps.size = a'.tmps.size := by rw [hn, hR.size]
      have hnot : listed.getD i false = false := by rw [getD_any (d' := true) (by omega)]; exact h1
      unfold wpOp
      rw [ho]
      show if Region.wanted o (yielded ops a.tmps) = true then _ else _
      by_cases hpu : i ∈ pu
      · -- it leaves the world alone
        have hidn : i ∈ dn := by
          by_cases hdn : i ∈ dn
          · exact hdn
          · exfalso
            rcases hp.nout k dn hk i hin hdn with ⟨h, _⟩ | ⟨j, hj, hjn⟩
            · exact h hpu
            · unfold hasE at hj; rw [ho] at hj
              exact hjn (hsub j (okEdges_has h2 hj))
        have hrd : (k, i) ∈ rd := by
          rcases hp.nin k dn hk i hin hidn hpu with h | ⟨m, hm, hmp, hms, hmi⟩
          · exact h
          · exfalso
            have hml := hmn m hm hms hmp
            have hom : ops[m]? = some ops[m] := Array.getElem?_eq_getElem hms
            have := inC_ok hcl hs hom (hcl m _ hom (by rw [getD_any (d' := false) (by omega)]; exact hml)) _ _ hmi
            rw [this] at hnot; cases hnot
        obtain ⟨d, hdd, hdN⟩ := hp.pdst i o hpu ho
        obtain ⟨g, hg1, hg2⟩ := hD.mem _ hrd
        simp only [rdL, rdR, ho, Option.bind_some, hdd] at hg1
        split at hg1
        · rename_i z hz
          injection hg1 with hg1
          obtain ⟨r1, r2, ρ, r3⟩ := hR
          obtain ⟨v, hv, hrun⟩ := puG_ok hT (hp.nosel i o ho) hg1 hg2 r3
          refine hrun a hsz hlk _ _ (ih k dn _ _ (a'.put o.dst v) w (by simpa using hs) hcl' hk (fun j hj => ?_) (fun j hj hjs hjp => ?_) hcnt' ⟨by rw [put_defers]; exact r1, by rw [put_size]; exact r2, ρ, ?_, r3.gl, r3.hp, r3.sep, r3.own, r3.kp⟩ (by rw [put_size]; exact hn) (by rw [put_defers]; exact hd) (fun t ht => ?_))
          · rw [hgs] at hj
            split at hj
            · rename_i e; rw [e]; exact hidn
            · exact hsub j hj
          · rw [hgs]; split
            · rfl
            · exact hmn j hj hjs hjp
          · intro t x hx
            rw [hdd]
            by_cases e : d = t
            · subst e
              rw [hz] at hx; injection hx with hx; subst hx
              rw [getD_put_same _ _ _ (by rw [r2]; exact hdN)]; exact hv
            · rw [getD_put_other _ _ _ _ (by simpa using e)]; exact r3.fr t x hx
          · rw [hdd]
            by_cases e : d = t
            · subst e
              rw [getD_put_same _ _ _ (by rw [hn]; exact hdN), getD_put_same _ _ _ (by rw [r2]; exact hdN)]
            · rw [getD_put_other _ _ _ _ (by simpa using e), getD_put_other _ _ _ _ (by simpa using e)]
              refine hl t (fun p q hpp hq hdq => ?_)
              have := ht p q hpp hq hdq
              rw [hgs] at this
              split at this
              · rename_i e2; subst e2
                rw [ho] at hq; injection hq with hq; subst hq
                rw [hdd] at hdq; injection hdq with hdq; exact absurd hdq e
              · exact this
        · cases hg1
      · -- it may change the world
        have hidn : i ∉ dn := fun h => by have := hmn i h hin hpu; rw [this] at hnot; cases hnot
        obtain ⟨e, he, rfl, rfl⟩ : ∃ e ∈ es, e.n = k ∧ e.m = i := by
          rcases hp.nout k dn hk i hin hidn with ⟨_, h⟩ | ⟨j, hj, hjn⟩
          · exact h
          · exfalso
            unfold hasE at hj; rw [ho] at hj
            exact hjn (hsub j (okEdges_has h2 hj))
        obtain ⟨dn', dt, hn1, ht1, _, _, hps, hdt, hsb, hmd⟩ := hp.edge e he
        rw [hk] at hn1; injection hn1 with hn1; subst hn1
        obtain ⟨g, hg1, hg2⟩ := hE.mem e he
        unfold stE at hg1
        rw [ho] at hg1
        simp only at hg1
        split at hg1
        · cases hg1
        · rename_i g1 s1 hst
          split at hg1
          · cases hg1
          · rename_i g2 s2 hrp
            split at hg1
            · cases hg1
            · rename_i s3 haf
              injection hg1 with hg1; simp only [Prod.mk.injEq] at hg1; obtain ⟨rfl, rfl⟩ := hg1
              obtain ⟨ga, gb⟩ := allP_append.1 hg2
              have next : ∀ v w1, Rel N bs w0 s1 (a'.put o.dst v) w1 → wpAny P .any ops Q f (listed.setIfInBounds e.m true) (a.put o.dst v) w1 := fun v w1 hR1 => by
                obtain ⟨a2, hR2, hl2⟩ := runP_ok hT hp.nosel e.ps g2 s1 _ hrp gb hR1
                refine ih e.t dt _ _ a2 w1 (by simpa using hs) hcl' ht1 (fun j hj => ?_) (fun j hj hjs hjp => ?_) hcnt' (after_ok haf hR2) (by rw [put_size]; exact hn) (by rw [put_defers]; exact hd) (fun t ht => ?_)
                · rw [hgs] at hj
                  split at hj
                  · rename_i e2; rw [e2]; exact hmd
                  · exact hsb j (hsub j hj)
                · rw [hgs]; split
                  · rfl
                  · rename_i hne
                    rcases hdt j hj with h | h | h
                    · exact absurd h hne
                    · exact absurd (hps j h).1 hjp
                    · exact hmn j h hjs hjp
                · have hold : ∀ p q, p ∈ pu → ops[p]? = some q → q.dst = some t → listed.getD p false = true := fun p q hpp hq hdq => by
                    have := ht p q hpp hq hdq
                    rw [hgs] at this
                    split at this
                    · rename_i e2; subst e2; exact absurd hpp hpu
                    · exact this
                  rw [hl2 t (fun p hpp q hq hdq => by
                    have h3 := hps p hpp
                    exact h3.2 (hsub p (hold p q h3.1 hq hdq)))]
                  by_cases e2 : o.dst = some t
                  · rw [e2]
                    by_cases hlt : t < N
                    · rw [getD_put_same _ _ _ (by rw [hn]; exact hlt), getD_put_same _ _ _ (by rw [hR.size]; exact hlt)]
                    · have e3 : ∀ (x : Act), x.tmps.size = N → x.tmps.getD t undef = undef := fun x hx => by
                        rw [Array.getD_eq_getD_getElem?, Array.getElem?_eq_none (by rw [hx]; exact Nat.le_of_not_lt hlt)]; rfl
                      rw [e3 _ (by rw [put_size]; exact hn), e3 _ (by rw [put_size]; exact hR.size)]
                  · rw [getD_put_other _ _ _ _ e2, getD_put_other _ _ _ _ e2]
                    exact hl t hold
              have hgo := stG_ok hT hF hst ga hR (Q := fun _ _ _ => False) (K := fun a1 w1 => Rel N bs w0 s1 a1 w1) (fun _ _ h => h)
              rw [wanted_look hsz hlk]
              split at hgo
              · rename_i hw
                rw [if_pos hw]
                rcases hgo with hgo | ⟨_, _, _, hf⟩
                · exact .inl (Oper.wp_mono (fun a1 w1 ⟨v, hv, hR1⟩ => by rw [hv]; exact next v w1 hR1) (wp_shift (exec_look (hp.nosel e.m o ho) hlk) (fun _ _ h => h.dfr) hgo))
                · exact hf.elim
              · rename_i hw
                rw [if_neg hw]
                exact next undef w hgo

/-- A REGION THAT DRAWS ITS ORDER, any: the ways that it may take are walked one by one, from what has been done to what has been done; operations that leave the world alone are carried out as soon as they may be -/
theorem W_regG (hT : TabOk P T) (hF : ∀ i, FtOk P (Kp bs w0) (ft i)) (hm : P.follows .mixedOrders = true) {id : Nat} {l : List Oper} (asm : List (Nat × Bool)) (pu : List Nat) (nodes : List (List Nat)) (sts : List S) (ps0 : List Nat) (es : List Ed) (rd : List (Nat × Nat)) (fin : Nat) (live0 objs0 : List Nat) (cs : List Co) (live objs : List Nat) {s' : S}
    (hr : okPlan l.toArray N pu nodes ps0 es rd fin = true)
    (h0 : ∃ g, st0 T N l.toArray asm ps0 [] live0 objs0 s = some (g, sts.getD 0 s) ∧ allP g)
    (hE : AllE T ft N l.toArray asm sts s es) (hD : AllR T l.toArray asm sts s rd)
    (hf : after cs live objs (sts.getD fin s) = some s')
    {Q : Exit → S → Prop} (hQ : Q .normal s') : W P N bs w0 (.region id l.toArray true) s Q := by
  intro a w hR
  have hp := Pln.of hr
  obtain ⟨g, hg1, hg2⟩ := h0
  have hR' : Rel N bs w0 s a w.drew := by
    obtain ⟨r1, r2, ρ, r3⟩ := hR
    exact ⟨r1, r2, ρ, r3.fr, r3.gl, fun i o ho => (r3.hp i o ho).keep fun _ _ _ => rfl, r3.sep, r3.own, r3.kp.drew⟩
  unfold st0 at hg1
  split at hg1
  · cases hg1
  rename_i g0 s1 hrun
  split at hg1
  · cases hg1
  rename_i s2 haf
  injection hg1 with hg1; simp only [Prod.mk.injEq] at hg1; obtain ⟨rfl, rfl⟩ := hg1
  obtain ⟨a', hR1, hl⟩ := runP_ok hT hp.nosel ps0 g0 s a hrun hg2 hR'
  have hR2 := after_ok haf hR1
  obtain ⟨dn, hdn, hdp⟩ := hp.zero
  have none' : ∀ i d, (Array.replicate l.toArray.size false).getD i d = true → d = true := fun i d h => by
    simp only [Array.getD_eq_getD_getElem?, Array.getElem?_replicate] at h
    split at h
    · cases h
    · exact h
  refine wp_region_any hm (any_G hT hF hp hE hD (Q := fun ex a' w' => ∃ s', Q ex s' ∧ Rel N bs w0 s' a' w') (fun a w h => ⟨s', hQ, after_ok hf h⟩) _ 0 dn _ a a' w.drew (by simp) (fun j o ho hlj => ?_) hdn (fun i hi => ?_) (fun i hi _ hn => absurd (hdp i hi) hn) ?_ hR2 hR.size hR.dfr (fun t ht => ?_))
  · have := (Array.getElem?_eq_some_iff.1 ho).1
    simp only [Array.getD_eq_getD_getElem?, Array.getElem?_replicate, if_pos this, Option.getD_some] at hlj
    cases hlj
  · have := none' i false hi; cases this
  · have : ∀ m, m ≤ l.toArray.size → cnt (fun j => (Array.replicate l.toArray.size false).getD j true) m ≤ m := by
      intro m
      induction m with
      | zero => intro _; exact Nat.le_refl _
      | succ m ih => intro hm; simp only [cnt]; have := ih (by omega); split <;> omega
    exact this _ (Nat.le_refl _)
  · refine (hl t (fun i hi o ho hd => ?_)).symm
    have := none' i false (ht i o (hp.start i hi) ho hd); cases this
end
end Go.Sx
end
section
set_option linter.unusedVariables false
set_option linter.unusedSimpArgs false
namespace Go.Proofs.Ytliilihbnhdemaa
open Go.RowKit Go.Ch Go.Sx Go.Lib Go.Sort Go.Shelf Go.Proofs

theorem u8_info : (Try.prog.info? 5).map (fun i => (i.zero, i.size, i.bytes)) = some (some (.int .u8 0), 1, 1) := by kernel_rfl
set_option maxHeartbeats 1600000 in
set_option maxRecDepth 1000000 in
theorem rev_arr (blk off cap : Nat) (d : Array UInt8) (w : World) (hH : Holds bU w blk off d) (hsz : d.size ≤ 9223372036854775807) :
    Calls Try.prog 81 #[.slice (some ⟨blk, off, none⟩) d.size cap] w fun e w' => e = .returned (.tuple #[]) ∧ ∃ n, w' = putRow bU (Sort.ahead w n) blk off d.reverse := by
  have mixed : Try.prog.follows .mixedOrders = true := by kernel_rfl
  have t3 : Try.prog.underlying 3 = some (.int .i64) := by kernel_rfl
  have t4 : Try.prog.underlying 4 = some .bool := by kernel_rfl
  have t22 : Try.prog.underlying 22 = some (.slice 5) := by kernel_rfl
  have t5 : Try.prog.underlying 5 = some (.int .u8) := by kernel_rfl
  have a3 : ∀ w, (isAgg 3).run Try.prog w = .ok false w := fun w => run_isAgg_no t3 rfl
  have a4 : ∀ w, (isAgg 4).run Try.prog w = .ok false w := fun w => run_isAgg_no t4 rfl
  have a22 : ∀ w, (isAgg 22).run Try.prog w = .ok false w := fun w => run_isAgg_no t22 rfl
  have a23 : ∀ w, (isAgg 5).run Try.prog w = .ok false w := fun w => run_isAgg_no t5 rfl
  have z3 : ∀ w, (Go.sizeOf 3).run Try.prog w = .ok 1 w := fun w => by kernel_rfl
  have z4 : ∀ w, (Go.sizeOf 4).run Try.prog w = .ok 1 w := fun w => by kernel_rfl
  have z22 : ∀ w, (Go.sizeOf 22).run Try.prog w = .ok 1 w := fun w => by kernel_rfl
  have z23 : ∀ w, (Go.sizeOf 5).run Try.prog w = .ok 1 w := fun w => by kernel_rfl
  go_enter Try.func81, Try.ntmps81
  go_wp2
  go_loopg [2, 3] d.size (fun k s2 s3 wr => ∃ (i jn : Nat) (jz : Int) (dk : Array UInt8) (n : Nat), s2 = .int .i64 i ∧ s3 = .int .i64 jz ∧ ((i : Int) < jz → jz = jn ∧ jn < d.size) ∧ (¬ (i : Int) < jz → ¬ i < jn) ∧ jn - i ≤ k ∧
    dk.size = d.size ∧ wr = putRow bU (Sort.ahead w n) blk off dk ∧ reverseLoop i jn dk = reverseLoop 0 (d.size - 1) d)
  case atStart => exact ⟨0, d.size - 1, (d.size : Int) - 1, d, 0, rfl, rfl, fun h => ⟨by omega, by omega⟩, fun h => by omega, by omega, rfl, (putRow_self bU w blk off d hH).symm, rfl⟩
  case round =>
    obtain ⟨i, jn, jz, dk, n, rfl, rfl, h1, h2, hk, hds, hwr, heq⟩ := hrel
    by_cases hlt : (i : Int) < jz
    · obtain ⟨rfl, hjn⟩ := h1 hlt
      have hij : i < jn := by omega
      have hHk : Holds bU wr blk off dk := by rw [hwr]; exact holds_putRow bU _ blk off d dk (holds_ahead bU w n blk off d hH) hds
      obtain ⟨ci, fi⟩ := hHk i (by omega)
      obtain ⟨cj, fj⟩ := hHk jn (by omega)
      simp only [bU] at ci cj
      have A : Aside (wr = putRow bU (Sort.ahead w n) blk off dk) := hwr
      clear hwr hHk hH h1 h2
      go_wp2_with fail
      go_region_o
      go_wp2
      go_roundg (jn - 1 - (i + 1))
      case measure => omega
      case rel =>
        rw [reverseLoop, if_pos hij] at heq
        exact ⟨i + 1, jn - 1, (jn : Int) - 1, swp dk i jn, n + 1, by simp, rfl, fun h => ⟨by omega, by omega⟩, fun h => by omega, Nat.le_refl _, by rw [size_swp]; exact hds,
          swap_world bU (by omega) (by omega) A.out (by first | rfl | simp [bU, getElem!_pos, show jn < dk.size by omega]) (by first | rfl | simp [bU, getElem!_pos, show i < dk.size by omega]), heq⟩
    · have hnot := h2 hlt
      go_wp2
      go_end0
      refine ⟨rfl, n, ?_⟩
      rw [reverseLoop, if_neg hnot] at heq
      rw [← Lib.reverseLoop_reverse, ← heq]
theorem heap_put (w : World) (n blk : Nat) (d : Array UInt8) (k : Nat) : (putRow bU (Sort.ahead w n) blk 0 d).heap[k]? = if blk = k then (w.heap[k]?).map (onCells (putCells bU 0 d)) else w.heap[k]? := by
  show (w.heap.modify blk (onCells (putCells bU 0 d)))[k]? = _
  rw [Array.getElem?_modify]
/-- a row of one's own turned about -/
theorem rev_c (w : World) (B : Nat) (v : Value) (l : List UInt8) (hv : Own w B 5 v (l.map bU)) (hne : l ≠ []) :
    Calls Try.prog 81 #[v] w (Ret fun v' w' => Own w' B 5 v (l.reverse.map bU) ∧ w.grownBy w' v.ownBlock) := by
  obtain ⟨h1, h2⟩ := hv
  rcases h2 with ⟨_, h0⟩ | ⟨g, cap, cur, rfl, hB, hg, hc, hm, hs, ht⟩
  · rw [List.length_map] at h0
    exact absurd (List.eq_nil_of_length_eq_zero h0) hne
  · rw [List.length_map] at *
    rw [Nat.mul_one] at ht hs
    have hlen : l.length ≤ cur.size := by omega
    have hH : Holds bU w g 0 l.toArray := by
      intro j hj
      have hj' : j < l.length := by simpa using hj
      have hcj : cur.toList[j]? = some (bU l[j]) := by
        have := congrArg (·[j]?) ht
        simp only [List.getElem?_take, if_pos hj', List.getElem?_map, List.getElem?_eq_getElem hj', Option.map_some] at this
        exact this
      refine ⟨?_, ?_⟩
      · simp only [World.cell?, hg, Nat.zero_add]
        rw [getElem!_pos l.toArray j hj]
        simpa using hcj
      · simp only [World.frozen?, hg]
        simp
    have hr := rev_arr g 0 cap l.toArray w hH (by simp; unfold maxLen at hm; omega)
    rw [List.size_toArray] at hr
    refine hr.mono fun e w' ⟨he, n, hw⟩ => ?_
    refine ⟨_, he, ?_, ?_⟩
    · refine ⟨by simp, .inr ⟨g, cap, putCells bU 0 l.reverse.toArray cur, by simp, hB, ?_, by simpa using hc, hm, ?_, ?_⟩⟩
      · rw [hw, List.reverse_toArray, heap_put, if_pos rfl, hg]; rfl
      · simp [putCells, hs]
      · apply List.ext_getElem?
        intro j
        simp only [List.length_map, List.length_reverse, Nat.mul_one, List.getElem?_take, putCells, Array.getElem?_toList, Array.getElem?_mapIdx, List.getElem?_map]
        by_cases hj : j < l.length
        · have hjs : j < cur.size := by omega
          have hjr : j < l.reverse.length := by simpa using hj
          rw [if_pos hj, Array.getElem?_eq_getElem hjs, List.getElem?_eq_getElem hjr]
          simp only [Option.map_some, Nat.zero_le, true_and, Nat.zero_add, Nat.sub_zero, List.size_toArray, List.length_reverse, hj, if_true]
          rw [getElem!_pos l.reverse.toArray j (by simpa using hj)]
          simp
        · rw [if_neg hj, List.getElem?_eq_none (by simpa using hj)]; rfl
    · refine ⟨by rw [hw]; rfl, by rw [hw]; rfl, by rw [hw]; rfl, by rw [hw]; simp [putRow, mapBlock, Sort.ahead], fun k hk hne => ?_⟩
      rw [hw, List.reverse_toArray, heap_put, if_neg (fun h => hne (by rw [h]; rfl))]
section words
variable {P : Program} {w : World}
theorem run_or8 (t : TypeId) (ex ey : Operand) (x y : UInt8) (w : World) : binRun P .or t ex ey (bU x) (bU y) w = .ok (bU (x ||| y)) w := by
  have e : ∀ x : UInt8, BitVec.ofInt 8 (x.toNat : Int) = x.toBitVec := fun x => by
    rw [BitVec.ofInt_natCast]
    apply BitVec.eq_of_toNat_eq
    simp
  have b : ∀ r : BitVec 8, IntKind.u8.wrap (r.toNat : Int) = (r.toNat : Int) := fun r => by
    have := r.isLt
    rw [IntKind.wrap_u8]; omega
  simp only [binRun, bU, Sem.run_bind, guard_int, Result.andThen_ok]
  simp only [binOp, if_neg (show ¬ (IntKind.u8 ≠ IntKind.u8) by simp), Op.intBits, Sem.run_pure]
  show Result.ok (Value.int .u8 (IntKind.u8.wrap ((BitVec.ofInt 8 (x.toNat : Int) ||| BitVec.ofInt 8 (y.toNat : Int)).toNat : Int))) w = _
  rw [e, e, b]
  rfl
theorem run_gt32 (t : TypeId) (ex ey : Operand) (x y : UInt32) (w : World) : binRun P .gtr t ex ey (w32 x) (w32 y) w = .ok (.bool (decide (y < x))) w := by
  simp only [binRun, w32, Sem.run_bind, guard_int, Result.andThen_ok]
  simp only [binOp, if_neg (show ¬ (IntKind.u32 ≠ IntKind.u32) by simp), Op.intCmp, Sem.run_pure]
  congr 2
  rw [Bool.eq_iff_iff]
  simp [UInt32.lt_iff_toNat_lt]
end words
/-- a number's groups of seven bits, the lowest first -/
def grpT : Nat → UInt32 → List UInt8
  | 0, _ => []
  | f + 1, n => if n = 0 then [] else ((n &&& 127).toUInt8 ||| 128) :: grpT f (n >>> 7)
def grp (n : UInt32) : List UInt8 := ((n &&& 127).toUInt8 :: grpT 5 (n >>> 7)).reverse
theorem shr7 (n : UInt32) : (n >>> UInt32.ofNat 7).toNat = n.toNat / 128 := by
  rw [UInt32.toNat_shiftRight, Nat.shiftRight_eq_div_pow]; rfl
theorem shr7' (n : UInt32) : (n >>> 7) = (n >>> UInt32.ofNat 7) := rfl
set_option maxHeartbeats 800000 in
theorem group_c (w : World) (n : UInt32) :
    Calls Try.prog 65 #[w32 n] w (Ret fun v' w' => Ext w w' ∧ Own w' w.heap.size 5 v' ((grp n).map bU)) := by
  obtain ⟨i5, hi5, hz5, hs5, hb5⟩ := info_parts u8_info
  go_enter Try.func65, Try.ntmps65
  go_wp2_with (first
    | ((with_reducible refine g_at (d := 5) ?_); refine wpl_bin rfl rfl (by exact run_and32 _ _ _ n 127 _) ?_; try (conv in (Act.put _ _ _) => simp only [Act.put, List.setIfInBounds_toArray, List.set_cons_succ, List.set_cons_zero]))
    | ((with_reducible refine g_at (d := 6) ?_); refine wpl_conv rfl (by exact conv_wb Try.underlying89 Try.underlying5 _ _) ?_; try (conv in (Act.put _ _ _) => simp only [Act.put, List.setIfInBounds_toArray, List.set_cons_succ, List.set_cons_zero]))
    | ((with_reducible refine g_at (d := 7) ?_); refine wpl_buildSlice (vs := [bU (n &&& 127).toUInt8]) Try.underlying22 hi5 hz5 hs5 rfl (xs := [(.tmp 6)]) rfl rfl rfl (by intro u hu; simp at hu; subst hu; rfl) (by omega) ?_; intro v7 w7 h7 hx7 ha7; try (conv in (Act.put _ _ _) => simp only [Act.put, List.setIfInBounds_toArray, List.set_cons_succ, List.set_cons_zero]))
    | ((with_reducible refine g_at (d := 9) ?_); refine wpl_bin rfl rfl (by exact run_shr32 _ _ _ n .u64 7 (by decide) _) ?_; try (conv in (Act.put _ _ _) => simp only [Act.put, List.setIfInBounds_toArray, List.set_cons_succ, List.set_cons_zero]))
    | ((with_reducible refine g_at (d := 17) ?_); refine wpl_conv rfl (by exact conv_wb Try.underlying89 Try.underlying5 _ _) ?_; try (conv in (Act.put _ _ _) => simp only [Act.put, List.setIfInBounds_toArray, List.set_cons_succ, List.set_cons_zero])))
  generalize ha : (n &&& 127).toUInt8 = a at *
  generalize hm : n >>> UInt32.ofNat 7 = m0
  have hm0 : m0.toNat < 128 ^ 5 := by rw [← hm, shr7]; have := lt32 n; omega
  have hgrp : grp n = (a :: grpT 5 m0).reverse := by unfold grp; rw [ha, shr7', hm]
  have HG := Lib.hid hgrp
  clear hgrp hm ha
  go_loopw [0, 3] (fun nv o wr => ∃ (k : Nat) (m : UInt32) (xs : List UInt8), nv = w32 m ∧ k ≤ 5 ∧ m.toNat < 128 ^ k ∧ xs.length + k = 6 ∧ Own wr w.heap.size 5 o (xs.map bU) ∧ Ext w wr ∧ Hid (xs ++ grpT k m = a :: grpT 5 m0)) (fun nv _ _ => (RowKit.intOf nv).toNat)
  case atStart => exact ⟨5, m0, [a], rfl, Nat.le_refl _, hm0, rfl, h7, hx7, Lib.hid rfl⟩
  case round =>
    obtain ⟨k, m, xs, rfl, hk, hmk, hxl, ho, hx, hxs⟩ := hrel
    by_cases hz : m = 0
    · have E11 : Hid (∀ t ex ey w, binRun Try.prog .gtr t ex ey (w32 m) (.int .u32 0) w = .ok (.bool false) w) := Lib.hid (fun t ex ey w => (run_gt32 t ex ey m 0 w).trans (by rw [hz]; rfl))
      have HZ := Lib.hid hz
      clear hz
      go_wp2_with (first
        | ((with_reducible refine g_at (d := 11) ?_); refine wpl_bin rfl rfl (by exact E11.out _ _ _ _) ?_; try (conv in (Act.put _ _ _) => simp only [Act.put, List.setIfInBounds_toArray, List.set_cons_succ, List.set_cons_zero]))
        | ((with_reducible refine g_at (d := 22) ?_); refine wpl_call Try.func81 (by kernel_rfl) (by kernel_rfl) rfl (rev_c _ _ _ xs ho (by intro h; rw [h] at hxl; simp at hxl; omega)) ?_; rintro v22 w22 ⟨h22, hg22⟩; try (conv in (Act.put _ _ _) => simp only [Act.put, List.setIfInBounds_toArray, List.set_cons_succ, List.set_cons_zero]))
        | ((with_reducible refine g_at (d := 6) ?_); refine wpl_conv rfl (by exact conv_wb Try.underlying89 Try.underlying5 _ _) ?_; try (conv in (Act.put _ _ _) => simp only [Act.put, List.setIfInBounds_toArray, List.set_cons_succ, List.set_cons_zero]))
        | ((with_reducible refine g_at (d := 17) ?_); refine wpl_conv rfl (by exact conv_wb Try.underlying89 Try.underlying5 _ _) ?_; try (conv in (Act.put _ _ _) => simp only [Act.put, List.setIfInBounds_toArray, List.set_cons_succ, List.set_cons_zero])))
      go_ret
      have hl : xs = a :: grpT 5 m0 := by
        have h := hxs.out
        rw [HZ.out] at h
        have h0 : grpT k 0 = [] := by cases k <;> rfl
        rwa [h0, List.append_nil] at h
      refine ⟨_, rfl, hx.grown hg22 hx.size (fun b hb => (ho.lt b hb).1), ?_⟩
      rw [HG.out, ← hl]; exact h22
    · have E11 : Hid (∀ t ex ey w, binRun Try.prog .gtr t ex ey (w32 m) (.int .u32 0) w = .ok (.bool true) w) := Lib.hid (fun t ex ey w => (run_gt32 t ex ey m 0 w).trans (by
        rw [decide_eq_true (by
          rw [UInt32.lt_iff_toNat_lt]
          exact Nat.pos_of_ne_zero fun h => hz (UInt32.toNat_inj.1 h))]))
      have HZ := Lib.hid hz
      clear hz
      go_wp2_with (first
        | ((with_reducible refine g_at (d := 11) ?_); refine wpl_bin rfl rfl (by exact E11.out _ _ _ _) ?_; try (conv in (Act.put _ _ _) => simp only [Act.put, List.setIfInBounds_toArray, List.set_cons_succ, List.set_cons_zero]))
        | ((with_reducible refine g_at (d := 16) ?_); refine wpl_bin rfl rfl (by exact run_and32 _ _ _ m 127 _) ?_; try (conv in (Act.put _ _ _) => simp only [Act.put, List.setIfInBounds_toArray, List.set_cons_succ, List.set_cons_zero]))
        | ((with_reducible refine g_at (d := 17) ?_); refine wpl_conv rfl (by exact conv_wb Try.underlying89 Try.underlying5 _ _) ?_; try (conv in (Act.put _ _ _) => simp only [Act.put, List.setIfInBounds_toArray, List.set_cons_succ, List.set_cons_zero]))
        | ((with_reducible refine g_at (d := 18) ?_); refine wpl_bin rfl rfl (by exact run_or8 _ _ _ _ 128 _) ?_; try (conv in (Act.put _ _ _) => simp only [Act.put, List.setIfInBounds_toArray, List.set_cons_succ, List.set_cons_zero]))
        | ((with_reducible refine g_at (d := 19) ?_); refine wpl_buildSlice (vs := [bU ((m &&& 127).toUInt8 ||| 128)]) Try.underlying22 hi5 hz5 hs5 rfl (xs := [(.tmp 18)]) rfl rfl rfl (by intro u hu; simp at hu; subst hu; rfl) (by omega) ?_; intro v19 w19 h19 hx19 ha19; try (conv in (Act.put _ _ _) => simp only [Act.put, List.setIfInBounds_toArray, List.set_cons_succ, List.set_cons_zero]))
        | ((with_reducible refine g_at (d := 20) ?_); refine wpl_append (v := u3) rfl rfl Try.underlying22 hi5 hz5 hs5 hb5 rfl (ho.ext hx19) h19.sl (bU_one [_]) (by first | omega | (simp <;> omega)) (by omega) (Nat.le_trans hx.size hx19.size) ?_; intro v20 w20 h20 hg20 ha20 hx20; try (conv in (Act.put _ _ _) => simp only [Act.put, List.setIfInBounds_toArray, List.set_cons_succ, List.set_cons_zero]))
        | ((with_reducible refine g_at (d := 13) ?_); refine wpl_bin rfl rfl (by exact run_shr32 _ _ _ m .u64 7 (by decide) _) ?_; try (conv in (Act.put _ _ _) => simp only [Act.put, List.setIfInBounds_toArray, List.set_cons_succ, List.set_cons_zero]))
        | ((with_reducible refine g_at (d := 6) ?_); refine wpl_conv rfl (by exact conv_wb Try.underlying89 Try.underlying5 _ _) ?_; try (conv in (Act.put _ _ _) => simp only [Act.put, List.setIfInBounds_toArray, List.set_cons_succ, List.set_cons_zero])))
      go_roundw
      case rel =>
        have hm := HZ.out
        obtain ⟨k, rfl⟩ : ∃ k', k = k' + 1 := ⟨k - 1, by
          cases k with
          | zero => exact absurd (UInt32.toNat_inj.1 (show m.toNat = 0 by simpa using hmk)) hm
          | succ k => rfl⟩
        refine ⟨k, m >>> UInt32.ofNat 7, xs ++ [(m &&& 127).toUInt8 ||| 128], rfl, by omega, ?_, by rw [List.length_append, List.length_singleton]; omega, by rw [List.map_append]; exact h20, (hx.tr hx19).trans hx20, Lib.hid ?_⟩
        · rw [shr7, Nat.div_lt_iff_lt_mul (by decide)]; rwa [Nat.pow_succ] at hmk
        · have h := hxs.out
          rw [grpT, if_neg hm, shr7'] at h
          rw [List.append_assoc]; exact h
      case measure =>
        show (((m >>> UInt32.ofNat 7).toNat : Nat) : Int).toNat < ((m.toNat : Nat) : Int).toNat
        rw [shr7, Int.toNat_natCast, Int.toNat_natCast]
        have : m.toNat ≠ 0 := fun h => HZ.out (UInt32.toNat_inj.1 h)
        omega
def group_ct : Ct := fun args H => match args with
  | [.c (.s (.u32 x))] => some ([], .c (.wh H.length), [⟨.row, 5, 1, (grp x).length, .b (grp x)⟩])
  | _ => none
theorem group_h : FnOk Try.prog Tr 65 group_ct := by
  refine ⟨fun args H g av objs hF hg ρ w vals hG hp ha => ?_, _, Try.func65, by kernel_rfl, by kernel_rfl⟩
  unfold group_ct at hF
  split at hF
  · rename_i x
    simp only [Option.some.injEq, Prod.mk.injEq] at hF
    obtain ⟨rfl, rfl, rfl⟩ := hF
    obtain ⟨v, vals, rfl, k, ha⟩ := F2.inv ha
    obtain rfl := F2.inv0 ha
    have e : v = w32 x := k
    rw [e]
    exact calls_mono (group_c w x) fun v w' ⟨hx, hv⟩ => ⟨hx, left_row hv (fun _ => csR_b.2 rfl) (by simp)⟩
  · cases hF
end Go.Proofs.Ytliilihbnhdemaa
end
section
set_option linter.unusedVariables false
set_option linter.unusedSimpArgs false
namespace Go.Proofs.Ytliilihbnhdemaa
open Go.RowKit Go.Ch Go.Sx

theorem cloneb_info : (Try.prog.info? 5).map (fun i => (i.zero, i.size, i.bytes)) = some (some (.int .u8 0), 1, 1) := by kernel_rfl
set_option maxHeartbeats 400000 in
set_option maxRecDepth 100000 in
theorem cloneb_c (w : World) (B : Nat) (v : Value) (l : List UInt8) (hv : Sl w B v (l.map bU)) (hl : l.length ≤ 1000000000000) :
    Calls Try.prog 49 #[v] w (Ret fun v' w' => Ext w w' ∧ Own w' w.heap.size 5 v' (l.map bU)) := by
  obtain ⟨i5, hi5, hz5, hs5, hb5⟩ := info_parts cloneb_info
  go_enter Try.func49, Try.ntmps49
  go_wp2_with (first
    | ((with_reducible refine g_at (d := 4) ?_); refine wpl_eq_nil rfl Try.underlying22 hv ?_; intro b4 hb4; try (conv in (Act.put _ _ _) => simp only [Act.put, List.setIfInBounds_toArray, List.set_cons_succ, List.set_cons_zero]))
    | ((with_reducible refine g_at (d := 5) ?_); refine wpl_buildSlice (vs := []) Try.underlying22 hi5 hz5 hs5 rfl (xs := []) rfl rfl rfl (by simp) (by omega) ?_; intro v5 w5 h5 hx5 ha5; try (conv in (Act.put _ _ _) => simp only [Act.put, List.setIfInBounds_toArray, List.set_cons_succ, List.set_cons_zero]))
    | ((with_reducible refine g_at (d := 7) ?_); refine wpl_append (v := v5) rfl rfl Try.underlying22 hi5 hz5 hs5 hb5 rfl h5 (hv.ext hx5) (bU_one l) (by first | omega | (simp <;> omega)) (by omega) hx5.size ?_; intro v7 w7 h7 hg7 ha7 hx7; try (conv in (Act.put _ _ _) => simp only [Act.put, List.setIfInBounds_toArray, List.set_cons_succ, List.set_cons_zero])))
  · go_ret
    have := hb4 (by assumption)
    exact ⟨_, rfl, Below.refl _ _, by rw [this]; exact World.ownsRow_nil _ _ _ _⟩
  · go_ret
    exact ⟨_, rfl, hx5.trans hx7, by simpa using h7⟩
def cloneb_ct : Ct := fun args H => match args with
  | [x] => (match aB H x with | some l => some ([l.length ≤ 1000000000000], .c (.wh H.length), [⟨.row, 5, 1, l.length, .b l⟩]) | none => none)
  | _ => none
theorem cloneb_h : FnOk Try.prog Tr 49 cloneb_ct := by
  refine ⟨fun args H g av objs hF hg ρ w vals hG hp ha => ?_, _, Try.func49, by kernel_rfl, by kernel_rfl⟩
  unfold cloneb_ct at hF
  split at hF
  · split at hF
    · rename_i x l hl
      simp only [Option.some.injEq, Prod.mk.injEq] at hF
      obtain ⟨rfl, rfl, rfl⟩ := hF
      obtain ⟨v, vals, rfl, k, ha⟩ := F2.inv ha
      obtain rfl := F2.inv0 ha
      obtain ⟨p, hI⟩ := aB_ok hp hl k 5
      have hb : l.length ≤ 1000000000000 := by simpa [allP] using hg
      exact calls_mono (cloneb_c w _ v l (hI.sl (fun _ _ h => csR_b.1 h) (by simp)) hb) fun v w' ⟨hx, hv⟩ => ⟨hx, left_row hv (fun _ => csR_b.2 rfl) (by simp)⟩
    · cases hF
  · cases hF
end Go.Proofs.Ytliilihbnhdemaa
end
section
set_option linter.unusedVariables false
set_option linter.unusedSimpArgs false
namespace Go.Proofs.Ytliilihbnhdemaa
open Go.RowKit Go.Ch Go.Sx

def tabL_pr : List (TypeId × Ti) := [(2, ⟨.int .i64, 1, 8, true, some [.int .i64]⟩),
  (3, ⟨.int .i64, 1, 8, true, some [.int .i64]⟩),
  (5, ⟨.int .u8, 1, 1, true, some [.int .u8]⟩),
  (9, ⟨.str, 1, 16, true, some [.str]⟩),
  (22, ⟨.sl 5, 1, 24, false, some [.nils]⟩),
  (28, ⟨.ifc, 1, 16, true, some [.ifc]⟩),
  (31, ⟨.int .i64, 1, 8, true, some [.int .i64]⟩),
  (34, ⟨.st [(3, 0), (3, 1), (3, 2), (3, 3), (3, 4), (3, 5)], 6, 48, true, some [.int .i64, .int .i64, .int .i64, .int .i64, .int .i64, .int .i64]⟩),
  (60, ⟨.sl 89, 1, 24, false, some [.nils]⟩),
  (76, ⟨.sl 3, 1, 24, false, some [.nils]⟩),
  (89, ⟨.int .u32, 1, 4, true, some [.int .u32]⟩),
  (91, ⟨.int .i8, 1, 1, true, some [.int .i8]⟩),
  (102, ⟨.int .u64, 1, 8, true, some [.int .u64]⟩)]
def tab_pr : Tab := fun t => (tabL_pr).lookup t
theorem tabE_pr : (tabL_pr.map fun p => tiOf Try.prog p.1) = tabL_pr.map fun p => some p.2 := by kernel_rfl
theorem tabO_pr : TabOk Try.prog tab_pr := tab_of tabE_pr

def pspare (n : Nat) (a0 : List UInt8) : Option (Bool) :=
  gd (0 ≤ (0 : Int)) <|
  gd ((0 : Int) < ((a0.length : Nat) : Int)) <|
  bif ((a0.getD 0 0) == 0) then
    gd (0 ≤ (1 : Int)) <|
    gd ((1 : Int) < ((a0.length : Nat) : Int)) <|
    bif (decide ((a0.getD 1 0) < (128 : UInt8))) then
      some true
    else
      gd (0 ≤ (0 : Int)) <|
      gd ((0 : Int) < ((a0.length : Nat) : Int)) <|
      bif ((a0.getD 0 0) == 255) then
        gd (0 ≤ (1 : Int)) <|
        gd ((1 : Int) < ((a0.length : Nat) : Int)) <|
        some (decide ((128 : UInt8) ≤ (a0.getD 1 0)))
      else
        some false
  else
    gd (0 ≤ (0 : Int)) <|
    gd ((0 : Int) < ((a0.length : Nat) : Int)) <|
    bif ((a0.getD 0 0) == 255) then
      gd (0 ≤ (1 : Int)) <|
      gd ((1 : Int) < ((a0.length : Nat) : Int)) <|
      some (decide ((128 : UInt8) ≤ (a0.getD 1 0)))
    else
      some false
def pReadInt_l1 (n : Nat) (a0 : List UInt8) : Nat → Int → Int → Option (Int × Option Int)
  | 0, _, _ => none
  | fu_l1 + 1, i4_2, i34_2 =>
    bif (decide (i34_2 < (((a0.length - 1) : Nat) : Int))) then
      gd (0 ≤ i34_2) <|
      gd (i34_2 < (((a0.length - 1) : Nat) : Int)) <|
      gd (0 ≤ (8 : Int)) <|
      gd ((8 : Int) ≤ (((IntKind.i64).bits : Nat) : Int)) <|
      gd (okI .i64 (i4_2 * 2 ^ 8)) <|
      gd (okI .i64 (i34_2 + 1)) <|
      (pReadInt_l1 n a0 fu_l1) (bitI .or .i64 (i4_2 * 2 ^ 8) (((((a0.drop 1).take (a0.length - 1)).getD i34_2.toNat 0).toNat : Nat) : Int)) (i34_2 + 1)
    else
      some (i4_2, none)
def pReadInt_l2 (n : Nat) (a0 : List UInt8) : Nat → Int → Int → Option (Int × Option Int)
  | 0, _, _ => none
  | fu_l2 + 1, i4_3, i34_3 =>
    bif (decide (i34_3 < (((a0.length - 1) : Nat) : Int))) then
      gd (0 ≤ i34_3) <|
      gd (i34_3 < (((a0.length - 1) : Nat) : Int)) <|
      gd (0 ≤ (8 : Int)) <|
      gd ((8 : Int) ≤ (((IntKind.i64).bits : Nat) : Int)) <|
      gd (okI .i64 (i4_3 * 2 ^ 8)) <|
      gd (okI .i64 (i34_3 + 1)) <|
      (pReadInt_l2 n a0 fu_l2) (bitI .or .i64 (i4_3 * 2 ^ 8) (((((a0.drop 1).take (a0.length - 1)).getD i34_3.toNat 0).toNat : Nat) : Int)) (i34_3 + 1)
    else
      some (i4_3, none)
def pReadInt (n : Nat) (a0 : List UInt8) : Option (Int × Option Int) :=
  bif (((a0.length : Nat) : Int) == 0) then
    some (0, (some 2))
  else
    bif (decide ((1 : Int) < ((a0.length : Nat) : Int))) then
      (pspare n a0).bind fun r17 =>
      bif r17 then
        some (0, (some 2))
      else
        bif (decide ((8 : Int) < ((a0.length : Nat) : Int))) then
          some (0, (some 4))
        else
          gd (0 ≤ (0 : Int)) <|
          gd ((0 : Int) < ((a0.length : Nat) : Int)) <|
          gd (okI .i64 (IntKind.i8.wrap (((a0.getD 0 0).toNat : Nat) : Int))) <|
          gd (0 ≤ (1 : Int)) <|
          gd ((1 : Int) ≤ ((a0.length : Nat) : Int)) <|
          pReadInt_l1 n a0 n (IntKind.i8.wrap (((a0.getD 0 0).toNat : Nat) : Int)) 0
    else
      bif (decide ((8 : Int) < ((a0.length : Nat) : Int))) then
        some (0, (some 4))
      else
        gd (0 ≤ (0 : Int)) <|
        gd ((0 : Int) < ((a0.length : Nat) : Int)) <|
        gd (okI .i64 (IntKind.i8.wrap (((a0.getD 0 0).toNat : Nat) : Int))) <|
        gd (0 ≤ (1 : Int)) <|
        gd ((1 : Int) ≤ ((a0.length : Nat) : Int)) <|
        pReadInt_l2 n a0 n (IntKind.i8.wrap (((a0.getD 0 0).toNat : Nat) : Int)) 0
def pident (n : Nat) (a0 : List UInt32) : Option (Bool) :=
  bif (decide (((a0.length : Nat) : Int) < (2 : Int))) then
    some false
  else
    bif (decide ((16 : Int) < ((a0.length : Nat) : Int))) then
      some false
    else
      gd (0 ≤ (0 : Int)) <|
      gd ((0 : Int) < ((a0.length : Nat) : Int)) <|
      bif (decide ((2 : UInt32) < (a0.getD 0 0))) then
        some false
      else
        gd (0 ≤ (0 : Int)) <|
        gd ((0 : Int) < ((a0.length : Nat) : Int)) <|
        bif (decide ((a0.getD 0 0) < (2 : UInt32))) then
          gd (0 ≤ (1 : Int)) <|
          gd ((1 : Int) < ((a0.length : Nat) : Int)) <|
          some (decide ((a0.getD 1 0) < (40 : UInt32)))
        else
          gd (0 ≤ (1 : Int)) <|
          gd ((1 : Int) < ((a0.length : Nat) : Int)) <|
          some (decide ((((a0.getD 1 0).toUInt64) + (80 : UInt64)) < (4294967296 : UInt64)))
def pOid_l1 (n : Nat) (a0 : List UInt32) : Nat → List UInt8 → Int → Option (List UInt8 × Option Int)
  | 0, _, _ => none
  | fu_l1 + 1, l4_1, i23_1 =>
    bif (decide (i23_1 < (((a0.length - 2) : Nat) : Int))) then
      gd (0 ≤ i23_1) <|
      gd (i23_1 < (((a0.length - 2) : Nat) : Int)) <|
      gd (rmB (l4_1.length + ((grp (((a0.drop 2).take (a0.length - 2)).getD i23_1.toNat 0)).length)) 1) <|
      gd (okI .i64 (i23_1 + 1)) <|
      (pOid_l1 n a0 fu_l1) (l4_1 ++ (grp (((a0.drop 2).take (a0.length - 2)).getD i23_1.toNat 0))) (i23_1 + 1)
    else
      some (l4_1, none)
def pOid (n : Nat) (a0 : List UInt32) : Option (List UInt8 × Option Int) :=
  (pident n a0).bind fun r8 =>
  bif (!r8) then
    some ([], (some 1))
  else
    gd (0 ≤ (0 : Int)) <|
    gd ((0 : Int) < ((a0.length : Nat) : Int)) <|
    gd (0 ≤ (1 : Int)) <|
    gd ((1 : Int) < ((a0.length : Nat) : Int)) <|
    gd (0 ≤ (2 : Int)) <|
    gd ((2 : Int) ≤ ((a0.length : Nat) : Int)) <|
    pOid_l1 n a0 n (grp (((40 : UInt32) * (a0.getD 0 0)) + (a0.getD 1 0))) 0
def pleap (n : Nat) (a0 : Int) : Option (Bool) :=
  gd ((4 : Int) ≠ 0) <|
  bif ((Int.tmod a0 4) == 0) then
    gd ((100 : Int) ≠ 0) <|
    bif ((Int.tmod a0 100) != 0) then
      some true
    else
      gd ((400 : Int) ≠ 0) <|
      some ((Int.tmod a0 400) == 0)
  else
    some false
def pdays_j1 (n : Nat) (a0 : Int) (a1 : Int) (p6_1 : Bool) : Option (Int) :=
  bif p6_1 then
    some 30
  else
    bif (a1 == 2) then
      (pleap n a0).bind fun r14 =>
      bif r14 then
        some 29
      else
        some 28
    else
      some 31
def pdays (n : Nat) (a0 : Int) (a1 : Int) : Option (Int) :=
  bif (a1 == 4) then
    pdays_j1 n a0 a1 (a1 == 4)
  else
    bif (a1 == 6) then
      pdays_j1 n a0 a1 (a1 == 6)
    else
      bif (a1 == 9) then
        pdays_j1 n a0 a1 (a1 == 9)
      else
        pdays_j1 n a0 a1 (a1 == 11)
def pvalid (n : Nat) (a0_0 : Int) (a0_1 : Int) (a0_2 : Int) (a0_3 : Int) (a0_4 : Int) (a0_5 : Int) : Option (Bool) :=
  bif (decide (a0_0 < (1 : Int))) then
    some false
  else
    bif (decide ((9999 : Int) < a0_0)) then
      some false
    else
      bif (decide (a0_1 < (1 : Int))) then
        some false
      else
        bif (decide ((12 : Int) < a0_1)) then
          some false
        else
          bif (decide (a0_2 < (1 : Int))) then
            some false
          else
            (pdays n a0_0 a0_1).bind fun r33 =>
            bif (decide (r33 < a0_2)) then
              some false
            else
              bif (decide ((0 : Int) ≤ a0_3)) then
                bif (decide (a0_3 ≤ (23 : Int))) then
                  bif (decide ((0 : Int) ≤ a0_4)) then
                    bif (decide (a0_4 ≤ (59 : Int))) then
                      bif (decide ((0 : Int) ≤ a0_5)) then
                        some (decide (a0_5 ≤ (59 : Int)))
                      else
                        some false
                    else
                      some false
                  else
                    some false
                else
                  some false
              else
                some false
def pTime_l1 (n : Nat) (b5_1 : UInt8) (z6_1 : List Int) (m6_1 : Nat) : Nat → List UInt8 → Int → Option (UInt8 × List UInt8 × Option Int)
  | 0, _, _ => none
  | fu_l1 + 1, l7_1, i43_1 =>
    bif (decide (i43_1 < ((m6_1 : Nat) : Int))) then
      gd (0 ≤ i43_1) <|
      gd (i43_1 < ((m6_1 : Nat) : Int)) <|
      gd ((10 : Int) ≠ 0) <|
      gd (okI .i64 (Int.tdiv (z6_1.getD i43_1.toNat 0) 10)) <|
      gd (okI .i64 (48 + (Int.tdiv (z6_1.getD i43_1.toNat 0) 10))) <|
      gd ((10 : Int) ≠ 0) <|
      gd (okI .i64 (48 + (Int.tmod (z6_1.getD i43_1.toNat 0) 10))) <|
      gd (rmB (l7_1.length + 2) 1) <|
      gd (okI .i64 (i43_1 + 1)) <|
      (pTime_l1 n b5_1 z6_1 m6_1 fu_l1) (l7_1 ++ [(UInt8.ofInt (48 + (Int.tdiv (z6_1.getD i43_1.toNat 0) 10))), (UInt8.ofInt (48 + (Int.tmod (z6_1.getD i43_1.toNat 0) 10)))]) (i43_1 + 1)
    else
      gd (rmB (l7_1.length + 1) 1) <|
      some (b5_1, (l7_1 ++ [90]), none)
def pTime_j1 (n : Nat) (b5_1 : UInt8) (z6_1 : List Int) (m6_1 : Nat) : Option (UInt8 × List UInt8 × Option Int) :=
  pTime_l1 n b5_1 z6_1 m6_1 n [] 0
def pTime (n : Nat) (a0_0 : Int) (a0_1 : Int) (a0_2 : Int) (a0_3 : Int) (a0_4 : Int) (a0_5 : Int) : Option (UInt8 × List UInt8 × Option Int) :=
  (pvalid n a0_0 a0_1 a0_2 a0_3 a0_4 a0_5).bind fun r11 =>
  bif (!r11) then
    some (0, [], (some 1))
  else
    gd ((100 : Int) ≠ 0) <|
    gd (okI .i64 (Int.tdiv a0_0 100)) <|
    gd ((100 : Int) ≠ 0) <|
    bif (decide ((1950 : Int) ≤ a0_0)) then
      bif (decide (a0_0 < (2050 : Int))) then
        gd (0 ≤ (1 : Int)) <|
        gd ((1 : Int) ≤ (7 : Int)) <|
        pTime_j1 n 23 (([(Int.tdiv a0_0 100), (Int.tmod a0_0 100), a0_1, a0_2, a0_3, a0_4, a0_5].drop 1).take 6) 6
      else
        pTime_j1 n 24 [(Int.tdiv a0_0 100), (Int.tmod a0_0 100), a0_1, a0_2, a0_3, a0_4, a0_5] 7
    else
      pTime_j1 n 24 [(Int.tdiv a0_0 100), (Int.tmod a0_0 100), a0_1, a0_2, a0_3, a0_4, a0_5] 7
def pahead (n : Nat) (a0 : Int) : Option (Int) :=
  gd (okI .i64 (a0 - 1)) <|
  gd (okI .i64 (365 * (a0 - 1))) <|
  gd ((4 : Int) ≠ 0) <|
  gd (okI .i64 (Int.tdiv (a0 - 1) 4)) <|
  gd (okI .i64 ((365 * (a0 - 1)) + (Int.tdiv (a0 - 1) 4))) <|
  gd ((100 : Int) ≠ 0) <|
  gd (okI .i64 (Int.tdiv (a0 - 1) 100)) <|
  gd (okI .i64 (((365 * (a0 - 1)) + (Int.tdiv (a0 - 1) 4)) - (Int.tdiv (a0 - 1) 100))) <|
  gd ((400 : Int) ≠ 0) <|
  gd (okI .i64 (Int.tdiv (a0 - 1) 400)) <|
  gd (okI .i64 ((((365 * (a0 - 1)) + (Int.tdiv (a0 - 1) 4)) - (Int.tdiv (a0 - 1) 100)) + (Int.tdiv (a0 - 1) 400))) <|
  some ((((365 * (a0 - 1)) + (Int.tdiv (a0 - 1) 4)) - (Int.tdiv (a0 - 1) 100)) + (Int.tdiv (a0 - 1) 400))
def pCount_l1 (n : Nat) (a0_0 : Int) (a0_1 : Int) (a0_2 : Int) (a0_3 : Int) (a0_4 : Int) (a0_5 : Int) : Nat → Int → Int → Option (Int × Option Int)
  | 0, _, _ => none
  | fu_l1 + 1, i4_1, i5_1 =>
    bif (decide (i5_1 < a0_1)) then
      (pdays n a0_0 i5_1).bind fun r27_2 =>
      gd (okI .i64 (i4_1 + r27_2)) <|
      gd (okI .i64 (i5_1 + 1)) <|
      (pCount_l1 n a0_0 a0_1 a0_2 a0_3 a0_4 a0_5 fu_l1) (i4_1 + r27_2) (i5_1 + 1)
    else
      gd (okI .i64 (i4_1 * 86400)) <|
      gd (okI .i64 (a0_3 * 3600)) <|
      gd (okI .i64 (a0_4 * 60)) <|
      gd (okI .i64 ((a0_3 * 3600) + (a0_4 * 60))) <|
      gd (okI .i64 (((a0_3 * 3600) + (a0_4 * 60)) + a0_5)) <|
      gd (okI .i64 ((i4_1 * 86400) + (((a0_3 * 3600) + (a0_4 * 60)) + a0_5))) <|
      some (((i4_1 * 86400) + (((a0_3 * 3600) + (a0_4 * 60)) + a0_5)), none)
def pCount (n : Nat) (a0_0 : Int) (a0_1 : Int) (a0_2 : Int) (a0_3 : Int) (a0_4 : Int) (a0_5 : Int) : Option (Int × Option Int) :=
  (pvalid n a0_0 a0_1 a0_2 a0_3 a0_4 a0_5).bind fun r7 =>
  bif (!r7) then
    some (0, (some 1))
  else
    (pahead n a0_0).bind fun r12 =>
    gd (okI .i64 (a0_2 - 1)) <|
    gd (okI .i64 (r12 + (a0_2 - 1))) <|
    pCount_l1 n a0_0 a0_1 a0_2 a0_3 a0_4 a0_5 n (r12 + (a0_2 - 1)) 1
def pInt_j1 (n : Nat) (l3_6 : List UInt8) (m3_4 : Nat) : Option (List UInt8) :=
  gd ((l3_6).length ≤ 1000000000000) <|
  some l3_6
def pInt_l2 (n : Nat) : Nat → List UInt8 → Nat → Option (List UInt8)
  | 0, _, _ => none
  | fu_l2 + 1, l3_7, m3_5 =>
    bif (decide ((1 : Int) < ((m3_5 : Nat) : Int))) then
      (pspare n l3_7).bind fun r21_5 =>
      bif r21_5 then
        gd (0 ≤ (1 : Int)) <|
        gd ((1 : Int) ≤ ((m3_5 : Nat) : Int)) <|
        (pInt_l2 n fu_l2) ((l3_7.drop 1).take (m3_5 - 1)) (m3_5 - 1)
      else
        pInt_j1 n l3_7 m3_5
    else
      pInt_j1 n l3_7 m3_5
def pInt_l1 (n : Nat) (a0 : Int) : Nat → List UInt8 → Int → Option (List UInt8)
  | 0, _, _ => none
  | fu_l1 + 1, l3_4, i4_1 =>
    bif (decide ((0 : Int) ≤ i4_1)) then
      gd (0 ≤ i4_1) <|
      gd (i4_1 ≤ (((IntKind.i64).bits : Nat) : Int)) <|
      gd (rmB (l3_4.length + 1) 1) <|
      gd (okI .i64 (i4_1 - 8)) <|
      (pInt_l1 n a0 fu_l1) (l3_4 ++ [(UInt8.ofInt (a0 / 2 ^ i4_1.toNat))]) (i4_1 - 8)
    else
      pInt_l2 n n l3_4 l3_4.length
def pInt (n : Nat) (a0 : Int) : Option (List UInt8) :=
  pInt_l1 n a0 n [] 56
def pup (n : Nat) : Option (Bool) :=
  (pReadInt n [0, 127]).bind fun r12 =>
  (pOid n [1, 2, 840, 113549]).bind fun r17 =>
  (pTime n 2049 12 31 23 59 59).bind fun r22 =>
  (pCount n 1 1 1 0 0 1).bind fun r28 =>
  (pInt n (-129)).bind fun r31 =>
  bif (r31 == ([255, 127] : List UInt8)) then
    gd (¬((r12.2 : Option Int) = none ∧ ((some 2) : Option Int) = none)) <|
    bif (r12.2 == (some 2)) then
      bif ((r17.2).isNone) then
        bif (r17.1 == ([42, 134, 72, 134, 247, 13] : List UInt8)) then
          bif ((r22.2.2).isNone) then
            bif (r22.1 == 23) then
              bif (r22.2.1 == ([52, 57, 49, 50, 51, 49, 50, 51, 53, 57, 53, 57, 90] : List UInt8)) then
                bif ((r28.2).isNone) then
                  some (r28.1 == 1)
                else
                  some false
              else
                some false
            else
              some false
          else
            some false
        else
          some false
      else
        some false
    else
      some false
  else
    some false

def pspare_R (r : Bool) : S := ⟨[(2, .c (.s (.b r)))], [], []⟩
def pspare_ct (n : Nat) (r : Bool) : Ct := fun args H => match args with
  | [x0] => (match aB H x0 with | some l0 => some ([pspare n l0 = some r], shA H.length (.c (.s (.b r))), shH H.length []) | none => none)
  | _ => none
theorem pspare_ok (n : Nat) (r : Bool) : FnOk Try.prog Tr 48 (pspare_ct n r) := by
  refine ⟨fun args H g av objs hF hg ρ w vals hG hp ha => ?_, _, Try.func48, by kernel_rfl, by kernel_rfl⟩
  obtain ⟨x0, rfl⟩ : ∃ x0, args = [x0] := by
    unfold pspare_ct at hF; split at hF
    · exact ⟨_, rfl⟩
    · cases hF
  cases e0 : aB H x0 with
  | none => simp only [pspare_ct, e0, reduceCtorEq] at hF
  | some l0 =>
  simp only [pspare_ct, e0, Option.some.injEq, Prod.mk.injEq] at hF
  obtain ⟨rfl, rfl, rfl⟩ := hF
  obtain ⟨v0, vals, rfl, k0, ha⟩ := F2.inv ha
  obtain rfl := F2.inv0 ha
  have hI : ∀ w', Kp (noB (fun _ => undef)) w w' → Tr w' := fun _ hk => Tr.keep hk.below hG
  have h : pspare n l0 = some r := hg
  obtain ⟨p0, s0, o0⟩ := aB_ok hp e0 (k0) 5
  have hR0 := rel0 (gv := (fun _ => undef)) (n := 25) (w := w) (args := [.c (.wh 0)]) (H := [⟨.ro false, 5, 1, l0.length, .b l0⟩]) (gl := []) (hpL (ps := [p0]) (F2.cons o0 F2.nil)) (allRo_ok rfl) (F2.cons s0 F2.nil) GlR.nil (by simp)
  clear ha hp hg k0 e0
  refine calls_W Try.func48 rfl rfl hR0 (Q := fun e s => (e = .ret ∨ e = .normal) ∧ s = pspare_R r) ?_ ?_
  · clear hR0
    unfold pspare at h
    have hT := tabO_pr
    refine W_seq ?_
    refine W_reg hT ftL_nil [] [] [0] [0] (s' := ⟨[(0, .c (.wh 0))], [], [⟨(.ro false), 5, 1, l0.length, .b l0⟩]⟩) (by kernel_rfl) allP_nil ?_
    refine W_seq ?_
    obtain ⟨g1, h⟩ := gd_some h
    obtain ⟨g2, h⟩ := gd_some h
    rcases Bool.eq_false_or_eq_true ((l0.getD 0 0) == 0) with g3 | g3
    · replace h := bif_t h g3
      obtain ⟨g4, h⟩ := gd_some h
      obtain ⟨g5, h⟩ := gd_some h
      rcases Bool.eq_false_or_eq_true (decide ((l0.getD 1 0) < (128 : UInt8))) with g6 | g6
      · replace h := bif_t h g6
        refine W_reg hT ftL_nil [(4, true), (10, true)] [] [2] [] (s' := ⟨[(2, .c (.s (.b true)))], [], []⟩) (by kernel_rfl) (allP_cons.2 ⟨g1, (allP_cons.2 ⟨g2, (allP_cons.2 ⟨g3, (allP_cons.2 ⟨g4, (allP_cons.2 ⟨g5, (allP_cons.2 ⟨g6, allP_nil⟩)⟩)⟩)⟩)⟩)⟩) ?_
        refine W_co [] [2] [] (s' := (pspare_R true)) (by kernel_rfl) (W_ret ?_)
        exact ⟨.inl rfl, by cases h; rfl⟩
      · replace h := bif_f h g6
        obtain ⟨g7, h⟩ := gd_some h
        obtain ⟨g8, h⟩ := gd_some h
        rcases Bool.eq_false_or_eq_true ((l0.getD 0 0) == 255) with g9 | g9
        · replace h := bif_t h g9
          obtain ⟨g10, h⟩ := gd_some h
          obtain ⟨g11, h⟩ := gd_some h
          refine W_reg hT ftL_nil [(4, true), (10, false), (15, true)] [] [2] [] (s' := ⟨[(2, .c (.s (.b (decide ((128 : UInt8) ≤ (l0.getD 1 0))))))], [], []⟩) (by kernel_rfl) (allP_cons.2 ⟨g1, (allP_cons.2 ⟨g2, (allP_cons.2 ⟨g3, (allP_cons.2 ⟨g4, (allP_cons.2 ⟨g5, (allP_cons.2 ⟨g6, (allP_cons.2 ⟨g7, (allP_cons.2 ⟨g8, (allP_cons.2 ⟨g9, (allP_cons.2 ⟨g10, (allP_cons.2 ⟨g11, allP_nil⟩)⟩)⟩)⟩)⟩)⟩)⟩)⟩)⟩)⟩)⟩) ?_
          refine W_co [] [2] [] (s' := (pspare_R (decide ((128 : UInt8) ≤ (l0.getD 1 0))))) (by kernel_rfl) (W_ret ?_)
          exact ⟨.inl rfl, by cases h; rfl⟩
        · replace h := bif_f h g9
          refine W_reg hT ftL_nil [(4, true), (10, false), (15, false)] [] [2] [] (s' := ⟨[(2, .c (.s (.b false)))], [], []⟩) (by kernel_rfl) (allP_cons.2 ⟨g1, (allP_cons.2 ⟨g2, (allP_cons.2 ⟨g3, (allP_cons.2 ⟨g4, (allP_cons.2 ⟨g5, (allP_cons.2 ⟨g6, (allP_cons.2 ⟨g7, (allP_cons.2 ⟨g8, (allP_cons.2 ⟨g9, allP_nil⟩)⟩)⟩)⟩)⟩)⟩)⟩)⟩)⟩) ?_
          refine W_co [] [2] [] (s' := (pspare_R false)) (by kernel_rfl) (W_ret ?_)
          exact ⟨.inl rfl, by cases h; rfl⟩
    · replace h := bif_f h g3
      obtain ⟨g12, h⟩ := gd_some h
      obtain ⟨g13, h⟩ := gd_some h
      rcases Bool.eq_false_or_eq_true ((l0.getD 0 0) == 255) with g14 | g14
      · replace h := bif_t h g14
        obtain ⟨g15, h⟩ := gd_some h
        obtain ⟨g16, h⟩ := gd_some h
        refine W_reg hT ftL_nil [(4, false), (15, true)] [] [2] [] (s' := ⟨[(2, .c (.s (.b (decide ((128 : UInt8) ≤ (l0.getD 1 0))))))], [], []⟩) (by kernel_rfl) (allP_cons.2 ⟨g1, (allP_cons.2 ⟨g2, (allP_cons.2 ⟨g3, (allP_cons.2 ⟨g12, (allP_cons.2 ⟨g13, (allP_cons.2 ⟨g14, (allP_cons.2 ⟨g15, (allP_cons.2 ⟨g16, allP_nil⟩)⟩)⟩)⟩)⟩)⟩)⟩)⟩) ?_
        refine W_co [] [2] [] (s' := (pspare_R (decide ((128 : UInt8) ≤ (l0.getD 1 0))))) (by kernel_rfl) (W_ret ?_)
        exact ⟨.inl rfl, by cases h; rfl⟩
      · replace h := bif_f h g14
        refine W_reg hT ftL_nil [(4, false), (15, false)] [] [2] [] (s' := ⟨[(2, .c (.s (.b false)))], [], []⟩) (by kernel_rfl) (allP_cons.2 ⟨g1, (allP_cons.2 ⟨g2, (allP_cons.2 ⟨g3, (allP_cons.2 ⟨g12, (allP_cons.2 ⟨g13, (allP_cons.2 ⟨g14, allP_nil⟩)⟩)⟩)⟩)⟩)⟩) ?_
        refine W_co [] [2] [] (s' := (pspare_R false)) (by kernel_rfl) (W_ret ?_)
        exact ⟨.inl rfl, by cases h; rfl⟩
  · rintro e s' ⟨he, rfl⟩
    refine ⟨he, fun a' w' hr => ?_⟩
    exact retS_ok tabO_pr hr (rs := [.tmp 2]) rfl (objs := []) (by kernel_rfl)
def pReadInt_l1_E (a0 : List UInt8) (i4_2 : Int) (i34_2 : Int) : S := ⟨[(4, .c (.s (.k .i64 i4_2))), (32, .c (.wh 0)), (33, .c (.s (.k .i64 (((a0.length - 1) : Nat) : Int)))), (34, .c (.s (.k .i64 i34_2)))], [], [⟨(.ro false), 5, 1, (a0.length - 1), .b ((a0.drop 1).take (a0.length - 1))⟩]⟩
def pReadInt_l1_P (n : Nat) (a0 : List UInt8) (r : Int × Option Int) (fu : Nat) : S → Prop := fun s => ∃ (i4_2 : Int), ∃ (i34_2 : Int), s = pReadInt_l1_E a0 i4_2 i34_2 ∧ pReadInt_l1 n a0 fu i4_2 i34_2 = some r
theorem pReadInt_l1_M {n : Nat} {a0 : List UInt8} {i4_2 : Int} {i34_2 : Int} {r : Int × Option Int} {fu : Nat} (h : pReadInt_l1 n a0 fu i4_2 i34_2 = some r) : pReadInt_l1_P n a0 r fu (pReadInt_l1_E a0 i4_2 i34_2) := ⟨i4_2, i34_2, rfl, h⟩
def pReadInt_l2_E (a0 : List UInt8) (i4_3 : Int) (i34_3 : Int) : S := ⟨[(4, .c (.s (.k .i64 i4_3))), (32, .c (.wh 0)), (33, .c (.s (.k .i64 (((a0.length - 1) : Nat) : Int)))), (34, .c (.s (.k .i64 i34_3)))], [], [⟨(.ro false), 5, 1, (a0.length - 1), .b ((a0.drop 1).take (a0.length - 1))⟩]⟩
def pReadInt_l2_P (n : Nat) (a0 : List UInt8) (r : Int × Option Int) (fu : Nat) : S → Prop := fun s => ∃ (i4_3 : Int), ∃ (i34_3 : Int), s = pReadInt_l2_E a0 i4_3 i34_3 ∧ pReadInt_l2 n a0 fu i4_3 i34_3 = some r
theorem pReadInt_l2_M {n : Nat} {a0 : List UInt8} {i4_3 : Int} {i34_3 : Int} {r : Int × Option Int} {fu : Nat} (h : pReadInt_l2 n a0 fu i4_3 i34_3 = some r) : pReadInt_l2_P n a0 r fu (pReadInt_l2_E a0 i4_3 i34_3) := ⟨i4_3, i34_3, rfl, h⟩
def pReadInt_R (r : Int × Option Int) : S := ⟨[(2, .c (.s (.k .i64 r.1))), (3, .c (.s (.er 31 .i64 r.2)))], [], []⟩
def pReadInt_ct (n : Nat) (r : Int × Option Int) : Ct := fun args H => match args with
  | [x0] => (match aB H x0 with | some l0 => some ([pReadInt n l0 = some r], shA H.length (.t [.c (.s (.k .i64 r.1)), .c (.s (.er 31 .i64 r.2))]), shH H.length []) | none => none)
  | _ => none
theorem pReadInt_ok (n : Nat) (r : Int × Option Int) : FnOk Try.prog Tr 18 (pReadInt_ct n r) := by
  refine ⟨fun args H g av objs hF hg ρ w vals hG hp ha => ?_, _, Try.func18, by kernel_rfl, by kernel_rfl⟩
  obtain ⟨x0, rfl⟩ : ∃ x0, args = [x0] := by
    unfold pReadInt_ct at hF; split at hF
    · exact ⟨_, rfl⟩
    · cases hF
  cases e0 : aB H x0 with
  | none => simp only [pReadInt_ct, e0, reduceCtorEq] at hF
  | some l0 =>
  simp only [pReadInt_ct, e0, Option.some.injEq, Prod.mk.injEq] at hF
  obtain ⟨rfl, rfl, rfl⟩ := hF
  obtain ⟨v0, vals, rfl, k0, ha⟩ := F2.inv ha
  obtain rfl := F2.inv0 ha
  have hI : ∀ w', Kp (noB (fun _ => undef)) w w' → Tr w' := fun _ hk => Tr.keep hk.below hG
  have h : pReadInt n l0 = some r := hg
  obtain ⟨p0, s0, o0⟩ := aB_ok hp e0 (k0) 5
  have hR0 := rel0 (gv := (fun _ => undef)) (n := 45) (w := w) (args := [.c (.wh 0)]) (H := [⟨.ro false, 5, 1, l0.length, .b l0⟩]) (gl := []) (hpL (ps := [p0]) (F2.cons o0 F2.nil)) (allRo_ok rfl) (F2.cons s0 F2.nil) GlR.nil (by simp)
  clear ha hp hg k0 e0
  refine calls_W Try.func18 rfl rfl hR0 (Q := fun e s => (e = .ret ∨ e = .normal) ∧ s = pReadInt_R r) ?_ ?_
  · clear hR0
    unfold pReadInt at h
    have hT := tabO_pr
    refine W_seq ?_
    refine W_reg hT ftL_nil [] [] [0] [0] (s' := ⟨[(0, .c (.wh 0))], [], [⟨(.ro false), 5, 1, l0.length, .b l0⟩]⟩) (by kernel_rfl) allP_nil ?_
    refine W_seq ?_
    refine W_block ?_
    refine W_seq ?_
    rcases Bool.eq_false_or_eq_true (((l0.length : Nat) : Int) == 0) with g1 | g1
    · replace h := bif_t h g1
      refine W_reg hT ftL_nil [(3, true)] [] [0, 7] [0] (s' := ⟨[(0, .c (.wh 0)), (7, .c (.s (.b true)))], [], [⟨(.ro false), 5, 1, l0.length, .b l0⟩]⟩) (by kernel_rfl) (allP_cons.2 ⟨g1, allP_nil⟩) ?_
      refine W_cond (b := true) (by kernel_rfl) (fun _ => ?_) (fun hb => by cases hb)
      refine W_seq ?_
      refine W_reg hT ftL_nil [] [] [2, 3] [] (s' := ⟨[(2, .c (.s (.k .i64 0))), (3, .c (.s (.er 31 .i64 (some 2))))], [], []⟩) (by kernel_rfl) allP_nil ?_
      refine W_co [] [2, 3] [] (s' := (pReadInt_R (0, (some 2)))) (by kernel_rfl) (W_ret ?_)
      exact ⟨.inl rfl, by cases h; rfl⟩
    · replace h := bif_f h g1
      rcases Bool.eq_false_or_eq_true (decide ((1 : Int) < ((l0.length : Nat) : Int))) with g2 | g2
      · replace h := bif_t h g2
        obtain ⟨r17, g3, h⟩ := bind_some' h
        refine W_reg hT (ftL_cons (k := 9) (f := 48) (F := (pspare_ct n r17)) (pspare_ok n r17) (fun _ _ => True.intro) ftL_nil) [(3, false), (7, true)] [] [0, 7] [0] (s' := ⟨[(0, .c (.wh 0)), (7, .c (.s (.b r17)))], [], [⟨(.ro false), 5, 1, l0.length, .b l0⟩]⟩) (by kernel_rfl) (allP_cons.2 ⟨g1, (allP_cons.2 ⟨g2, (allP_cons.2 ⟨g3, allP_nil⟩)⟩)⟩) ?_
        refine W_cond (b := r17) (by kernel_rfl) (fun g17 => ?_) (fun g17 => ?_)
        · replace h := bif_t h g17
          refine W_seq ?_
          refine W_reg hT ftL_nil [] [] [2, 3] [] (s' := ⟨[(2, .c (.s (.k .i64 0))), (3, .c (.s (.er 31 .i64 (some 2))))], [], []⟩) (by kernel_rfl) allP_nil ?_
          refine W_co [] [2, 3] [] (s' := (pReadInt_R (0, (some 2)))) (by kernel_rfl) (W_ret ?_)
          exact ⟨.inl rfl, by cases h; rfl⟩
        · replace h := bif_f h g17
          refine W_seq ?_
          refine W_reg hT ftL_nil [] [] [0, 21] [0] (s' := ⟨[(0, .c (.wh 0)), (21, .c (.s (.b (decide ((8 : Int) < ((l0.length : Nat) : Int))))))], [], [⟨(.ro false), 5, 1, l0.length, .b l0⟩]⟩) (by kernel_rfl) allP_nil ?_
          refine W_cond (b := (decide ((8 : Int) < ((l0.length : Nat) : Int)))) (by kernel_rfl) (fun g16 => ?_) (fun g16 => ?_)
          · replace h := bif_t h g16
            refine W_seq ?_
            refine W_reg hT ftL_nil [] [] [2, 3] [] (s' := ⟨[(2, .c (.s (.k .i64 0))), (3, .c (.s (.er 31 .i64 (some 4))))], [], []⟩) (by kernel_rfl) allP_nil ?_
            refine W_co [] [2, 3] [] (s' := (pReadInt_R (0, (some 4)))) (by kernel_rfl) (W_ret ?_)
            exact ⟨.inl rfl, by cases h; rfl⟩
          · replace h := bif_f h g16
            refine W_co [] [0] [0] (s' := ⟨[(0, .c (.wh 0))], [], [⟨(.ro false), 5, 1, l0.length, .b l0⟩]⟩) (by kernel_rfl) (W_skip ?_)
            refine W_seq ?_
            obtain ⟨g4, h⟩ := gd_some h
            obtain ⟨g5, h⟩ := gd_some h
            obtain ⟨g6, h⟩ := gd_some h
            refine W_reg hT ftL_nil [] [] [0, 4] [0] (s' := ⟨[(0, .c (.wh 0)), (4, .c (.s (.k .i64 (IntKind.i8.wrap (((l0.getD 0 0).toNat : Nat) : Int)))))], [], [⟨(.ro false), 5, 1, l0.length, .b l0⟩]⟩) (by kernel_rfl) (allP_cons.2 ⟨g4, (allP_cons.2 ⟨g5, (allP_cons.2 ⟨g6, allP_nil⟩)⟩)⟩) ?_
            refine W_seq ?_
            refine W_seq ?_
            obtain ⟨g7, h⟩ := gd_some h
            obtain ⟨g8, h⟩ := gd_some h
            refine W_reg hT ftL_nil [] [] [4, 32, 33, 34] [0] (s' := ⟨[(4, .c (.s (.k .i64 (IntKind.i8.wrap (((l0.getD 0 0).toNat : Nat) : Int))))), (32, .c (.sl 0 1 (l0.length - 1))), (33, .c (.s (.k .i64 (((l0.length - 1) : Nat) : Int)))), (34, .c (.s (.k .i64 0)))], [], [⟨(.ro false), 5, 1, l0.length, .b l0⟩]⟩) (by kernel_rfl) (allP_cons.2 ⟨g7, (allP_cons.2 ⟨g8, allP_nil⟩)⟩) ?_
            refine W_block ?_
            refine W_co [.vw 32 false] [4, 32, 33, 34] [1] (s' := (pReadInt_l1_E l0 (IntKind.i8.wrap (((l0.getD 0 0).toNat : Nat) : Int)) 0)) (by kernel_rfl) (W_lp ((pReadInt_l1_P n l0 r)) n (pReadInt_l1_M h) ?_)
            rintro fu_l1 _ ⟨i4_2, i34_2, rfl, h⟩
            cases fu_l1 with
            | zero => cases h
            | succ fu_l1 =>
              refine ⟨fu_l1, rfl, ?_⟩
              rw [pReadInt_l1] at h
              refine W_seq ?_
              refine W_reg hT ftL_nil [] [] [4, 32, 33, 34, 35] [0] (s' := ⟨[(4, .c (.s (.k .i64 i4_2))), (32, .c (.wh 0)), (33, .c (.s (.k .i64 (((l0.length - 1) : Nat) : Int)))), (34, .c (.s (.k .i64 i34_2))), (35, .c (.s (.b (decide (i34_2 < (((l0.length - 1) : Nat) : Int))))))], [], [⟨(.ro false), 5, 1, (l0.length - 1), .b ((l0.drop 1).take (l0.length - 1))⟩]⟩) (by kernel_rfl) allP_nil ?_
              refine W_seq ?_
              refine W_cond (b := (decide (i34_2 < (((l0.length - 1) : Nat) : Int)))) (by kernel_rfl) (fun g15 => ?_) (fun g15 => ?_)
              · replace h := bif_t h g15
                refine W_co [] [4, 32, 33, 34] [0] (s' := ⟨[(4, .c (.s (.k .i64 i4_2))), (32, .c (.wh 0)), (33, .c (.s (.k .i64 (((l0.length - 1) : Nat) : Int)))), (34, .c (.s (.k .i64 i34_2)))], [], [⟨(.ro false), 5, 1, (l0.length - 1), .b ((l0.drop 1).take (l0.length - 1))⟩]⟩) (by kernel_rfl) (W_skip ?_)
                refine W_seq ?_
                refine W_block ?_
                refine W_seq ?_
                obtain ⟨g9, h⟩ := gd_some h
                obtain ⟨g10, h⟩ := gd_some h
                refine W_reg hT ftL_nil [] [] [4, 6, 32, 33, 34] [0] (s' := ⟨[(4, .c (.s (.k .i64 i4_2))), (6, .c (.s (.u8 (((l0.drop 1).take (l0.length - 1)).getD i34_2.toNat 0)))), (32, .c (.wh 0)), (33, .c (.s (.k .i64 (((l0.length - 1) : Nat) : Int)))), (34, .c (.s (.k .i64 i34_2)))], [], [⟨(.ro false), 5, 1, (l0.length - 1), .b ((l0.drop 1).take (l0.length - 1))⟩]⟩) (by kernel_rfl) (allP_cons.2 ⟨g9, (allP_cons.2 ⟨g10, allP_nil⟩)⟩) ?_
                obtain ⟨g11, h⟩ := gd_some h
                obtain ⟨g12, h⟩ := gd_some h
                obtain ⟨g13, h⟩ := gd_some h
                refine W_reg hT ftL_nil [] [] [4, 32, 33, 34] [0] (s' := ⟨[(4, .c (.s (.k .i64 (bitI .or .i64 (i4_2 * 2 ^ 8) (((((l0.drop 1).take (l0.length - 1)).getD i34_2.toNat 0).toNat : Nat) : Int))))), (32, .c (.wh 0)), (33, .c (.s (.k .i64 (((l0.length - 1) : Nat) : Int)))), (34, .c (.s (.k .i64 i34_2)))], [], [⟨(.ro false), 5, 1, (l0.length - 1), .b ((l0.drop 1).take (l0.length - 1))⟩]⟩) (by kernel_rfl) (allP_cons.2 ⟨g11, (allP_cons.2 ⟨g12, (allP_cons.2 ⟨g13, allP_nil⟩)⟩)⟩) ?_
                obtain ⟨g14, h⟩ := gd_some h
                refine W_reg hT ftL_nil [] [] [4, 32, 33, 34] [0] (s' := (pReadInt_l1_E l0 (bitI .or .i64 (i4_2 * 2 ^ 8) (((((l0.drop 1).take (l0.length - 1)).getD i34_2.toNat 0).toNat : Nat) : Int)) (i34_2 + 1))) (by kernel_rfl) (allP_cons.2 ⟨g14, allP_nil⟩) ?_
                exact pReadInt_l1_M h
              · replace h := bif_f h g15
                refine W_co [] [4] [] (s' := ⟨[(4, .c (.s (.k .i64 i4_2)))], [], []⟩) (by kernel_rfl) (W_exit ?_)
                refine W_seq ?_
                refine W_reg hT ftL_nil [] [] [2, 3] [] (s' := ⟨[(2, .c (.s (.k .i64 i4_2))), (3, .c (.s (.v .nilIface)))], [], []⟩) (by kernel_rfl) allP_nil ?_
                refine W_co [.er 3 31 .i64] [2, 3] [] (s' := (pReadInt_R (i4_2, none))) (by kernel_rfl) (W_ret ?_)
                exact ⟨.inl rfl, by cases h; rfl⟩
      · replace h := bif_f h g2
        refine W_reg hT ftL_nil [(3, false), (7, false)] [] [0, 7] [0] (s' := ⟨[(0, .c (.wh 0)), (7, .c (.s (.b false)))], [], [⟨(.ro false), 5, 1, l0.length, .b l0⟩]⟩) (by kernel_rfl) (allP_cons.2 ⟨g1, (allP_cons.2 ⟨g2, allP_nil⟩)⟩) ?_
        refine W_cond (b := false) (by kernel_rfl) (fun hb => by cases hb) (fun _ => ?_)
        refine W_seq ?_
        refine W_reg hT ftL_nil [] [] [0, 21] [0] (s' := ⟨[(0, .c (.wh 0)), (21, .c (.s (.b (decide ((8 : Int) < ((l0.length : Nat) : Int))))))], [], [⟨(.ro false), 5, 1, l0.length, .b l0⟩]⟩) (by kernel_rfl) allP_nil ?_
        refine W_cond (b := (decide ((8 : Int) < ((l0.length : Nat) : Int)))) (by kernel_rfl) (fun g30 => ?_) (fun g30 => ?_)
        · replace h := bif_t h g30
          refine W_seq ?_
          refine W_reg hT ftL_nil [] [] [2, 3] [] (s' := ⟨[(2, .c (.s (.k .i64 0))), (3, .c (.s (.er 31 .i64 (some 4))))], [], []⟩) (by kernel_rfl) allP_nil ?_
          refine W_co [] [2, 3] [] (s' := (pReadInt_R (0, (some 4)))) (by kernel_rfl) (W_ret ?_)
          exact ⟨.inl rfl, by cases h; rfl⟩
        · replace h := bif_f h g30
          refine W_co [] [0] [0] (s' := ⟨[(0, .c (.wh 0))], [], [⟨(.ro false), 5, 1, l0.length, .b l0⟩]⟩) (by kernel_rfl) (W_skip ?_)
          refine W_seq ?_
          obtain ⟨g18, h⟩ := gd_some h
          obtain ⟨g19, h⟩ := gd_some h
          obtain ⟨g20, h⟩ := gd_some h
          refine W_reg hT ftL_nil [] [] [0, 4] [0] (s' := ⟨[(0, .c (.wh 0)), (4, .c (.s (.k .i64 (IntKind.i8.wrap (((l0.getD 0 0).toNat : Nat) : Int)))))], [], [⟨(.ro false), 5, 1, l0.length, .b l0⟩]⟩) (by kernel_rfl) (allP_cons.2 ⟨g18, (allP_cons.2 ⟨g19, (allP_cons.2 ⟨g20, allP_nil⟩)⟩)⟩) ?_
          refine W_seq ?_
          refine W_seq ?_
          obtain ⟨g21, h⟩ := gd_some h
          obtain ⟨g22, h⟩ := gd_some h
          refine W_reg hT ftL_nil [] [] [4, 32, 33, 34] [0] (s' := ⟨[(4, .c (.s (.k .i64 (IntKind.i8.wrap (((l0.getD 0 0).toNat : Nat) : Int))))), (32, .c (.sl 0 1 (l0.length - 1))), (33, .c (.s (.k .i64 (((l0.length - 1) : Nat) : Int)))), (34, .c (.s (.k .i64 0)))], [], [⟨(.ro false), 5, 1, l0.length, .b l0⟩]⟩) (by kernel_rfl) (allP_cons.2 ⟨g21, (allP_cons.2 ⟨g22, allP_nil⟩)⟩) ?_
          refine W_block ?_
          refine W_co [.vw 32 false] [4, 32, 33, 34] [1] (s' := (pReadInt_l2_E l0 (IntKind.i8.wrap (((l0.getD 0 0).toNat : Nat) : Int)) 0)) (by kernel_rfl) (W_lp ((pReadInt_l2_P n l0 r)) n (pReadInt_l2_M h) ?_)
          rintro fu_l2 _ ⟨i4_3, i34_3, rfl, h⟩
          cases fu_l2 with
          | zero => cases h
          | succ fu_l2 =>
            refine ⟨fu_l2, rfl, ?_⟩
            rw [pReadInt_l2] at h
            refine W_seq ?_
            refine W_reg hT ftL_nil [] [] [4, 32, 33, 34, 35] [0] (s' := ⟨[(4, .c (.s (.k .i64 i4_3))), (32, .c (.wh 0)), (33, .c (.s (.k .i64 (((l0.length - 1) : Nat) : Int)))), (34, .c (.s (.k .i64 i34_3))), (35, .c (.s (.b (decide (i34_3 < (((l0.length - 1) : Nat) : Int))))))], [], [⟨(.ro false), 5, 1, (l0.length - 1), .b ((l0.drop 1).take (l0.length - 1))⟩]⟩) (by kernel_rfl) allP_nil ?_
            refine W_seq ?_
            refine W_cond (b := (decide (i34_3 < (((l0.length - 1) : Nat) : Int)))) (by kernel_rfl) (fun g29 => ?_) (fun g29 => ?_)
            · replace h := bif_t h g29
              refine W_co [] [4, 32, 33, 34] [0] (s' := ⟨[(4, .c (.s (.k .i64 i4_3))), (32, .c (.wh 0)), (33, .c (.s (.k .i64 (((l0.length - 1) : Nat) : Int)))), (34, .c (.s (.k .i64 i34_3)))], [], [⟨(.ro false), 5, 1, (l0.length - 1), .b ((l0.drop 1).take (l0.length - 1))⟩]⟩) (by kernel_rfl) (W_skip ?_)
              refine W_seq ?_
              refine W_block ?_
              refine W_seq ?_
              obtain ⟨g23, h⟩ := gd_some h
              obtain ⟨g24, h⟩ := gd_some h
              refine W_reg hT ftL_nil [] [] [4, 6, 32, 33, 34] [0] (s' := ⟨[(4, .c (.s (.k .i64 i4_3))), (6, .c (.s (.u8 (((l0.drop 1).take (l0.length - 1)).getD i34_3.toNat 0)))), (32, .c (.wh 0)), (33, .c (.s (.k .i64 (((l0.length - 1) : Nat) : Int)))), (34, .c (.s (.k .i64 i34_3)))], [], [⟨(.ro false), 5, 1, (l0.length - 1), .b ((l0.drop 1).take (l0.length - 1))⟩]⟩) (by kernel_rfl) (allP_cons.2 ⟨g23, (allP_cons.2 ⟨g24, allP_nil⟩)⟩) ?_
              obtain ⟨g25, h⟩ := gd_some h
              obtain ⟨g26, h⟩ := gd_some h
              obtain ⟨g27, h⟩ := gd_some h
              refine W_reg hT ftL_nil [] [] [4, 32, 33, 34] [0] (s' := ⟨[(4, .c (.s (.k .i64 (bitI .or .i64 (i4_3 * 2 ^ 8) (((((l0.drop 1).take (l0.length - 1)).getD i34_3.toNat 0).toNat : Nat) : Int))))), (32, .c (.wh 0)), (33, .c (.s (.k .i64 (((l0.length - 1) : Nat) : Int)))), (34, .c (.s (.k .i64 i34_3)))], [], [⟨(.ro false), 5, 1, (l0.length - 1), .b ((l0.drop 1).take (l0.length - 1))⟩]⟩) (by kernel_rfl) (allP_cons.2 ⟨g25, (allP_cons.2 ⟨g26, (allP_cons.2 ⟨g27, allP_nil⟩)⟩)⟩) ?_
              obtain ⟨g28, h⟩ := gd_some h
              refine W_reg hT ftL_nil [] [] [4, 32, 33, 34] [0] (s' := (pReadInt_l2_E l0 (bitI .or .i64 (i4_3 * 2 ^ 8) (((((l0.drop 1).take (l0.length - 1)).getD i34_3.toNat 0).toNat : Nat) : Int)) (i34_3 + 1))) (by kernel_rfl) (allP_cons.2 ⟨g28, allP_nil⟩) ?_
              exact pReadInt_l2_M h
            · replace h := bif_f h g29
              refine W_co [] [4] [] (s' := ⟨[(4, .c (.s (.k .i64 i4_3)))], [], []⟩) (by kernel_rfl) (W_exit ?_)
              refine W_seq ?_
              refine W_reg hT ftL_nil [] [] [2, 3] [] (s' := ⟨[(2, .c (.s (.k .i64 i4_3))), (3, .c (.s (.v .nilIface)))], [], []⟩) (by kernel_rfl) allP_nil ?_
              refine W_co [.er 3 31 .i64] [2, 3] [] (s' := (pReadInt_R (i4_3, none))) (by kernel_rfl) (W_ret ?_)
              exact ⟨.inl rfl, by cases h; rfl⟩
  · rintro e s' ⟨he, rfl⟩
    refine ⟨he, fun a' w' hr => ?_⟩
    exact retS_ok tabO_pr hr (rs := [.tmp 2, .tmp 3]) rfl (objs := []) (by kernel_rfl)
def pident_R (r : Bool) : S := ⟨[(2, .c (.s (.b r)))], [], []⟩
def pident_ct (n : Nat) (r : Bool) : Ct := fun args H => match args with
  | [x0] => (match aW H x0 with | some l0 => some ([pident n l0 = some r], shA H.length (.c (.s (.b r))), shH H.length []) | none => none)
  | _ => none
theorem pident_ok (n : Nat) (r : Bool) : FnOk Try.prog Tr 64 (pident_ct n r) := by
  refine ⟨fun args H g av objs hF hg ρ w vals hG hp ha => ?_, _, Try.func64, by kernel_rfl, by kernel_rfl⟩
  obtain ⟨x0, rfl⟩ : ∃ x0, args = [x0] := by
    unfold pident_ct at hF; split at hF
    · exact ⟨_, rfl⟩
    · cases hF
  cases e0 : aW H x0 with
  | none => simp only [pident_ct, e0, reduceCtorEq] at hF
  | some l0 =>
  simp only [pident_ct, e0, Option.some.injEq, Prod.mk.injEq] at hF
  obtain ⟨rfl, rfl, rfl⟩ := hF
  obtain ⟨v0, vals, rfl, k0, ha⟩ := F2.inv ha
  obtain rfl := F2.inv0 ha
  have hI : ∀ w', Kp (noB (fun _ => undef)) w w' → Tr w' := fun _ hk => Tr.keep hk.below hG
  have h : pident n l0 = some r := hg
  obtain ⟨p0, s0, o0⟩ := aW_ok hp e0 (k0) 89
  have hR0 := rel0 (gv := (fun _ => undef)) (n := 31) (w := w) (args := [.c (.wh 0)]) (H := [⟨.ro false, 89, 1, l0.length, .w l0⟩]) (gl := []) (hpL (ps := [p0]) (F2.cons o0 F2.nil)) (allRo_ok rfl) (F2.cons s0 F2.nil) GlR.nil (by simp)
  clear ha hp hg k0 e0
  refine calls_W Try.func64 rfl rfl hR0 (Q := fun e s => (e = .ret ∨ e = .normal) ∧ s = pident_R r) ?_ ?_
  · clear hR0
    unfold pident at h
    have hT := tabO_pr
    refine W_seq ?_
    refine W_reg hT ftL_nil [] [] [0] [0] (s' := ⟨[(0, .c (.wh 0))], [], [⟨(.ro false), 89, 1, l0.length, .w l0⟩]⟩) (by kernel_rfl) allP_nil ?_
    refine W_seq ?_
    refine W_seq ?_
    rcases Bool.eq_false_or_eq_true (decide (((l0.length : Nat) : Int) < (2 : Int))) with g1 | g1
    · replace h := bif_t h g1
      refine W_reg hT ftL_nil [(3, true)] [] [0, 16] [0] (s' := ⟨[(0, .c (.wh 0)), (16, .c (.s (.b true)))], [], [⟨(.ro false), 89, 1, l0.length, .w l0⟩]⟩) (by kernel_rfl) (allP_cons.2 ⟨g1, allP_nil⟩) ?_
      refine W_cond (b := true) (by kernel_rfl) (fun _ => ?_) (fun hb => by cases hb)
      refine W_seq ?_
      refine W_reg hT ftL_nil [] [] [2] [] (s' := ⟨[(2, .c (.s (.b false)))], [], []⟩) (by kernel_rfl) allP_nil ?_
      refine W_co [] [2] [] (s' := (pident_R false)) (by kernel_rfl) (W_ret ?_)
      exact ⟨.inl rfl, by cases h; rfl⟩
    · replace h := bif_f h g1
      rcases Bool.eq_false_or_eq_true (decide ((16 : Int) < ((l0.length : Nat) : Int))) with g2 | g2
      · replace h := bif_t h g2
        refine W_reg hT ftL_nil [(3, false), (8, true)] [] [0, 16] [0] (s' := ⟨[(0, .c (.wh 0)), (16, .c (.s (.b true)))], [], [⟨(.ro false), 89, 1, l0.length, .w l0⟩]⟩) (by kernel_rfl) (allP_cons.2 ⟨g1, (allP_cons.2 ⟨g2, allP_nil⟩)⟩) ?_
        refine W_cond (b := true) (by kernel_rfl) (fun _ => ?_) (fun hb => by cases hb)
        refine W_seq ?_
        refine W_reg hT ftL_nil [] [] [2] [] (s' := ⟨[(2, .c (.s (.b false)))], [], []⟩) (by kernel_rfl) allP_nil ?_
        refine W_co [] [2] [] (s' := (pident_R false)) (by kernel_rfl) (W_ret ?_)
        exact ⟨.inl rfl, by cases h; rfl⟩
      · replace h := bif_f h g2
        obtain ⟨g3, h⟩ := gd_some h
        obtain ⟨g4, h⟩ := gd_some h
        refine W_reg hT ftL_nil [(3, false), (8, false)] [] [0, 16] [0] (s' := ⟨[(0, .c (.wh 0)), (16, .c (.s (.b (decide ((2 : UInt32) < (l0.getD 0 0))))))], [], [⟨(.ro false), 89, 1, l0.length, .w l0⟩]⟩) (by kernel_rfl) (allP_cons.2 ⟨g1, (allP_cons.2 ⟨g2, (allP_cons.2 ⟨g3, (allP_cons.2 ⟨g4, allP_nil⟩)⟩)⟩)⟩) ?_
        refine W_cond (b := (decide ((2 : UInt32) < (l0.getD 0 0)))) (by kernel_rfl) (fun g12 => ?_) (fun g12 => ?_)
        · replace h := bif_t h g12
          refine W_seq ?_
          refine W_reg hT ftL_nil [] [] [2] [] (s' := ⟨[(2, .c (.s (.b false)))], [], []⟩) (by kernel_rfl) allP_nil ?_
          refine W_co [] [2] [] (s' := (pident_R false)) (by kernel_rfl) (W_ret ?_)
          exact ⟨.inl rfl, by cases h; rfl⟩
        · replace h := bif_f h g12
          refine W_co [] [0] [0] (s' := ⟨[(0, .c (.wh 0))], [], [⟨(.ro false), 89, 1, l0.length, .w l0⟩]⟩) (by kernel_rfl) (W_skip ?_)
          refine W_seq ?_
          refine W_seq ?_
          obtain ⟨g5, h⟩ := gd_some h
          obtain ⟨g6, h⟩ := gd_some h
          refine W_reg hT ftL_nil [] [] [0, 20] [0] (s' := ⟨[(0, .c (.wh 0)), (20, .c (.s (.b (decide ((l0.getD 0 0) < (2 : UInt32))))))], [], [⟨(.ro false), 89, 1, l0.length, .w l0⟩]⟩) (by kernel_rfl) (allP_cons.2 ⟨g5, (allP_cons.2 ⟨g6, allP_nil⟩)⟩) ?_
          refine W_cond (b := (decide ((l0.getD 0 0) < (2 : UInt32)))) (by kernel_rfl) (fun g11 => ?_) (fun g11 => ?_)
          · replace h := bif_t h g11
            refine W_seq ?_
            obtain ⟨g7, h⟩ := gd_some h
            obtain ⟨g8, h⟩ := gd_some h
            refine W_reg hT ftL_nil [] [] [2] [] (s' := ⟨[(2, .c (.s (.b (decide ((l0.getD 1 0) < (40 : UInt32))))))], [], []⟩) (by kernel_rfl) (allP_cons.2 ⟨g7, (allP_cons.2 ⟨g8, allP_nil⟩)⟩) ?_
            refine W_co [] [2] [] (s' := (pident_R (decide ((l0.getD 1 0) < (40 : UInt32))))) (by kernel_rfl) (W_ret ?_)
            exact ⟨.inl rfl, by cases h; rfl⟩
          · replace h := bif_f h g11
            refine W_co [] [0] [0] (s' := ⟨[(0, .c (.wh 0))], [], [⟨(.ro false), 89, 1, l0.length, .w l0⟩]⟩) (by kernel_rfl) (W_skip ?_)
            refine W_seq ?_
            obtain ⟨g9, h⟩ := gd_some h
            obtain ⟨g10, h⟩ := gd_some h
            refine W_reg hT ftL_nil [] [] [2] [] (s' := ⟨[(2, .c (.s (.b (decide ((((l0.getD 1 0).toUInt64) + (80 : UInt64)) < (4294967296 : UInt64))))))], [], []⟩) (by kernel_rfl) (allP_cons.2 ⟨g9, (allP_cons.2 ⟨g10, allP_nil⟩)⟩) ?_
            refine W_co [] [2] [] (s' := (pident_R (decide ((((l0.getD 1 0).toUInt64) + (80 : UInt64)) < (4294967296 : UInt64))))) (by kernel_rfl) (W_ret ?_)
            exact ⟨.inl rfl, by cases h; rfl⟩
  · rintro e s' ⟨he, rfl⟩
    refine ⟨he, fun a' w' hr => ?_⟩
    exact retS_ok tabO_pr hr (rs := [.tmp 2]) rfl (objs := []) (by kernel_rfl)
def pOid_l1_E (a0 : List UInt32) (l4_1 : List UInt8) (i23_1 : Int) : S := ⟨[(4, .c (.wh 0)), (21, .c (.wh 1)), (22, .c (.s (.k .i64 (((a0.length - 2) : Nat) : Int)))), (23, .c (.s (.k .i64 i23_1)))], [], [⟨.row, 5, 1, l4_1.length, .b l4_1⟩, ⟨(.ro false), 89, 1, (a0.length - 2), .w ((a0.drop 2).take (a0.length - 2))⟩]⟩
def pOid_l1_P (n : Nat) (a0 : List UInt32) (r : List UInt8 × Option Int) (fu : Nat) : S → Prop := fun s => ∃ (l4_1 : List UInt8), ∃ (i23_1 : Int), s = pOid_l1_E a0 l4_1 i23_1 ∧ pOid_l1 n a0 fu l4_1 i23_1 = some r
theorem pOid_l1_M {n : Nat} {a0 : List UInt32} {l4_1 : List UInt8} {i23_1 : Int} {r : List UInt8 × Option Int} {fu : Nat} (h : pOid_l1 n a0 fu l4_1 i23_1 = some r) : pOid_l1_P n a0 r fu (pOid_l1_E a0 l4_1 i23_1) := ⟨l4_1, i23_1, rfl, h⟩
def pOid_R (r : List UInt8 × Option Int) : S := ⟨[(2, .c (.wh 0)), (3, .c (.s (.er 31 .i64 r.2)))], [], [⟨.row, 5, 1, r.1.length, .b r.1⟩]⟩
def pOid_ct (n : Nat) (r : List UInt8 × Option Int) : Ct := fun args H => match args with
  | [x0] => (match aW H x0 with | some l0 => some ([pOid n l0 = some r], shA H.length (.t [.c (.wh 0), .c (.s (.er 31 .i64 r.2))]), shH H.length [⟨.row, 5, 1, r.1.length, .b r.1⟩]) | none => none)
  | _ => none
theorem pOid_ok (n : Nat) (r : List UInt8 × Option Int) : FnOk Try.prog Tr 32 (pOid_ct n r) := by
  refine ⟨fun args H g av objs hF hg ρ w vals hG hp ha => ?_, _, Try.func32, by kernel_rfl, by kernel_rfl⟩
  obtain ⟨x0, rfl⟩ : ∃ x0, args = [x0] := by
    unfold pOid_ct at hF; split at hF
    · exact ⟨_, rfl⟩
    · cases hF
  cases e0 : aW H x0 with
  | none => simp only [pOid_ct, e0, reduceCtorEq] at hF
  | some l0 =>
  simp only [pOid_ct, e0, Option.some.injEq, Prod.mk.injEq] at hF
  obtain ⟨rfl, rfl, rfl⟩ := hF
  obtain ⟨v0, vals, rfl, k0, ha⟩ := F2.inv ha
  obtain rfl := F2.inv0 ha
  have hI : ∀ w', Kp (noB (fun _ => undef)) w w' → Tr w' := fun _ hk => Tr.keep hk.below hG
  have h : pOid n l0 = some r := hg
  obtain ⟨p0, s0, o0⟩ := aW_ok hp e0 (k0) 89
  have hR0 := rel0 (gv := (fun _ => undef)) (n := 33) (w := w) (args := [.c (.wh 0)]) (H := [⟨.ro false, 89, 1, l0.length, .w l0⟩]) (gl := []) (hpL (ps := [p0]) (F2.cons o0 F2.nil)) (allRo_ok rfl) (F2.cons s0 F2.nil) GlR.nil (by simp)
  clear ha hp hg k0 e0
  refine calls_W Try.func32 rfl rfl hR0 (Q := fun e s => (e = .ret ∨ e = .normal) ∧ s = pOid_R r) ?_ ?_
  · clear hR0
    unfold pOid at h
    have hT := tabO_pr
    refine W_seq ?_
    refine W_reg hT ftL_nil [] [] [0] [0] (s' := ⟨[(0, .c (.wh 0))], [], [⟨(.ro false), 89, 1, l0.length, .w l0⟩]⟩) (by kernel_rfl) allP_nil ?_
    refine W_seq ?_
    refine W_seq ?_
    obtain ⟨r8, g1, h⟩ := bind_some' h
    refine W_reg hT (ftL_cons (k := 1) (f := 64) (F := (pident_ct n r8)) (pident_ok n r8) (fun _ _ => True.intro) ftL_nil) [] [] [0, 9] [0] (s' := ⟨[(0, .c (.wh 0)), (9, .c (.s (.b (!r8))))], [], [⟨(.ro false), 89, 1, l0.length, .w l0⟩]⟩) (by kernel_rfl) (allP_cons.2 ⟨g1, allP_nil⟩) ?_
    refine W_cond (b := (!r8)) (by kernel_rfl) (fun g13 => ?_) (fun g13 => ?_)
    · replace h := bif_t h g13
      refine W_seq ?_
      refine W_reg hT ftL_nil [] [] [2, 3] [] (s' := ⟨[(2, .c (.nils)), (3, .c (.s (.er 31 .i64 (some 1))))], [], []⟩) (by kernel_rfl) allP_nil ?_
      refine W_co [.nil 2 5 1 (.b [])] [2, 3] [0] (s' := (pOid_R ([], (some 1)))) (by kernel_rfl) (W_ret ?_)
      exact ⟨.inl rfl, by cases h; rfl⟩
    · replace h := bif_f h g13
      refine W_co [] [0] [0] (s' := ⟨[(0, .c (.wh 0))], [], [⟨(.ro false), 89, 1, l0.length, .w l0⟩]⟩) (by kernel_rfl) (W_skip ?_)
      refine W_seq ?_
      obtain ⟨g2, h⟩ := gd_some h
      obtain ⟨g3, h⟩ := gd_some h
      obtain ⟨g4, h⟩ := gd_some h
      obtain ⟨g5, h⟩ := gd_some h
      refine W_regD hT (ftL_cons (k := 8) (f := 65) (F := group_ct) group_h (fun _ _ => True.intro) ftL_nil) (by kernel_rfl) 7 [] [(0, false), (14, false), (17, false)] [] [0, 4] [0, 1] (s' := ⟨[(0, .c (.wh 0)), (4, .c (.wh 1))], [], [⟨(.ro false), 89, 1, l0.length, .w l0⟩, ⟨.row, 5, 1, (grp (((40 : UInt32) * (l0.getD 0 0)) + (l0.getD 1 0))).length, .b (grp (((40 : UInt32) * (l0.getD 0 0)) + (l0.getD 1 0)))⟩]⟩) (by kernel_rfl) (by kernel_rfl) (allP_cons.2 ⟨g2, (allP_cons.2 ⟨g3, (allP_cons.2 ⟨g4, (allP_cons.2 ⟨g5, allP_nil⟩)⟩)⟩)⟩) ?_
      refine W_seq ?_
      refine W_seq ?_
      obtain ⟨g6, h⟩ := gd_some h
      obtain ⟨g7, h⟩ := gd_some h
      refine W_reg hT ftL_nil [] [] [4, 21, 22, 23] [1, 0] (s' := ⟨[(4, .c (.wh 0)), (21, .c (.sl 1 2 (l0.length - 2))), (22, .c (.s (.k .i64 (((l0.length - 2) : Nat) : Int)))), (23, .c (.s (.k .i64 0)))], [], [⟨.row, 5, 1, (grp (((40 : UInt32) * (l0.getD 0 0)) + (l0.getD 1 0))).length, .b (grp (((40 : UInt32) * (l0.getD 0 0)) + (l0.getD 1 0)))⟩, ⟨(.ro false), 89, 1, l0.length, .w l0⟩]⟩) (by kernel_rfl) (allP_cons.2 ⟨g6, (allP_cons.2 ⟨g7, allP_nil⟩)⟩) ?_
      refine W_block ?_
      refine W_co [.vw 21 false] [4, 21, 22, 23] [0, 2] (s' := (pOid_l1_E l0 (grp (((40 : UInt32) * (l0.getD 0 0)) + (l0.getD 1 0))) 0)) (by kernel_rfl) (W_lp ((pOid_l1_P n l0 r)) n (pOid_l1_M h) ?_)
      rintro fu_l1 _ ⟨l4_1, i23_1, rfl, h⟩
      cases fu_l1 with
      | zero => cases h
      | succ fu_l1 =>
        refine ⟨fu_l1, rfl, ?_⟩
        rw [pOid_l1] at h
        refine W_seq ?_
        refine W_reg hT ftL_nil [] [] [4, 21, 22, 23, 24] [0, 1] (s' := ⟨[(4, .c (.wh 0)), (21, .c (.wh 1)), (22, .c (.s (.k .i64 (((l0.length - 2) : Nat) : Int)))), (23, .c (.s (.k .i64 i23_1))), (24, .c (.s (.b (decide (i23_1 < (((l0.length - 2) : Nat) : Int))))))], [], [⟨.row, 5, 1, l4_1.length, .b l4_1⟩, ⟨(.ro false), 89, 1, (l0.length - 2), .w ((l0.drop 2).take (l0.length - 2))⟩]⟩) (by kernel_rfl) allP_nil ?_
        refine W_seq ?_
        refine W_cond (b := (decide (i23_1 < (((l0.length - 2) : Nat) : Int)))) (by kernel_rfl) (fun g12 => ?_) (fun g12 => ?_)
        · replace h := bif_t h g12
          refine W_co [] [4, 21, 22, 23] [0, 1] (s' := ⟨[(4, .c (.wh 0)), (21, .c (.wh 1)), (22, .c (.s (.k .i64 (((l0.length - 2) : Nat) : Int)))), (23, .c (.s (.k .i64 i23_1)))], [], [⟨.row, 5, 1, l4_1.length, .b l4_1⟩, ⟨(.ro false), 89, 1, (l0.length - 2), .w ((l0.drop 2).take (l0.length - 2))⟩]⟩) (by kernel_rfl) (W_skip ?_)
          refine W_seq ?_
          refine W_block ?_
          refine W_seq ?_
          obtain ⟨g8, h⟩ := gd_some h
          obtain ⟨g9, h⟩ := gd_some h
          refine W_reg hT ftL_nil [] [] [4, 6, 21, 22, 23] [0, 1] (s' := ⟨[(4, .c (.wh 0)), (6, .c (.s (.u32 (((l0.drop 2).take (l0.length - 2)).getD i23_1.toNat 0)))), (21, .c (.wh 1)), (22, .c (.s (.k .i64 (((l0.length - 2) : Nat) : Int)))), (23, .c (.s (.k .i64 i23_1)))], [], [⟨.row, 5, 1, l4_1.length, .b l4_1⟩, ⟨(.ro false), 89, 1, (l0.length - 2), .w ((l0.drop 2).take (l0.length - 2))⟩]⟩) (by kernel_rfl) (allP_cons.2 ⟨g8, (allP_cons.2 ⟨g9, allP_nil⟩)⟩) ?_
          obtain ⟨g10, h⟩ := gd_some h
          refine W_reg hT (ftL_cons (k := 2) (f := 65) (F := group_ct) group_h (fun _ _ => True.intro) ftL_nil) [] [] [4, 21, 22, 23] [3, 1] (s' := ⟨[(4, .c (.wh 0)), (21, .c (.wh 1)), (22, .c (.s (.k .i64 (((l0.length - 2) : Nat) : Int)))), (23, .c (.s (.k .i64 i23_1)))], [], [⟨.row, 5, 1, (l4_1 ++ (grp (((l0.drop 2).take (l0.length - 2)).getD i23_1.toNat 0))).length, .b (l4_1 ++ (grp (((l0.drop 2).take (l0.length - 2)).getD i23_1.toNat 0)))⟩, ⟨(.ro false), 89, 1, (l0.length - 2), .w ((l0.drop 2).take (l0.length - 2))⟩]⟩) (by kernel_rfl) (allP_cons.2 ⟨g10, allP_nil⟩) ?_
          obtain ⟨g11, h⟩ := gd_some h
          refine W_reg hT ftL_nil [] [] [4, 21, 22, 23] [0, 1] (s' := (pOid_l1_E l0 (l4_1 ++ (grp (((l0.drop 2).take (l0.length - 2)).getD i23_1.toNat 0))) (i23_1 + 1))) (by kernel_rfl) (allP_cons.2 ⟨g11, allP_nil⟩) ?_
          exact pOid_l1_M h
        · replace h := bif_f h g12
          refine W_co [] [4] [0] (s' := ⟨[(4, .c (.wh 0))], [], [⟨.row, 5, 1, l4_1.length, .b l4_1⟩]⟩) (by kernel_rfl) (W_exit ?_)
          refine W_seq ?_
          refine W_reg hT ftL_nil [] [] [2, 3] [0] (s' := ⟨[(2, .c (.wh 0)), (3, .c (.s (.v .nilIface)))], [], [⟨.row, 5, 1, l4_1.length, .b l4_1⟩]⟩) (by kernel_rfl) allP_nil ?_
          refine W_co [.er 3 31 .i64] [2, 3] [0] (s' := (pOid_R (l4_1, none))) (by kernel_rfl) (W_ret ?_)
          exact ⟨.inl rfl, by cases h; rfl⟩
  · rintro e s' ⟨he, rfl⟩
    refine ⟨he, fun a' w' hr => ?_⟩
    exact retS_ok tabO_pr hr (rs := [.tmp 2, .tmp 3]) rfl (objs := [0]) (by kernel_rfl)
def pleap_R (r : Bool) : S := ⟨[(2, .c (.s (.b r)))], [], []⟩
def pleap_ct (n : Nat) (r : Bool) : Ct := fun args H => match args with
  | [x0] => (match aI x0 with | some l0 => some ([pleap n l0 = some r], shA H.length (.c (.s (.b r))), shH H.length []) | none => none)
  | _ => none
theorem pleap_ok (n : Nat) (r : Bool) : FnOk Try.prog Tr 76 (pleap_ct n r) := by
  refine ⟨fun args H g av objs hF hg ρ w vals hG hp ha => ?_, _, Try.func76, by kernel_rfl, by kernel_rfl⟩
  obtain ⟨x0, rfl⟩ : ∃ x0, args = [x0] := by
    unfold pleap_ct at hF; split at hF
    · exact ⟨_, rfl⟩
    · cases hF
  cases e0 : aI x0 with
  | none => simp only [pleap_ct, e0, reduceCtorEq] at hF
  | some l0 =>
  simp only [pleap_ct, e0, Option.some.injEq, Prod.mk.injEq] at hF
  obtain ⟨rfl, rfl, rfl⟩ := hF
  obtain ⟨v0, vals, rfl, k0, ha⟩ := F2.inv ha
  obtain rfl := F2.inv0 ha
  have hI : ∀ w', Kp (noB (fun _ => undef)) w w' → Tr w' := fun _ hk => Tr.keep hk.below hG
  have h : pleap n l0 = some r := hg
  have s0 := aI_ok e0 (k0)
  have hR0 := rel0 (gv := (fun _ => undef)) (n := 16) (w := w) (args := [.c (.s (.k .i64 l0))]) (H := []) (gl := []) (hpL (ps := []) F2.nil) (allRo_ok rfl) (F2.cons s0 F2.nil) GlR.nil (by simp)
  clear ha hp hg k0 e0
  refine calls_W Try.func76 rfl rfl hR0 (Q := fun e s => (e = .ret ∨ e = .normal) ∧ s = pleap_R r) ?_ ?_
  · clear hR0
    unfold pleap at h
    have hT := tabO_pr
    refine W_seq ?_
    refine W_reg hT ftL_nil [] [] [0] [] (s' := ⟨[(0, .c (.s (.k .i64 l0)))], [], []⟩) (by kernel_rfl) allP_nil ?_
    refine W_seq ?_
    obtain ⟨g1, h⟩ := gd_some h
    rcases Bool.eq_false_or_eq_true ((Int.tmod l0 4) == 0) with g2 | g2
    · replace h := bif_t h g2
      obtain ⟨g3, h⟩ := gd_some h
      rcases Bool.eq_false_or_eq_true ((Int.tmod l0 100) != 0) with g4 | g4
      · replace h := bif_t h g4
        refine W_reg hT ftL_nil [(3, true), (7, true)] [] [2] [] (s' := ⟨[(2, .c (.s (.b true)))], [], []⟩) (by kernel_rfl) (allP_cons.2 ⟨g1, (allP_cons.2 ⟨g2, (allP_cons.2 ⟨g3, (allP_cons.2 ⟨g4, allP_nil⟩)⟩)⟩)⟩) ?_
        refine W_co [] [2] [] (s' := (pleap_R true)) (by kernel_rfl) (W_ret ?_)
        exact ⟨.inl rfl, by cases h; rfl⟩
      · replace h := bif_f h g4
        obtain ⟨g5, h⟩ := gd_some h
        refine W_reg hT ftL_nil [(3, true), (7, false)] [] [2] [] (s' := ⟨[(2, .c (.s (.b ((Int.tmod l0 400) == 0))))], [], []⟩) (by kernel_rfl) (allP_cons.2 ⟨g1, (allP_cons.2 ⟨g2, (allP_cons.2 ⟨g3, (allP_cons.2 ⟨g4, (allP_cons.2 ⟨g5, allP_nil⟩)⟩)⟩)⟩)⟩) ?_
        refine W_co [] [2] [] (s' := (pleap_R ((Int.tmod l0 400) == 0))) (by kernel_rfl) (W_ret ?_)
        exact ⟨.inl rfl, by cases h; rfl⟩
    · replace h := bif_f h g2
      refine W_reg hT ftL_nil [(3, false)] [] [2] [] (s' := ⟨[(2, .c (.s (.b false)))], [], []⟩) (by kernel_rfl) (allP_cons.2 ⟨g1, (allP_cons.2 ⟨g2, allP_nil⟩)⟩) ?_
      refine W_co [] [2] [] (s' := (pleap_R false)) (by kernel_rfl) (W_ret ?_)
      exact ⟨.inl rfl, by cases h; rfl⟩
  · rintro e s' ⟨he, rfl⟩
    refine ⟨he, fun a' w' hr => ?_⟩
    exact retS_ok tabO_pr hr (rs := [.tmp 2]) rfl (objs := []) (by kernel_rfl)
def pdays_j1_E (a0 : Int) (a1 : Int) (p6_1 : Bool) : S := ⟨[(0, .c (.s (.k .i64 a0))), (5, .c (.s (.k .i64 a1))), (6, .c (.s (.b p6_1)))], [], []⟩
def pdays_j1_P (n : Nat) (a0 : Int) (a1 : Int) (r : Int) : S → Prop := fun s => ∃ (p6_1 : Bool), s = pdays_j1_E a0 a1 p6_1 ∧ pdays_j1 n a0 a1 p6_1 = some r
theorem pdays_j1_M {n : Nat} {a0 : Int} {a1 : Int} {p6_1 : Bool} {r : Int} (h : pdays_j1 n a0 a1 p6_1 = some r) : pdays_j1_P n a0 a1 r (pdays_j1_E a0 a1 p6_1) := ⟨p6_1, rfl, h⟩
def pdays_R (r : Int) : S := ⟨[(4, .c (.s (.k .i64 r)))], [], []⟩
def pdays_ct (n : Nat) (r : Int) : Ct := fun args H => match args with
  | [x0, x1] => (match aI x0 with | some l0 => (match aI x1 with | some l1 => some ([pdays n l0 l1 = some r], shA H.length (.c (.s (.k .i64 r))), shH H.length []) | none => none) | none => none)
  | _ => none
theorem pdays_ok (n : Nat) (r : Int) : FnOk Try.prog Tr 52 (pdays_ct n r) := by
  refine ⟨fun args H g av objs hF hg ρ w vals hG hp ha => ?_, _, Try.func52, by kernel_rfl, by kernel_rfl⟩
  obtain ⟨x0, x1, rfl⟩ : ∃ x0 x1, args = [x0, x1] := by
    unfold pdays_ct at hF; split at hF
    · exact ⟨_, _, rfl⟩
    · cases hF
  cases e0 : aI x0 with
  | none => simp only [pdays_ct, e0, reduceCtorEq] at hF
  | some l0 =>
  cases e1 : aI x1 with
  | none => simp only [pdays_ct, e0, e1, reduceCtorEq] at hF
  | some l1 =>
  simp only [pdays_ct, e0, e1, Option.some.injEq, Prod.mk.injEq] at hF
  obtain ⟨rfl, rfl, rfl⟩ := hF
  obtain ⟨v0, vals, rfl, k0, ha⟩ := F2.inv ha
  obtain ⟨v1, vals, rfl, k1, ha⟩ := F2.inv ha
  obtain rfl := F2.inv0 ha
  have hI : ∀ w', Kp (noB (fun _ => undef)) w w' → Tr w' := fun _ hk => Tr.keep hk.below hG
  have h : pdays n l0 l1 = some r := hg
  have s0 := aI_ok e0 (k0)
  have s1 := aI_ok e1 (k1)
  have hR0 := rel0 (gv := (fun _ => undef)) (n := 15) (w := w) (args := [.c (.s (.k .i64 l0)), .c (.s (.k .i64 l1))]) (H := []) (gl := []) (hpL (ps := []) F2.nil) (allRo_ok rfl) (F2.cons s0 (F2.cons s1 F2.nil)) GlR.nil (by simp)
  clear ha hp hg k0 k1 e0 e1
  refine calls_W Try.func52 rfl rfl hR0 (Q := fun e s => (e = .ret ∨ e = .normal) ∧ s = pdays_R r) ?_ ?_
  · clear hR0
    unfold pdays at h
    have hT := tabO_pr
    refine W_seq ?_
    refine W_reg hT ftL_nil [] [] [0, 1] [] (s' := ⟨[(0, .c (.s (.k .i64 l0))), (1, .c (.s (.k .i64 l1)))], [], []⟩) (by kernel_rfl) allP_nil ?_
    refine W_seq ?_
    refine W_seq ?_
    refine W_reg hT ftL_nil [] [] [0, 5] [] (s' := ⟨[(0, .c (.s (.k .i64 l0))), (5, .c (.s (.k .i64 l1)))], [], []⟩) (by kernel_rfl) allP_nil ?_
    refine W_block ?_
    refine W_join (pdays_j1_P n l0 l1 r) ?_ ?_
    · rintro _ ⟨p6_1, rfl, h⟩
      unfold pdays_j1 at h
      refine W_cond (b := p6_1) (by kernel_rfl) (fun g4 => ?_) (fun g4 => ?_)
      · replace h := bif_t h g4
        refine W_seq ?_
        refine W_reg hT ftL_nil [] [] [4] [] (s' := ⟨[(4, .c (.s (.k .i64 30)))], [], []⟩) (by kernel_rfl) allP_nil ?_
        refine W_co [] [4] [] (s' := (pdays_R 30)) (by kernel_rfl) (W_ret ?_)
        exact ⟨.inl rfl, by cases h; rfl⟩
      · replace h := bif_f h g4
        refine W_seq ?_
        refine W_reg hT ftL_nil [] [] [0, 11] [] (s' := ⟨[(0, .c (.s (.k .i64 l0))), (11, .c (.s (.b (l1 == 2))))], [], []⟩) (by kernel_rfl) allP_nil ?_
        refine W_cond (b := (l1 == 2)) (by kernel_rfl) (fun g3 => ?_) (fun g3 => ?_)
        · replace h := bif_t h g3
          refine W_seq ?_
          refine W_seq ?_
          obtain ⟨r14, g1, h⟩ := bind_some' h
          refine W_reg hT (ftL_cons (k := 1) (f := 76) (F := (pleap_ct n r14)) (pleap_ok n r14) (fun _ _ => True.intro) ftL_nil) [] [] [14] [] (s' := ⟨[(14, .c (.s (.b r14)))], [], []⟩) (by kernel_rfl) (allP_cons.2 ⟨g1, allP_nil⟩) ?_
          refine W_cond (b := r14) (by kernel_rfl) (fun g2 => ?_) (fun g2 => ?_)
          · replace h := bif_t h g2
            refine W_seq ?_
            refine W_reg hT ftL_nil [] [] [4] [] (s' := ⟨[(4, .c (.s (.k .i64 29)))], [], []⟩) (by kernel_rfl) allP_nil ?_
            refine W_co [] [4] [] (s' := (pdays_R 29)) (by kernel_rfl) (W_ret ?_)
            exact ⟨.inl rfl, by cases h; rfl⟩
          · replace h := bif_f h g2
            refine W_co [] [] [] (s' := ⟨[], [], []⟩) (by kernel_rfl) (W_skip ?_)
            refine W_seq ?_
            refine W_reg hT ftL_nil [] [] [4] [] (s' := ⟨[(4, .c (.s (.k .i64 28)))], [], []⟩) (by kernel_rfl) allP_nil ?_
            refine W_co [] [4] [] (s' := (pdays_R 28)) (by kernel_rfl) (W_ret ?_)
            exact ⟨.inl rfl, by cases h; rfl⟩
        · replace h := bif_f h g3
          refine W_co [] [] [] (s' := ⟨[], [], []⟩) (by kernel_rfl) (W_skip ?_)
          refine W_seq ?_
          refine W_reg hT ftL_nil [] [] [4] [] (s' := ⟨[(4, .c (.s (.k .i64 31)))], [], []⟩) (by kernel_rfl) allP_nil ?_
          refine W_co [] [4] [] (s' := (pdays_R 31)) (by kernel_rfl) (W_ret ?_)
          exact ⟨.inl rfl, by cases h; rfl⟩
    · refine W_seq ?_
      refine W_reg hT ftL_nil [] [] [0, 5, 6] [] (s' := ⟨[(0, .c (.s (.k .i64 l0))), (5, .c (.s (.k .i64 l1))), (6, .c (.s (.b (l1 == 4))))], [], []⟩) (by kernel_rfl) allP_nil ?_
      refine W_cond (b := (l1 == 4)) (by kernel_rfl) (fun g7 => ?_) (fun g7 => ?_)
      · replace h := bif_t h g7
        refine W_co [] [0, 5, 6] [] (s' := (pdays_j1_E l0 l1 (l1 == 4))) (by kernel_rfl) (W_skip ?_)
        exact pdays_j1_M h
      · replace h := bif_f h g7
        refine W_seq ?_
        refine W_reg hT ftL_nil [] [] [0, 5, 6] [] (s' := ⟨[(0, .c (.s (.k .i64 l0))), (5, .c (.s (.k .i64 l1))), (6, .c (.s (.b (l1 == 6))))], [], []⟩) (by kernel_rfl) allP_nil ?_
        refine W_cond (b := (l1 == 6)) (by kernel_rfl) (fun g6 => ?_) (fun g6 => ?_)
        · replace h := bif_t h g6
          refine W_co [] [0, 5, 6] [] (s' := (pdays_j1_E l0 l1 (l1 == 6))) (by kernel_rfl) (W_skip ?_)
          exact pdays_j1_M h
        · replace h := bif_f h g6
          refine W_seq ?_
          refine W_reg hT ftL_nil [] [] [0, 5, 6] [] (s' := ⟨[(0, .c (.s (.k .i64 l0))), (5, .c (.s (.k .i64 l1))), (6, .c (.s (.b (l1 == 9))))], [], []⟩) (by kernel_rfl) allP_nil ?_
          refine W_cond (b := (l1 == 9)) (by kernel_rfl) (fun g5 => ?_) (fun g5 => ?_)
          · replace h := bif_t h g5
            refine W_co [] [0, 5, 6] [] (s' := (pdays_j1_E l0 l1 (l1 == 9))) (by kernel_rfl) (W_skip ?_)
            exact pdays_j1_M h
          · replace h := bif_f h g5
            refine W_reg hT ftL_nil [] [] [0, 5, 6] [] (s' := (pdays_j1_E l0 l1 (l1 == 11))) (by kernel_rfl) allP_nil ?_
            exact pdays_j1_M h
  · rintro e s' ⟨he, rfl⟩
    refine ⟨he, fun a' w' hr => ?_⟩
    exact retS_ok tabO_pr hr (rs := [.tmp 4]) rfl (objs := []) (by kernel_rfl)
def pvalid_R (r : Bool) : S := ⟨[(2, .c (.s (.b r)))], [], []⟩
def pvalid_ct (n : Nat) (r : Bool) : Ct := fun args H => match args with
  | [x0] => (match aGc 6 x0 with | some y0 => (match aI (.c (y0.getD 0 .junk)) with | some l0_0 => (match aI (.c (y0.getD 1 .junk)) with | some l0_1 => (match aI (.c (y0.getD 2 .junk)) with | some l0_2 => (match aI (.c (y0.getD 3 .junk)) with | some l0_3 => (match aI (.c (y0.getD 4 .junk)) with | some l0_4 => (match aI (.c (y0.getD 5 .junk)) with | some l0_5 => some ([pvalid n l0_0 l0_1 l0_2 l0_3 l0_4 l0_5 = some r], shA H.length (.c (.s (.b r))), shH H.length []) | none => none) | none => none) | none => none) | none => none) | none => none) | none => none) | none => none)
  | _ => none
theorem pvalid_ok (n : Nat) (r : Bool) : FnOk Try.prog Tr 50 (pvalid_ct n r) := by
  refine ⟨fun args H g av objs hF hg ρ w vals hG hp ha => ?_, _, Try.func50, by kernel_rfl, by kernel_rfl⟩
  obtain ⟨x0, rfl⟩ : ∃ x0, args = [x0] := by
    unfold pvalid_ct at hF; split at hF
    · exact ⟨_, rfl⟩
    · cases hF
  cases e0 : aGc 6 x0 with
  | none => simp only [pvalid_ct, e0, reduceCtorEq] at hF
  | some y0 =>
  cases e1 : aI (.c (y0.getD 0 .junk)) with
  | none => simp only [pvalid_ct, e0, e1, reduceCtorEq] at hF
  | some l0_0 =>
  cases e2 : aI (.c (y0.getD 1 .junk)) with
  | none => simp only [pvalid_ct, e0, e1, e2, reduceCtorEq] at hF
  | some l0_1 =>
  cases e3 : aI (.c (y0.getD 2 .junk)) with
  | none => simp only [pvalid_ct, e0, e1, e2, e3, reduceCtorEq] at hF
  | some l0_2 =>
  cases e4 : aI (.c (y0.getD 3 .junk)) with
  | none => simp only [pvalid_ct, e0, e1, e2, e3, e4, reduceCtorEq] at hF
  | some l0_3 =>
  cases e5 : aI (.c (y0.getD 4 .junk)) with
  | none => simp only [pvalid_ct, e0, e1, e2, e3, e4, e5, reduceCtorEq] at hF
  | some l0_4 =>
  cases e6 : aI (.c (y0.getD 5 .junk)) with
  | none => simp only [pvalid_ct, e0, e1, e2, e3, e4, e5, e6, reduceCtorEq] at hF
  | some l0_5 =>
  simp only [pvalid_ct, e0, e1, e2, e3, e4, e5, e6, Option.some.injEq, Prod.mk.injEq] at hF
  obtain ⟨rfl, rfl, rfl⟩ := hF
  obtain ⟨v0, vals, rfl, k0, ha⟩ := F2.inv ha
  obtain rfl := F2.inv0 ha
  have hI : ∀ w', Kp (noB (fun _ => undef)) w w' → Tr w' := fun _ hk => Tr.keep hk.below hG
  have h : pvalid n l0_0 l0_1 l0_2 l0_3 l0_4 l0_5 = some r := hg
  obtain ⟨vs0, hn0, rfl, hy0⟩ := aGc_ok e0 k0
  have s0_0 := aI_ok e1 (hy0 0 (by decide))
  have s0_1 := aI_ok e2 (hy0 1 (by decide))
  have s0_2 := aI_ok e3 (hy0 2 (by decide))
  have s0_3 := aI_ok e4 (hy0 3 (by decide))
  have s0_4 := aI_ok e5 (hy0 4 (by decide))
  have s0_5 := aI_ok e6 (hy0 5 (by decide))
  have hR0 := rel0 (gv := (fun _ => undef)) (n := 64) (w := w) (args := [.g 6 (.c [.s (.k .i64 l0_0), .s (.k .i64 l0_1), .s (.k .i64 l0_2), .s (.k .i64 l0_3), .s (.k .i64 l0_4), .s (.k .i64 l0_5)])]) (H := []) (gl := []) (hpL (ps := []) F2.nil) (allRo_ok rfl) (F2.cons ⟨vs0, (by rw [lstE undef hn0]; exact (F2.cons s0_0 (F2.cons s0_1 (F2.cons s0_2 (F2.cons s0_3 (F2.cons s0_4 (F2.cons s0_5 F2.nil))))))), hn0, rfl⟩ F2.nil) GlR.nil (by simp)
  clear ha hp hg k0 e0 e1 e2 e3 e4 e5 e6
  refine calls_W Try.func50 rfl rfl hR0 (Q := fun e s => (e = .ret ∨ e = .normal) ∧ s = pvalid_R r) ?_ ?_
  · clear hR0
    unfold pvalid at h
    have hT := tabO_pr
    refine W_seq ?_
    refine W_reg hT ftL_nil [] [] [1] [0] (s' := ⟨[(1, .c (.pt 0 0))], [], [⟨.blk, 34, 1, 6, .c [.s (.k .i64 l0_0), .s (.k .i64 l0_1), .s (.k .i64 l0_2), .s (.k .i64 l0_3), .s (.k .i64 l0_4), .s (.k .i64 l0_5)]⟩]⟩) (by kernel_rfl) allP_nil ?_
    refine W_seq ?_
    refine W_seq ?_
    rcases Bool.eq_false_or_eq_true (decide (l0_0 < (1 : Int))) with g1 | g1
    · replace h := bif_t h g1
      refine W_regD hT ftL_nil (by kernel_rfl) 31 [(3, true)] [(1, false), (26, false), (28, false), (33, false)] [] [1, 35] [0] (s' := ⟨[(1, .c (.pt 0 0)), (35, .c (.s (.b true)))], [], [⟨.blk, 34, 1, 6, .c [.s (.k .i64 l0_0), .s (.k .i64 l0_1), .s (.k .i64 l0_2), .s (.k .i64 l0_3), .s (.k .i64 l0_4), .s (.k .i64 l0_5)]⟩]⟩) (by kernel_rfl) (by kernel_rfl) (allP_cons.2 ⟨g1, allP_nil⟩) ?_
      refine W_cond (b := true) (by kernel_rfl) (fun _ => ?_) (fun hb => by cases hb)
      refine W_seq ?_
      refine W_reg hT ftL_nil [] [] [2] [] (s' := ⟨[(2, .c (.s (.b false)))], [], []⟩) (by kernel_rfl) allP_nil ?_
      refine W_co [] [2] [] (s' := (pvalid_R false)) (by kernel_rfl) (W_ret ?_)
      exact ⟨.inl rfl, by cases h; rfl⟩
    · replace h := bif_f h g1
      rcases Bool.eq_false_or_eq_true (decide ((9999 : Int) < l0_0)) with g2 | g2
      · replace h := bif_t h g2
        refine W_regD hT ftL_nil (by kernel_rfl) 31 [(3, false), (8, true)] [(1, false), (26, false), (28, false), (33, false)] [] [1, 35] [0] (s' := ⟨[(1, .c (.pt 0 0)), (35, .c (.s (.b true)))], [], [⟨.blk, 34, 1, 6, .c [.s (.k .i64 l0_0), .s (.k .i64 l0_1), .s (.k .i64 l0_2), .s (.k .i64 l0_3), .s (.k .i64 l0_4), .s (.k .i64 l0_5)]⟩]⟩) (by kernel_rfl) (by kernel_rfl) (allP_cons.2 ⟨g1, (allP_cons.2 ⟨g2, allP_nil⟩)⟩) ?_
        refine W_cond (b := true) (by kernel_rfl) (fun _ => ?_) (fun hb => by cases hb)
        refine W_seq ?_
        refine W_reg hT ftL_nil [] [] [2] [] (s' := ⟨[(2, .c (.s (.b false)))], [], []⟩) (by kernel_rfl) allP_nil ?_
        refine W_co [] [2] [] (s' := (pvalid_R false)) (by kernel_rfl) (W_ret ?_)
        exact ⟨.inl rfl, by cases h; rfl⟩
      · replace h := bif_f h g2
        rcases Bool.eq_false_or_eq_true (decide (l0_1 < (1 : Int))) with g3 | g3
        · replace h := bif_t h g3
          refine W_regD hT ftL_nil (by kernel_rfl) 31 [(3, false), (8, false), (13, true)] [(1, false), (26, false), (28, false), (33, false)] [] [1, 35] [0] (s' := ⟨[(1, .c (.pt 0 0)), (35, .c (.s (.b true)))], [], [⟨.blk, 34, 1, 6, .c [.s (.k .i64 l0_0), .s (.k .i64 l0_1), .s (.k .i64 l0_2), .s (.k .i64 l0_3), .s (.k .i64 l0_4), .s (.k .i64 l0_5)]⟩]⟩) (by kernel_rfl) (by kernel_rfl) (allP_cons.2 ⟨g1, (allP_cons.2 ⟨g2, (allP_cons.2 ⟨g3, allP_nil⟩)⟩)⟩) ?_
          refine W_cond (b := true) (by kernel_rfl) (fun _ => ?_) (fun hb => by cases hb)
          refine W_seq ?_
          refine W_reg hT ftL_nil [] [] [2] [] (s' := ⟨[(2, .c (.s (.b false)))], [], []⟩) (by kernel_rfl) allP_nil ?_
          refine W_co [] [2] [] (s' := (pvalid_R false)) (by kernel_rfl) (W_ret ?_)
          exact ⟨.inl rfl, by cases h; rfl⟩
        · replace h := bif_f h g3
          rcases Bool.eq_false_or_eq_true (decide ((12 : Int) < l0_1)) with g4 | g4
          · replace h := bif_t h g4
            refine W_regD hT ftL_nil (by kernel_rfl) 31 [(3, false), (8, false), (13, false), (18, true)] [(1, false), (26, false), (28, false), (33, false)] [] [1, 35] [0] (s' := ⟨[(1, .c (.pt 0 0)), (35, .c (.s (.b true)))], [], [⟨.blk, 34, 1, 6, .c [.s (.k .i64 l0_0), .s (.k .i64 l0_1), .s (.k .i64 l0_2), .s (.k .i64 l0_3), .s (.k .i64 l0_4), .s (.k .i64 l0_5)]⟩]⟩) (by kernel_rfl) (by kernel_rfl) (allP_cons.2 ⟨g1, (allP_cons.2 ⟨g2, (allP_cons.2 ⟨g3, (allP_cons.2 ⟨g4, allP_nil⟩)⟩)⟩)⟩) ?_
            refine W_cond (b := true) (by kernel_rfl) (fun _ => ?_) (fun hb => by cases hb)
            refine W_seq ?_
            refine W_reg hT ftL_nil [] [] [2] [] (s' := ⟨[(2, .c (.s (.b false)))], [], []⟩) (by kernel_rfl) allP_nil ?_
            refine W_co [] [2] [] (s' := (pvalid_R false)) (by kernel_rfl) (W_ret ?_)
            exact ⟨.inl rfl, by cases h; rfl⟩
          · replace h := bif_f h g4
            rcases Bool.eq_false_or_eq_true (decide (l0_2 < (1 : Int))) with g5 | g5
            · replace h := bif_t h g5
              refine W_regD hT ftL_nil (by kernel_rfl) 31 [(3, false), (8, false), (13, false), (18, false), (23, true)] [(1, false), (26, false), (28, false), (33, false)] [] [1, 35] [0] (s' := ⟨[(1, .c (.pt 0 0)), (35, .c (.s (.b true)))], [], [⟨.blk, 34, 1, 6, .c [.s (.k .i64 l0_0), .s (.k .i64 l0_1), .s (.k .i64 l0_2), .s (.k .i64 l0_3), .s (.k .i64 l0_4), .s (.k .i64 l0_5)]⟩]⟩) (by kernel_rfl) (by kernel_rfl) (allP_cons.2 ⟨g1, (allP_cons.2 ⟨g2, (allP_cons.2 ⟨g3, (allP_cons.2 ⟨g4, (allP_cons.2 ⟨g5, allP_nil⟩)⟩)⟩)⟩)⟩) ?_
              refine W_cond (b := true) (by kernel_rfl) (fun _ => ?_) (fun hb => by cases hb)
              refine W_seq ?_
              refine W_reg hT ftL_nil [] [] [2] [] (s' := ⟨[(2, .c (.s (.b false)))], [], []⟩) (by kernel_rfl) allP_nil ?_
              refine W_co [] [2] [] (s' := (pvalid_R false)) (by kernel_rfl) (W_ret ?_)
              exact ⟨.inl rfl, by cases h; rfl⟩
            · replace h := bif_f h g5
              obtain ⟨r33, g6, h⟩ := bind_some' h
              refine W_regD hT (ftL_cons (k := 30) (f := 52) (F := (pdays_ct n r33)) (pdays_ok n r33) (fun _ _ => True.intro) ftL_nil) (by kernel_rfl) 31 [(3, false), (8, false), (13, false), (18, false), (23, false)] [(1, false), (26, false), (28, false), (33, false)] [] [1, 35] [0] (s' := ⟨[(1, .c (.pt 0 0)), (35, .c (.s (.b (decide (r33 < l0_2)))))], [], [⟨.blk, 34, 1, 6, .c [.s (.k .i64 l0_0), .s (.k .i64 l0_1), .s (.k .i64 l0_2), .s (.k .i64 l0_3), .s (.k .i64 l0_4), .s (.k .i64 l0_5)]⟩]⟩) (by kernel_rfl) (by kernel_rfl) (allP_cons.2 ⟨g1, (allP_cons.2 ⟨g2, (allP_cons.2 ⟨g3, (allP_cons.2 ⟨g4, (allP_cons.2 ⟨g5, (allP_cons.2 ⟨g6, allP_nil⟩)⟩)⟩)⟩)⟩)⟩) ?_
              refine W_cond (b := (decide (r33 < l0_2))) (by kernel_rfl) (fun g12 => ?_) (fun g12 => ?_)
              · replace h := bif_t h g12
                refine W_seq ?_
                refine W_reg hT ftL_nil [] [] [2] [] (s' := ⟨[(2, .c (.s (.b false)))], [], []⟩) (by kernel_rfl) allP_nil ?_
                refine W_co [] [2] [] (s' := (pvalid_R false)) (by kernel_rfl) (W_ret ?_)
                exact ⟨.inl rfl, by cases h; rfl⟩
              · replace h := bif_f h g12
                refine W_co [] [1] [0] (s' := ⟨[(1, .c (.pt 0 0))], [], [⟨.blk, 34, 1, 6, .c [.s (.k .i64 l0_0), .s (.k .i64 l0_1), .s (.k .i64 l0_2), .s (.k .i64 l0_3), .s (.k .i64 l0_4), .s (.k .i64 l0_5)]⟩]⟩) (by kernel_rfl) (W_skip ?_)
                refine W_seq ?_
                rcases Bool.eq_false_or_eq_true (decide ((0 : Int) ≤ l0_3)) with g7 | g7
                · replace h := bif_t h g7
                  rcases Bool.eq_false_or_eq_true (decide (l0_3 ≤ (23 : Int))) with g8 | g8
                  · replace h := bif_t h g8
                    rcases Bool.eq_false_or_eq_true (decide ((0 : Int) ≤ l0_4)) with g9 | g9
                    · replace h := bif_t h g9
                      rcases Bool.eq_false_or_eq_true (decide (l0_4 ≤ (59 : Int))) with g10 | g10
                      · replace h := bif_t h g10
                        rcases Bool.eq_false_or_eq_true (decide ((0 : Int) ≤ l0_5)) with g11 | g11
                        · replace h := bif_t h g11
                          refine W_reg hT ftL_nil [(3, true), (8, true), (13, true), (18, true), (23, true)] [] [2] [] (s' := ⟨[(2, .c (.s (.b (decide (l0_5 ≤ (59 : Int))))))], [], []⟩) (by kernel_rfl) (allP_cons.2 ⟨g7, (allP_cons.2 ⟨g8, (allP_cons.2 ⟨g9, (allP_cons.2 ⟨g10, (allP_cons.2 ⟨g11, allP_nil⟩)⟩)⟩)⟩)⟩) ?_
                          refine W_co [] [2] [] (s' := (pvalid_R (decide (l0_5 ≤ (59 : Int))))) (by kernel_rfl) (W_ret ?_)
                          exact ⟨.inl rfl, by cases h; rfl⟩
                        · replace h := bif_f h g11
                          refine W_reg hT ftL_nil [(3, true), (8, true), (13, true), (18, true), (23, false)] [] [2] [] (s' := ⟨[(2, .c (.s (.b false)))], [], []⟩) (by kernel_rfl) (allP_cons.2 ⟨g7, (allP_cons.2 ⟨g8, (allP_cons.2 ⟨g9, (allP_cons.2 ⟨g10, (allP_cons.2 ⟨g11, allP_nil⟩)⟩)⟩)⟩)⟩) ?_
                          refine W_co [] [2] [] (s' := (pvalid_R false)) (by kernel_rfl) (W_ret ?_)
                          exact ⟨.inl rfl, by cases h; rfl⟩
                      · replace h := bif_f h g10
                        refine W_reg hT ftL_nil [(3, true), (8, true), (13, true), (18, false)] [] [2] [] (s' := ⟨[(2, .c (.s (.b false)))], [], []⟩) (by kernel_rfl) (allP_cons.2 ⟨g7, (allP_cons.2 ⟨g8, (allP_cons.2 ⟨g9, (allP_cons.2 ⟨g10, allP_nil⟩)⟩)⟩)⟩) ?_
                        refine W_co [] [2] [] (s' := (pvalid_R false)) (by kernel_rfl) (W_ret ?_)
                        exact ⟨.inl rfl, by cases h; rfl⟩
                    · replace h := bif_f h g9
                      refine W_reg hT ftL_nil [(3, true), (8, true), (13, false)] [] [2] [] (s' := ⟨[(2, .c (.s (.b false)))], [], []⟩) (by kernel_rfl) (allP_cons.2 ⟨g7, (allP_cons.2 ⟨g8, (allP_cons.2 ⟨g9, allP_nil⟩)⟩)⟩) ?_
                      refine W_co [] [2] [] (s' := (pvalid_R false)) (by kernel_rfl) (W_ret ?_)
                      exact ⟨.inl rfl, by cases h; rfl⟩
                  · replace h := bif_f h g8
                    refine W_reg hT ftL_nil [(3, true), (8, false)] [] [2] [] (s' := ⟨[(2, .c (.s (.b false)))], [], []⟩) (by kernel_rfl) (allP_cons.2 ⟨g7, (allP_cons.2 ⟨g8, allP_nil⟩)⟩) ?_
                    refine W_co [] [2] [] (s' := (pvalid_R false)) (by kernel_rfl) (W_ret ?_)
                    exact ⟨.inl rfl, by cases h; rfl⟩
                · replace h := bif_f h g7
                  refine W_reg hT ftL_nil [(3, false)] [] [2] [] (s' := ⟨[(2, .c (.s (.b false)))], [], []⟩) (by kernel_rfl) (allP_cons.2 ⟨g7, allP_nil⟩) ?_
                  refine W_co [] [2] [] (s' := (pvalid_R false)) (by kernel_rfl) (W_ret ?_)
                  exact ⟨.inl rfl, by cases h; rfl⟩
  · rintro e s' ⟨he, rfl⟩
    refine ⟨he, fun a' w' hr => ?_⟩
    exact retS_ok tabO_pr hr (rs := [.tmp 2]) rfl (objs := []) (by kernel_rfl)
def pTime_l1_E (b5_1 : UInt8) (z6_1 : List Int) (m6_1 : Nat) (l7_1 : List UInt8) (i43_1 : Int) : S := ⟨[(5, .c (.s (.u8 b5_1))), (7, .c (.wh 0)), (41, .c (.wh 1)), (42, .c (.s (.k .i64 ((m6_1 : Nat) : Int)))), (43, .c (.s (.k .i64 i43_1)))], [], [⟨.row, 5, 1, l7_1.length, .b l7_1⟩, ⟨(.ro true), 3, 1, m6_1, .z z6_1⟩]⟩
def pTime_l1_P (n : Nat) (b5_1 : UInt8) (z6_1 : List Int) (m6_1 : Nat) (r : UInt8 × List UInt8 × Option Int) (fu : Nat) : S → Prop := fun s => ∃ (l7_1 : List UInt8), ∃ (i43_1 : Int), s = pTime_l1_E b5_1 z6_1 m6_1 l7_1 i43_1 ∧ pTime_l1 n b5_1 z6_1 m6_1 fu l7_1 i43_1 = some r
theorem pTime_l1_M {n : Nat} {b5_1 : UInt8} {z6_1 : List Int} {m6_1 : Nat} {l7_1 : List UInt8} {i43_1 : Int} {r : UInt8 × List UInt8 × Option Int} {fu : Nat} (h : pTime_l1 n b5_1 z6_1 m6_1 fu l7_1 i43_1 = some r) : pTime_l1_P n b5_1 z6_1 m6_1 r fu (pTime_l1_E b5_1 z6_1 m6_1 l7_1 i43_1) := ⟨l7_1, i43_1, rfl, h⟩
def pTime_j1_E (b5_1 : UInt8) (z6_1 : List Int) (m6_1 : Nat) : S := ⟨[(5, .c (.s (.u8 b5_1))), (6, .c (.wh 0))], [], [⟨(.ro true), 3, 1, m6_1, .z z6_1⟩]⟩
def pTime_j1_P (n : Nat) (r : UInt8 × List UInt8 × Option Int) : S → Prop := fun s => ∃ (b5_1 : UInt8), ∃ (z6_1 : List Int), ∃ (m6_1 : Nat), s = pTime_j1_E b5_1 z6_1 m6_1 ∧ pTime_j1 n b5_1 z6_1 m6_1 = some r
theorem pTime_j1_M {n : Nat} {b5_1 : UInt8} {z6_1 : List Int} {m6_1 : Nat} {r : UInt8 × List UInt8 × Option Int} (h : pTime_j1 n b5_1 z6_1 m6_1 = some r) : pTime_j1_P n r (pTime_j1_E b5_1 z6_1 m6_1) := ⟨b5_1, z6_1, m6_1, rfl, h⟩
def pTime_R (r : UInt8 × List UInt8 × Option Int) : S := ⟨[(2, .c (.s (.u8 r.1))), (3, .c (.wh 0)), (4, .c (.s (.er 31 .i64 r.2.2)))], [], [⟨.row, 5, 1, r.2.1.length, .b r.2.1⟩]⟩
def pTime_ct (n : Nat) (r : UInt8 × List UInt8 × Option Int) : Ct := fun args H => match args with
  | [x0] => (match aGc 6 x0 with | some y0 => (match aI (.c (y0.getD 0 .junk)) with | some l0_0 => (match aI (.c (y0.getD 1 .junk)) with | some l0_1 => (match aI (.c (y0.getD 2 .junk)) with | some l0_2 => (match aI (.c (y0.getD 3 .junk)) with | some l0_3 => (match aI (.c (y0.getD 4 .junk)) with | some l0_4 => (match aI (.c (y0.getD 5 .junk)) with | some l0_5 => some ([pTime n l0_0 l0_1 l0_2 l0_3 l0_4 l0_5 = some r], shA H.length (.t [.c (.s (.u8 r.1)), .c (.wh 0), .c (.s (.er 31 .i64 r.2.2))]), shH H.length [⟨.row, 5, 1, r.2.1.length, .b r.2.1⟩]) | none => none) | none => none) | none => none) | none => none) | none => none) | none => none) | none => none)
  | _ => none
theorem pTime_ok (n : Nat) (r : UInt8 × List UInt8 × Option Int) : FnOk Try.prog Tr 20 (pTime_ct n r) := by
  refine ⟨fun args H g av objs hF hg ρ w vals hG hp ha => ?_, _, Try.func20, by kernel_rfl, by kernel_rfl⟩
  obtain ⟨x0, rfl⟩ : ∃ x0, args = [x0] := by
    unfold pTime_ct at hF; split at hF
    · exact ⟨_, rfl⟩
    · cases hF
  cases e0 : aGc 6 x0 with
  | none => simp only [pTime_ct, e0, reduceCtorEq] at hF
  | some y0 =>
  cases e1 : aI (.c (y0.getD 0 .junk)) with
  | none => simp only [pTime_ct, e0, e1, reduceCtorEq] at hF
  | some l0_0 =>
  cases e2 : aI (.c (y0.getD 1 .junk)) with
  | none => simp only [pTime_ct, e0, e1, e2, reduceCtorEq] at hF
  | some l0_1 =>
  cases e3 : aI (.c (y0.getD 2 .junk)) with
  | none => simp only [pTime_ct, e0, e1, e2, e3, reduceCtorEq] at hF
  | some l0_2 =>
  cases e4 : aI (.c (y0.getD 3 .junk)) with
  | none => simp only [pTime_ct, e0, e1, e2, e3, e4, reduceCtorEq] at hF
  | some l0_3 =>
  cases e5 : aI (.c (y0.getD 4 .junk)) with
  | none => simp only [pTime_ct, e0, e1, e2, e3, e4, e5, reduceCtorEq] at hF
  | some l0_4 =>
  cases e6 : aI (.c (y0.getD 5 .junk)) with
  | none => simp only [pTime_ct, e0, e1, e2, e3, e4, e5, e6, reduceCtorEq] at hF
  | some l0_5 =>
  simp only [pTime_ct, e0, e1, e2, e3, e4, e5, e6, Option.some.injEq, Prod.mk.injEq] at hF
  obtain ⟨rfl, rfl, rfl⟩ := hF
  obtain ⟨v0, vals, rfl, k0, ha⟩ := F2.inv ha
  obtain rfl := F2.inv0 ha
  have hI : ∀ w', Kp (noB (fun _ => undef)) w w' → Tr w' := fun _ hk => Tr.keep hk.below hG
  have h : pTime n l0_0 l0_1 l0_2 l0_3 l0_4 l0_5 = some r := hg
  obtain ⟨vs0, hn0, rfl, hy0⟩ := aGc_ok e0 k0
  have s0_0 := aI_ok e1 (hy0 0 (by decide))
  have s0_1 := aI_ok e2 (hy0 1 (by decide))
  have s0_2 := aI_ok e3 (hy0 2 (by decide))
  have s0_3 := aI_ok e4 (hy0 3 (by decide))
  have s0_4 := aI_ok e5 (hy0 4 (by decide))
  have s0_5 := aI_ok e6 (hy0 5 (by decide))
  have hR0 := rel0 (gv := (fun _ => undef)) (n := 63) (w := w) (args := [.g 6 (.c [.s (.k .i64 l0_0), .s (.k .i64 l0_1), .s (.k .i64 l0_2), .s (.k .i64 l0_3), .s (.k .i64 l0_4), .s (.k .i64 l0_5)])]) (H := []) (gl := []) (hpL (ps := []) F2.nil) (allRo_ok rfl) (F2.cons ⟨vs0, (by rw [lstE undef hn0]; exact (F2.cons s0_0 (F2.cons s0_1 (F2.cons s0_2 (F2.cons s0_3 (F2.cons s0_4 (F2.cons s0_5 F2.nil))))))), hn0, rfl⟩ F2.nil) GlR.nil (by simp)
  clear ha hp hg k0 e0 e1 e2 e3 e4 e5 e6
  refine calls_W Try.func20 rfl rfl hR0 (Q := fun e s => (e = .ret ∨ e = .normal) ∧ s = pTime_R r) ?_ ?_
  · clear hR0
    unfold pTime at h
    have hT := tabO_pr
    refine W_seq ?_
    refine W_reg hT ftL_nil [] [] [1] [0] (s' := ⟨[(1, .c (.pt 0 0))], [], [⟨.blk, 34, 1, 6, .c [.s (.k .i64 l0_0), .s (.k .i64 l0_1), .s (.k .i64 l0_2), .s (.k .i64 l0_3), .s (.k .i64 l0_4), .s (.k .i64 l0_5)]⟩]⟩) (by kernel_rfl) allP_nil ?_
    refine W_seq ?_
    refine W_seq ?_
    obtain ⟨r11, g1, h⟩ := bind_some' h
    refine W_reg hT (ftL_cons (k := 1) (f := 50) (F := (pvalid_ct n r11)) (pvalid_ok n r11) (fun _ _ => True.intro) ftL_nil) [] [] [1, 12] [0] (s' := ⟨[(1, .c (.pt 0 0)), (12, .c (.s (.b (!r11))))], [], [⟨.blk, 34, 1, 6, .c [.s (.k .i64 l0_0), .s (.k .i64 l0_1), .s (.k .i64 l0_2), .s (.k .i64 l0_3), .s (.k .i64 l0_4), .s (.k .i64 l0_5)]⟩]⟩) (by kernel_rfl) (allP_cons.2 ⟨g1, allP_nil⟩) ?_
    refine W_cond (b := (!r11)) (by kernel_rfl) (fun g20 => ?_) (fun g20 => ?_)
    · replace h := bif_t h g20
      refine W_seq ?_
      refine W_reg hT ftL_nil [] [] [2, 3, 4] [] (s' := ⟨[(2, .c (.s (.u8 0))), (3, .c (.nils)), (4, .c (.s (.er 31 .i64 (some 1))))], [], []⟩) (by kernel_rfl) allP_nil ?_
      refine W_co [.nil 3 5 1 (.b [])] [2, 3, 4] [0] (s' := (pTime_R (0, [], (some 1)))) (by kernel_rfl) (W_ret ?_)
      exact ⟨.inl rfl, by cases h; rfl⟩
    · replace h := bif_f h g20
      refine W_co [] [1] [0] (s' := ⟨[(1, .c (.pt 0 0))], [], [⟨.blk, 34, 1, 6, .c [.s (.k .i64 l0_0), .s (.k .i64 l0_1), .s (.k .i64 l0_2), .s (.k .i64 l0_3), .s (.k .i64 l0_4), .s (.k .i64 l0_5)]⟩]⟩) (by kernel_rfl) (W_skip ?_)
      refine W_seq ?_
      obtain ⟨g2, h⟩ := gd_some h
      obtain ⟨g3, h⟩ := gd_some h
      obtain ⟨g4, h⟩ := gd_some h
      refine W_regD hT ftL_nil (by kernel_rfl) 18 [] [(1, false), (5, false), (30, false)] [] [1, 5, 6] [0, 1] (s' := ⟨[(1, .c (.pt 0 0)), (5, .c (.s (.u8 24))), (6, .c (.wh 1))], [], [⟨.blk, 34, 1, 6, .c [.s (.k .i64 l0_0), .s (.k .i64 l0_1), .s (.k .i64 l0_2), .s (.k .i64 l0_3), .s (.k .i64 l0_4), .s (.k .i64 l0_5)]⟩, ⟨.row, 3, 1, 7, .z [(Int.tdiv l0_0 100), (Int.tmod l0_0 100), l0_1, l0_2, l0_3, l0_4, l0_5]⟩]⟩) (by kernel_rfl) (by kernel_rfl) (allP_cons.2 ⟨g2, (allP_cons.2 ⟨g3, (allP_cons.2 ⟨g4, allP_nil⟩)⟩)⟩) ?_
      refine W_join (pTime_j1_P n r) ?_ ?_
      · rintro _ ⟨b5_1, z6_1, m6_1, rfl, h⟩
        unfold pTime_j1 at h
        refine W_seq ?_
        refine W_reg hT ftL_nil [] [] [5, 6, 7] [0] (s' := ⟨[(5, .c (.s (.u8 b5_1))), (6, .c (.wh 0)), (7, .c (.nils))], [], [⟨(.ro true), 3, 1, m6_1, .z z6_1⟩]⟩) (by kernel_rfl) allP_nil ?_
        refine W_seq ?_
        refine W_seq ?_
        refine W_reg hT ftL_nil [] [] [5, 7, 41, 42, 43] [0] (s' := ⟨[(5, .c (.s (.u8 b5_1))), (7, .c (.nils)), (41, .c (.wh 0)), (42, .c (.s (.k .i64 ((m6_1 : Nat) : Int)))), (43, .c (.s (.k .i64 0)))], [], [⟨(.ro true), 3, 1, m6_1, .z z6_1⟩]⟩) (by kernel_rfl) allP_nil ?_
        refine W_block ?_
        refine W_co [.nil 7 5 1 (.b [])] [5, 7, 41, 42, 43] [1, 0] (s' := (pTime_l1_E b5_1 z6_1 m6_1 [] 0)) (by kernel_rfl) (W_lp ((pTime_l1_P n b5_1 z6_1 m6_1 r)) n (pTime_l1_M h) ?_)
        rintro fu_l1 _ ⟨l7_1, i43_1, rfl, h⟩
        cases fu_l1 with
        | zero => cases h
        | succ fu_l1 =>
          refine ⟨fu_l1, rfl, ?_⟩
          rw [pTime_l1] at h
          refine W_seq ?_
          refine W_reg hT ftL_nil [] [] [5, 7, 41, 42, 43, 44] [0, 1] (s' := ⟨[(5, .c (.s (.u8 b5_1))), (7, .c (.wh 0)), (41, .c (.wh 1)), (42, .c (.s (.k .i64 ((m6_1 : Nat) : Int)))), (43, .c (.s (.k .i64 i43_1))), (44, .c (.s (.b (decide (i43_1 < ((m6_1 : Nat) : Int))))))], [], [⟨.row, 5, 1, l7_1.length, .b l7_1⟩, ⟨(.ro true), 3, 1, m6_1, .z z6_1⟩]⟩) (by kernel_rfl) allP_nil ?_
          refine W_seq ?_
          refine W_cond (b := (decide (i43_1 < ((m6_1 : Nat) : Int)))) (by kernel_rfl) (fun g15 => ?_) (fun g15 => ?_)
          · replace h := bif_t h g15
            refine W_co [] [5, 7, 41, 42, 43] [0, 1] (s' := ⟨[(5, .c (.s (.u8 b5_1))), (7, .c (.wh 0)), (41, .c (.wh 1)), (42, .c (.s (.k .i64 ((m6_1 : Nat) : Int)))), (43, .c (.s (.k .i64 i43_1)))], [], [⟨.row, 5, 1, l7_1.length, .b l7_1⟩, ⟨(.ro true), 3, 1, m6_1, .z z6_1⟩]⟩) (by kernel_rfl) (W_skip ?_)
            refine W_seq ?_
            refine W_block ?_
            refine W_seq ?_
            obtain ⟨g5, h⟩ := gd_some h
            obtain ⟨g6, h⟩ := gd_some h
            refine W_reg hT ftL_nil [] [] [5, 7, 9, 41, 42, 43] [0, 1] (s' := ⟨[(5, .c (.s (.u8 b5_1))), (7, .c (.wh 0)), (9, .c (.s (.k .i64 (z6_1.getD i43_1.toNat 0)))), (41, .c (.wh 1)), (42, .c (.s (.k .i64 ((m6_1 : Nat) : Int)))), (43, .c (.s (.k .i64 i43_1)))], [], [⟨.row, 5, 1, l7_1.length, .b l7_1⟩, ⟨(.ro true), 3, 1, m6_1, .z z6_1⟩]⟩) (by kernel_rfl) (allP_cons.2 ⟨g5, (allP_cons.2 ⟨g6, allP_nil⟩)⟩) ?_
            obtain ⟨g7, h⟩ := gd_some h
            obtain ⟨g8, h⟩ := gd_some h
            obtain ⟨g9, h⟩ := gd_some h
            obtain ⟨g10, h⟩ := gd_some h
            obtain ⟨g11, h⟩ := gd_some h
            obtain ⟨g12, h⟩ := gd_some h
            refine W_reg hT ftL_nil [] [] [5, 7, 41, 42, 43] [3, 1] (s' := ⟨[(5, .c (.s (.u8 b5_1))), (7, .c (.wh 0)), (41, .c (.wh 1)), (42, .c (.s (.k .i64 ((m6_1 : Nat) : Int)))), (43, .c (.s (.k .i64 i43_1)))], [], [⟨.row, 5, 1, (l7_1 ++ [(UInt8.ofInt (48 + (Int.tdiv (z6_1.getD i43_1.toNat 0) 10))), (UInt8.ofInt (48 + (Int.tmod (z6_1.getD i43_1.toNat 0) 10)))]).length, .b (l7_1 ++ [(UInt8.ofInt (48 + (Int.tdiv (z6_1.getD i43_1.toNat 0) 10))), (UInt8.ofInt (48 + (Int.tmod (z6_1.getD i43_1.toNat 0) 10)))])⟩, ⟨(.ro true), 3, 1, m6_1, .z z6_1⟩]⟩) (by kernel_rfl) (allP_cons.2 ⟨g7, (allP_cons.2 ⟨g8, (allP_cons.2 ⟨g9, (allP_cons.2 ⟨g10, (allP_cons.2 ⟨g11, (allP_cons.2 ⟨g12, allP_nil⟩)⟩)⟩)⟩)⟩)⟩) ?_
            obtain ⟨g13, h⟩ := gd_some h
            refine W_reg hT ftL_nil [] [] [5, 7, 41, 42, 43] [0, 1] (s' := (pTime_l1_E b5_1 z6_1 m6_1 (l7_1 ++ [(UInt8.ofInt (48 + (Int.tdiv (z6_1.getD i43_1.toNat 0) 10))), (UInt8.ofInt (48 + (Int.tmod (z6_1.getD i43_1.toNat 0) 10)))]) (i43_1 + 1))) (by kernel_rfl) (allP_cons.2 ⟨g13, allP_nil⟩) ?_
            exact pTime_l1_M h
          · replace h := bif_f h g15
            refine W_co [] [5, 7] [0] (s' := ⟨[(5, .c (.s (.u8 b5_1))), (7, .c (.wh 0))], [], [⟨.row, 5, 1, l7_1.length, .b l7_1⟩]⟩) (by kernel_rfl) (W_exit ?_)
            refine W_seq ?_
            obtain ⟨g14, h⟩ := gd_some h
            refine W_reg hT ftL_nil [] [] [2, 3, 4] [2] (s' := ⟨[(2, .c (.s (.u8 b5_1))), (3, .c (.wh 0)), (4, .c (.s (.v .nilIface)))], [], [⟨.row, 5, 1, (l7_1 ++ [90]).length, .b (l7_1 ++ [90])⟩]⟩) (by kernel_rfl) (allP_cons.2 ⟨g14, allP_nil⟩) ?_
            refine W_co [.er 4 31 .i64] [2, 3, 4] [0] (s' := (pTime_R (b5_1, (l7_1 ++ [90]), none))) (by kernel_rfl) (W_ret ?_)
            exact ⟨.inl rfl, by cases h; rfl⟩
      · refine W_seq ?_
        rcases Bool.eq_false_or_eq_true (decide ((1950 : Int) ≤ l0_0)) with g16 | g16
        · replace h := bif_t h g16
          refine W_reg hT ftL_nil [(3, true)] [] [5, 6, 38] [1] (s' := ⟨[(5, .c (.s (.u8 24))), (6, .c (.wh 0)), (38, .c (.s (.b (decide (l0_0 < (2050 : Int))))))], [], [⟨.row, 3, 1, 7, .z [(Int.tdiv l0_0 100), (Int.tmod l0_0 100), l0_1, l0_2, l0_3, l0_4, l0_5]⟩]⟩) (by kernel_rfl) (allP_cons.2 ⟨g16, allP_nil⟩) ?_
          refine W_cond (b := (decide (l0_0 < (2050 : Int)))) (by kernel_rfl) (fun g19 => ?_) (fun g19 => ?_)
          · replace h := bif_t h g19
            obtain ⟨g17, h⟩ := gd_some h
            obtain ⟨g18, h⟩ := gd_some h
            refine W_regD hT ftL_nil (by kernel_rfl) 3 [] [(5, false), (6, false), (40, false)] [.vw 6 true] [5, 6] [1] (s' := (pTime_j1_E 23 (([(Int.tdiv l0_0 100), (Int.tmod l0_0 100), l0_1, l0_2, l0_3, l0_4, l0_5].drop 1).take 6) 6)) (by kernel_rfl) (by kernel_rfl) (allP_cons.2 ⟨g17, (allP_cons.2 ⟨g18, allP_nil⟩)⟩) ?_
            exact pTime_j1_M h
          · replace h := bif_f h g19
            refine W_co [.vw 6 true] [5, 6] [1] (s' := (pTime_j1_E 24 [(Int.tdiv l0_0 100), (Int.tmod l0_0 100), l0_1, l0_2, l0_3, l0_4, l0_5] 7)) (by kernel_rfl) (W_skip ?_)
            exact pTime_j1_M h
        · replace h := bif_f h g16
          refine W_reg hT ftL_nil [(3, false)] [] [5, 6, 38] [1] (s' := ⟨[(5, .c (.s (.u8 24))), (6, .c (.wh 0)), (38, .c (.s (.b false)))], [], [⟨.row, 3, 1, 7, .z [(Int.tdiv l0_0 100), (Int.tmod l0_0 100), l0_1, l0_2, l0_3, l0_4, l0_5]⟩]⟩) (by kernel_rfl) (allP_cons.2 ⟨g16, allP_nil⟩) ?_
          refine W_cond (b := false) (by kernel_rfl) (fun hb => by cases hb) (fun _ => ?_)
          refine W_co [.vw 6 true] [5, 6] [1] (s' := (pTime_j1_E 24 [(Int.tdiv l0_0 100), (Int.tmod l0_0 100), l0_1, l0_2, l0_3, l0_4, l0_5] 7)) (by kernel_rfl) (W_skip ?_)
          exact pTime_j1_M h
  · rintro e s' ⟨he, rfl⟩
    refine ⟨he, fun a' w' hr => ?_⟩
    exact retS_ok tabO_pr hr (rs := [.tmp 2, .tmp 3, .tmp 4]) rfl (objs := [0]) (by kernel_rfl)
def pahead_R (r : Int) : S := ⟨[(2, .c (.s (.k .i64 r)))], [], []⟩
def pahead_ct (n : Nat) (r : Int) : Ct := fun args H => match args with
  | [x0] => (match aI x0 with | some l0 => some ([pahead n l0 = some r], shA H.length (.c (.s (.k .i64 r))), shH H.length []) | none => none)
  | _ => none
theorem pahead_ok (n : Nat) (r : Int) : FnOk Try.prog Tr 51 (pahead_ct n r) := by
  refine ⟨fun args H g av objs hF hg ρ w vals hG hp ha => ?_, _, Try.func51, by kernel_rfl, by kernel_rfl⟩
  obtain ⟨x0, rfl⟩ : ∃ x0, args = [x0] := by
    unfold pahead_ct at hF; split at hF
    · exact ⟨_, rfl⟩
    · cases hF
  cases e0 : aI x0 with
  | none => simp only [pahead_ct, e0, reduceCtorEq] at hF
  | some l0 =>
  simp only [pahead_ct, e0, Option.some.injEq, Prod.mk.injEq] at hF
  obtain ⟨rfl, rfl, rfl⟩ := hF
  obtain ⟨v0, vals, rfl, k0, ha⟩ := F2.inv ha
  obtain rfl := F2.inv0 ha
  have hI : ∀ w', Kp (noB (fun _ => undef)) w w' → Tr w' := fun _ hk => Tr.keep hk.below hG
  have h : pahead n l0 = some r := hg
  have s0 := aI_ok e0 (k0)
  have hR0 := rel0 (gv := (fun _ => undef)) (n := 17) (w := w) (args := [.c (.s (.k .i64 l0))]) (H := []) (gl := []) (hpL (ps := []) F2.nil) (allRo_ok rfl) (F2.cons s0 F2.nil) GlR.nil (by simp)
  clear ha hp hg k0 e0
  refine calls_W Try.func51 rfl rfl hR0 (Q := fun e s => (e = .ret ∨ e = .normal) ∧ s = pahead_R r) ?_ ?_
  · clear hR0
    unfold pahead at h
    have hT := tabO_pr
    refine W_seq ?_
    refine W_reg hT ftL_nil [] [] [0] [] (s' := ⟨[(0, .c (.s (.k .i64 l0)))], [], []⟩) (by kernel_rfl) allP_nil ?_
    refine W_seq ?_
    obtain ⟨g1, h⟩ := gd_some h
    refine W_reg hT ftL_nil [] [] [3] [] (s' := ⟨[(3, .c (.s (.k .i64 (l0 - 1))))], [], []⟩) (by kernel_rfl) (allP_cons.2 ⟨g1, allP_nil⟩) ?_
    refine W_seq ?_
    obtain ⟨g2, h⟩ := gd_some h
    obtain ⟨g3, h⟩ := gd_some h
    obtain ⟨g4, h⟩ := gd_some h
    obtain ⟨g5, h⟩ := gd_some h
    obtain ⟨g6, h⟩ := gd_some h
    obtain ⟨g7, h⟩ := gd_some h
    obtain ⟨g8, h⟩ := gd_some h
    obtain ⟨g9, h⟩ := gd_some h
    obtain ⟨g10, h⟩ := gd_some h
    obtain ⟨g11, h⟩ := gd_some h
    refine W_reg hT ftL_nil [] [] [2] [] (s' := ⟨[(2, .c (.s (.k .i64 ((((365 * (l0 - 1)) + (Int.tdiv (l0 - 1) 4)) - (Int.tdiv (l0 - 1) 100)) + (Int.tdiv (l0 - 1) 400)))))], [], []⟩) (by kernel_rfl) (allP_cons.2 ⟨g2, (allP_cons.2 ⟨g3, (allP_cons.2 ⟨g4, (allP_cons.2 ⟨g5, (allP_cons.2 ⟨g6, (allP_cons.2 ⟨g7, (allP_cons.2 ⟨g8, (allP_cons.2 ⟨g9, (allP_cons.2 ⟨g10, (allP_cons.2 ⟨g11, allP_nil⟩)⟩)⟩)⟩)⟩)⟩)⟩)⟩)⟩)⟩) ?_
    refine W_co [] [2] [] (s' := (pahead_R ((((365 * (l0 - 1)) + (Int.tdiv (l0 - 1) 4)) - (Int.tdiv (l0 - 1) 100)) + (Int.tdiv (l0 - 1) 400)))) (by kernel_rfl) (W_ret ?_)
    exact ⟨.inl rfl, by cases h; rfl⟩
  · rintro e s' ⟨he, rfl⟩
    refine ⟨he, fun a' w' hr => ?_⟩
    exact retS_ok tabO_pr hr (rs := [.tmp 2]) rfl (objs := []) (by kernel_rfl)
def pCount_l1_E (a0_0 : Int) (a0_1 : Int) (a0_2 : Int) (a0_3 : Int) (a0_4 : Int) (a0_5 : Int) (i4_1 : Int) (i5_1 : Int) : S := ⟨[(1, .c (.pt 0 0)), (4, .c (.s (.k .i64 i4_1))), (5, .c (.s (.k .i64 i5_1)))], [], [⟨.blk, 34, 1, 6, .c [.s (.k .i64 a0_0), .s (.k .i64 a0_1), .s (.k .i64 a0_2), .s (.k .i64 a0_3), .s (.k .i64 a0_4), .s (.k .i64 a0_5)]⟩]⟩
def pCount_l1_P (n : Nat) (a0_0 : Int) (a0_1 : Int) (a0_2 : Int) (a0_3 : Int) (a0_4 : Int) (a0_5 : Int) (r : Int × Option Int) (fu : Nat) : S → Prop := fun s => ∃ (i4_1 : Int), ∃ (i5_1 : Int), s = pCount_l1_E a0_0 a0_1 a0_2 a0_3 a0_4 a0_5 i4_1 i5_1 ∧ pCount_l1 n a0_0 a0_1 a0_2 a0_3 a0_4 a0_5 fu i4_1 i5_1 = some r
theorem pCount_l1_M {n : Nat} {a0_0 : Int} {a0_1 : Int} {a0_2 : Int} {a0_3 : Int} {a0_4 : Int} {a0_5 : Int} {i4_1 : Int} {i5_1 : Int} {r : Int × Option Int} {fu : Nat} (h : pCount_l1 n a0_0 a0_1 a0_2 a0_3 a0_4 a0_5 fu i4_1 i5_1 = some r) : pCount_l1_P n a0_0 a0_1 a0_2 a0_3 a0_4 a0_5 r fu (pCount_l1_E a0_0 a0_1 a0_2 a0_3 a0_4 a0_5 i4_1 i5_1) := ⟨i4_1, i5_1, rfl, h⟩
def pCount_R (r : Int × Option Int) : S := ⟨[(2, .c (.s (.k .i64 r.1))), (3, .c (.s (.er 31 .i64 r.2)))], [], []⟩
def pCount_ct (n : Nat) (r : Int × Option Int) : Ct := fun args H => match args with
  | [x0] => (match aGc 6 x0 with | some y0 => (match aI (.c (y0.getD 0 .junk)) with | some l0_0 => (match aI (.c (y0.getD 1 .junk)) with | some l0_1 => (match aI (.c (y0.getD 2 .junk)) with | some l0_2 => (match aI (.c (y0.getD 3 .junk)) with | some l0_3 => (match aI (.c (y0.getD 4 .junk)) with | some l0_4 => (match aI (.c (y0.getD 5 .junk)) with | some l0_5 => some ([pCount n l0_0 l0_1 l0_2 l0_3 l0_4 l0_5 = some r], shA H.length (.t [.c (.s (.k .i64 r.1)), .c (.s (.er 31 .i64 r.2))]), shH H.length []) | none => none) | none => none) | none => none) | none => none) | none => none) | none => none) | none => none)
  | _ => none
theorem pCount_ok (n : Nat) (r : Int × Option Int) : FnOk Try.prog Tr 19 (pCount_ct n r) := by
  refine ⟨fun args H g av objs hF hg ρ w vals hG hp ha => ?_, _, Try.func19, by kernel_rfl, by kernel_rfl⟩
  obtain ⟨x0, rfl⟩ : ∃ x0, args = [x0] := by
    unfold pCount_ct at hF; split at hF
    · exact ⟨_, rfl⟩
    · cases hF
  cases e0 : aGc 6 x0 with
  | none => simp only [pCount_ct, e0, reduceCtorEq] at hF
  | some y0 =>
  cases e1 : aI (.c (y0.getD 0 .junk)) with
  | none => simp only [pCount_ct, e0, e1, reduceCtorEq] at hF
  | some l0_0 =>
  cases e2 : aI (.c (y0.getD 1 .junk)) with
  | none => simp only [pCount_ct, e0, e1, e2, reduceCtorEq] at hF
  | some l0_1 =>
  cases e3 : aI (.c (y0.getD 2 .junk)) with
  | none => simp only [pCount_ct, e0, e1, e2, e3, reduceCtorEq] at hF
  | some l0_2 =>
  cases e4 : aI (.c (y0.getD 3 .junk)) with
  | none => simp only [pCount_ct, e0, e1, e2, e3, e4, reduceCtorEq] at hF
  | some l0_3 =>
  cases e5 : aI (.c (y0.getD 4 .junk)) with
  | none => simp only [pCount_ct, e0, e1, e2, e3, e4, e5, reduceCtorEq] at hF
  | some l0_4 =>
  cases e6 : aI (.c (y0.getD 5 .junk)) with
  | none => simp only [pCount_ct, e0, e1, e2, e3, e4, e5, e6, reduceCtorEq] at hF
  | some l0_5 =>
  simp only [pCount_ct, e0, e1, e2, e3, e4, e5, e6, Option.some.injEq, Prod.mk.injEq] at hF
  obtain ⟨rfl, rfl, rfl⟩ := hF
  obtain ⟨v0, vals, rfl, k0, ha⟩ := F2.inv ha
  obtain rfl := F2.inv0 ha
  have hI : ∀ w', Kp (noB (fun _ => undef)) w w' → Tr w' := fun _ hk => Tr.keep hk.below hG
  have h : pCount n l0_0 l0_1 l0_2 l0_3 l0_4 l0_5 = some r := hg
  obtain ⟨vs0, hn0, rfl, hy0⟩ := aGc_ok e0 k0
  have s0_0 := aI_ok e1 (hy0 0 (by decide))
  have s0_1 := aI_ok e2 (hy0 1 (by decide))
  have s0_2 := aI_ok e3 (hy0 2 (by decide))
  have s0_3 := aI_ok e4 (hy0 3 (by decide))
  have s0_4 := aI_ok e5 (hy0 4 (by decide))
  have s0_5 := aI_ok e6 (hy0 5 (by decide))
  have hR0 := rel0 (gv := (fun _ => undef)) (n := 42) (w := w) (args := [.g 6 (.c [.s (.k .i64 l0_0), .s (.k .i64 l0_1), .s (.k .i64 l0_2), .s (.k .i64 l0_3), .s (.k .i64 l0_4), .s (.k .i64 l0_5)])]) (H := []) (gl := []) (hpL (ps := []) F2.nil) (allRo_ok rfl) (F2.cons ⟨vs0, (by rw [lstE undef hn0]; exact (F2.cons s0_0 (F2.cons s0_1 (F2.cons s0_2 (F2.cons s0_3 (F2.cons s0_4 (F2.cons s0_5 F2.nil))))))), hn0, rfl⟩ F2.nil) GlR.nil (by simp)
  clear ha hp hg k0 e0 e1 e2 e3 e4 e5 e6
  refine calls_W Try.func19 rfl rfl hR0 (Q := fun e s => (e = .ret ∨ e = .normal) ∧ s = pCount_R r) ?_ ?_
  · clear hR0
    unfold pCount at h
    have hT := tabO_pr
    refine W_seq ?_
    refine W_reg hT ftL_nil [] [] [1] [0] (s' := ⟨[(1, .c (.pt 0 0))], [], [⟨.blk, 34, 1, 6, .c [.s (.k .i64 l0_0), .s (.k .i64 l0_1), .s (.k .i64 l0_2), .s (.k .i64 l0_3), .s (.k .i64 l0_4), .s (.k .i64 l0_5)]⟩]⟩) (by kernel_rfl) allP_nil ?_
    refine W_seq ?_
    refine W_seq ?_
    obtain ⟨r7, g1, h⟩ := bind_some' h
    refine W_reg hT (ftL_cons (k := 1) (f := 50) (F := (pvalid_ct n r7)) (pvalid_ok n r7) (fun _ _ => True.intro) ftL_nil) [] [] [1, 8] [0] (s' := ⟨[(1, .c (.pt 0 0)), (8, .c (.s (.b (!r7))))], [], [⟨.blk, 34, 1, 6, .c [.s (.k .i64 l0_0), .s (.k .i64 l0_1), .s (.k .i64 l0_2), .s (.k .i64 l0_3), .s (.k .i64 l0_4), .s (.k .i64 l0_5)]⟩]⟩) (by kernel_rfl) (allP_cons.2 ⟨g1, allP_nil⟩) ?_
    refine W_cond (b := (!r7)) (by kernel_rfl) (fun g15 => ?_) (fun g15 => ?_)
    · replace h := bif_t h g15
      refine W_seq ?_
      refine W_reg hT ftL_nil [] [] [2, 3] [] (s' := ⟨[(2, .c (.s (.k .i64 0))), (3, .c (.s (.er 31 .i64 (some 1))))], [], []⟩) (by kernel_rfl) allP_nil ?_
      refine W_co [] [2, 3] [] (s' := (pCount_R (0, (some 1)))) (by kernel_rfl) (W_ret ?_)
      exact ⟨.inl rfl, by cases h; rfl⟩
    · replace h := bif_f h g15
      refine W_co [] [1] [0] (s' := ⟨[(1, .c (.pt 0 0))], [], [⟨.blk, 34, 1, 6, .c [.s (.k .i64 l0_0), .s (.k .i64 l0_1), .s (.k .i64 l0_2), .s (.k .i64 l0_3), .s (.k .i64 l0_4), .s (.k .i64 l0_5)]⟩]⟩) (by kernel_rfl) (W_skip ?_)
      refine W_seq ?_
      obtain ⟨r12, g2, h⟩ := bind_some' h
      obtain ⟨g3, h⟩ := gd_some h
      obtain ⟨g4, h⟩ := gd_some h
      refine W_regD hT (ftL_cons (k := 2) (f := 51) (F := (pahead_ct n r12)) (pahead_ok n r12) (fun _ _ => True.intro) ftL_nil) (by kernel_rfl) 6 [] [(1, false), (12, false), (15, false)] [] [1, 4] [0] (s' := ⟨[(1, .c (.pt 0 0)), (4, .c (.s (.k .i64 (r12 + (l0_2 - 1)))))], [], [⟨.blk, 34, 1, 6, .c [.s (.k .i64 l0_0), .s (.k .i64 l0_1), .s (.k .i64 l0_2), .s (.k .i64 l0_3), .s (.k .i64 l0_4), .s (.k .i64 l0_5)]⟩]⟩) (by kernel_rfl) (by kernel_rfl) (allP_cons.2 ⟨g2, (allP_cons.2 ⟨g3, (allP_cons.2 ⟨g4, allP_nil⟩)⟩)⟩) ?_
      refine W_seq ?_
      refine W_seq ?_
      refine W_reg hT ftL_nil [] [] [1, 4, 5] [0] (s' := ⟨[(1, .c (.pt 0 0)), (4, .c (.s (.k .i64 (r12 + (l0_2 - 1))))), (5, .c (.s (.k .i64 1)))], [], [⟨.blk, 34, 1, 6, .c [.s (.k .i64 l0_0), .s (.k .i64 l0_1), .s (.k .i64 l0_2), .s (.k .i64 l0_3), .s (.k .i64 l0_4), .s (.k .i64 l0_5)]⟩]⟩) (by kernel_rfl) allP_nil ?_
      refine W_block ?_
      refine W_co [] [1, 4, 5] [0] (s' := (pCount_l1_E l0_0 l0_1 l0_2 l0_3 l0_4 l0_5 (r12 + (l0_2 - 1)) 1)) (by kernel_rfl) (W_lp ((pCount_l1_P n l0_0 l0_1 l0_2 l0_3 l0_4 l0_5 r)) n (pCount_l1_M h) ?_)
      rintro fu_l1 _ ⟨i4_1, i5_1, rfl, h⟩
      cases fu_l1 with
      | zero => cases h
      | succ fu_l1 =>
        refine ⟨fu_l1, rfl, ?_⟩
        rw [pCount_l1] at h
        refine W_seq ?_
        refine W_seq ?_
        refine W_reg hT ftL_nil [] [] [1, 4, 5, 20] [0] (s' := ⟨[(1, .c (.pt 0 0)), (4, .c (.s (.k .i64 i4_1))), (5, .c (.s (.k .i64 i5_1))), (20, .c (.s (.b (decide (i5_1 < l0_1)))))], [], [⟨.blk, 34, 1, 6, .c [.s (.k .i64 l0_0), .s (.k .i64 l0_1), .s (.k .i64 l0_2), .s (.k .i64 l0_3), .s (.k .i64 l0_4), .s (.k .i64 l0_5)]⟩]⟩) (by kernel_rfl) allP_nil ?_
        refine W_cond (b := (decide (i5_1 < l0_1))) (by kernel_rfl) (fun g14 => ?_) (fun g14 => ?_)
        · replace h := bif_t h g14
          refine W_co [] [1, 4, 5] [0] (s' := ⟨[(1, .c (.pt 0 0)), (4, .c (.s (.k .i64 i4_1))), (5, .c (.s (.k .i64 i5_1)))], [], [⟨.blk, 34, 1, 6, .c [.s (.k .i64 l0_0), .s (.k .i64 l0_1), .s (.k .i64 l0_2), .s (.k .i64 l0_3), .s (.k .i64 l0_4), .s (.k .i64 l0_5)]⟩]⟩) (by kernel_rfl) (W_skip ?_)
          refine W_seq ?_
          refine W_block ?_
          obtain ⟨r27_2, g5, h⟩ := bind_some' h
          obtain ⟨g6, h⟩ := gd_some h
          refine W_reg hT (ftL_cons (k := 4) (f := 52) (F := (pdays_ct n r27_2)) (pdays_ok n r27_2) (fun _ _ => True.intro) ftL_nil) [] [] [1, 4, 5] [0] (s' := ⟨[(1, .c (.pt 0 0)), (4, .c (.s (.k .i64 (i4_1 + r27_2)))), (5, .c (.s (.k .i64 i5_1)))], [], [⟨.blk, 34, 1, 6, .c [.s (.k .i64 l0_0), .s (.k .i64 l0_1), .s (.k .i64 l0_2), .s (.k .i64 l0_3), .s (.k .i64 l0_4), .s (.k .i64 l0_5)]⟩]⟩) (by kernel_rfl) (allP_cons.2 ⟨g5, (allP_cons.2 ⟨g6, allP_nil⟩)⟩) ?_
          obtain ⟨g7, h⟩ := gd_some h
          refine W_reg hT ftL_nil [] [] [1, 4, 5] [0] (s' := (pCount_l1_E l0_0 l0_1 l0_2 l0_3 l0_4 l0_5 (i4_1 + r27_2) (i5_1 + 1))) (by kernel_rfl) (allP_cons.2 ⟨g7, allP_nil⟩) ?_
          exact pCount_l1_M h
        · replace h := bif_f h g14
          refine W_co [] [1, 4] [0] (s' := ⟨[(1, .c (.pt 0 0)), (4, .c (.s (.k .i64 i4_1)))], [], [⟨.blk, 34, 1, 6, .c [.s (.k .i64 l0_0), .s (.k .i64 l0_1), .s (.k .i64 l0_2), .s (.k .i64 l0_3), .s (.k .i64 l0_4), .s (.k .i64 l0_5)]⟩]⟩) (by kernel_rfl) (W_exit ?_)
          refine W_seq ?_
          obtain ⟨g8, h⟩ := gd_some h
          obtain ⟨g9, h⟩ := gd_some h
          obtain ⟨g10, h⟩ := gd_some h
          obtain ⟨g11, h⟩ := gd_some h
          obtain ⟨g12, h⟩ := gd_some h
          obtain ⟨g13, h⟩ := gd_some h
          refine W_reg hT ftL_nil [] [] [2, 3] [] (s' := ⟨[(2, .c (.s (.k .i64 ((i4_1 * 86400) + (((l0_3 * 3600) + (l0_4 * 60)) + l0_5))))), (3, .c (.s (.v .nilIface)))], [], []⟩) (by kernel_rfl) (allP_cons.2 ⟨g8, (allP_cons.2 ⟨g9, (allP_cons.2 ⟨g10, (allP_cons.2 ⟨g11, (allP_cons.2 ⟨g12, (allP_cons.2 ⟨g13, allP_nil⟩)⟩)⟩)⟩)⟩)⟩) ?_
          refine W_co [.er 3 31 .i64] [2, 3] [] (s' := (pCount_R (((i4_1 * 86400) + (((l0_3 * 3600) + (l0_4 * 60)) + l0_5)), none))) (by kernel_rfl) (W_ret ?_)
          exact ⟨.inl rfl, by cases h; rfl⟩
  · rintro e s' ⟨he, rfl⟩
    refine ⟨he, fun a' w' hr => ?_⟩
    exact retS_ok tabO_pr hr (rs := [.tmp 2, .tmp 3]) rfl (objs := []) (by kernel_rfl)
def pInt_j1_E (l3_6 : List UInt8) (m3_4 : Nat) : S := ⟨[(3, .c (.wh 0))], [], [⟨(.ro true), 5, 1, m3_4, .b l3_6⟩]⟩
def pInt_j1_P (n : Nat) (r : List UInt8) : S → Prop := fun s => ∃ (l3_6 : List UInt8), ∃ (m3_4 : Nat), s = pInt_j1_E l3_6 m3_4 ∧ pInt_j1 n l3_6 m3_4 = some r
theorem pInt_j1_M {n : Nat} {l3_6 : List UInt8} {m3_4 : Nat} {r : List UInt8} (h : pInt_j1 n l3_6 m3_4 = some r) : pInt_j1_P n r (pInt_j1_E l3_6 m3_4) := ⟨l3_6, m3_4, rfl, h⟩
def pInt_l2_E (l3_7 : List UInt8) (m3_5 : Nat) : S := ⟨[(3, .c (.wh 0))], [], [⟨(.ro true), 5, 1, m3_5, .b l3_7⟩]⟩
def pInt_l2_P (n : Nat) (r : List UInt8) (fu : Nat) : S → Prop := fun s => ∃ (l3_7 : List UInt8), ∃ (m3_5 : Nat), s = pInt_l2_E l3_7 m3_5 ∧ pInt_l2 n fu l3_7 m3_5 = some r
theorem pInt_l2_M {n : Nat} {l3_7 : List UInt8} {m3_5 : Nat} {r : List UInt8} {fu : Nat} (h : pInt_l2 n fu l3_7 m3_5 = some r) : pInt_l2_P n r fu (pInt_l2_E l3_7 m3_5) := ⟨l3_7, m3_5, rfl, h⟩
def pInt_l1_E (a0 : Int) (l3_4 : List UInt8) (i4_1 : Int) : S := ⟨[(0, .c (.s (.k .i64 a0))), (3, .c (.wh 0)), (4, .c (.s (.k .i64 i4_1)))], [], [⟨.row, 5, 1, l3_4.length, .b l3_4⟩]⟩
def pInt_l1_P (n : Nat) (a0 : Int) (r : List UInt8) (fu : Nat) : S → Prop := fun s => ∃ (l3_4 : List UInt8), ∃ (i4_1 : Int), s = pInt_l1_E a0 l3_4 i4_1 ∧ pInt_l1 n a0 fu l3_4 i4_1 = some r
theorem pInt_l1_M {n : Nat} {a0 : Int} {l3_4 : List UInt8} {i4_1 : Int} {r : List UInt8} {fu : Nat} (h : pInt_l1 n a0 fu l3_4 i4_1 = some r) : pInt_l1_P n a0 r fu (pInt_l1_E a0 l3_4 i4_1) := ⟨l3_4, i4_1, rfl, h⟩
def pInt_R (r : List UInt8) : S := ⟨[(2, .c (.wh 0))], [], [⟨.row, 5, 1, r.length, .b r⟩]⟩
def pInt_ct (n : Nat) (r : List UInt8) : Ct := fun args H => match args with
  | [x0] => (match aI x0 with | some l0 => some ([pInt n l0 = some r], shA H.length (.c (.wh 0)), shH H.length [⟨.row, 5, 1, r.length, .b r⟩]) | none => none)
  | _ => none
theorem pInt_ok (n : Nat) (r : List UInt8) : FnOk Try.prog Tr 15 (pInt_ct n r) := by
  refine ⟨fun args H g av objs hF hg ρ w vals hG hp ha => ?_, _, Try.func15, by kernel_rfl, by kernel_rfl⟩
  obtain ⟨x0, rfl⟩ : ∃ x0, args = [x0] := by
    unfold pInt_ct at hF; split at hF
    · exact ⟨_, rfl⟩
    · cases hF
  cases e0 : aI x0 with
  | none => simp only [pInt_ct, e0, reduceCtorEq] at hF
  | some l0 =>
  simp only [pInt_ct, e0, Option.some.injEq, Prod.mk.injEq] at hF
  obtain ⟨rfl, rfl, rfl⟩ := hF
  obtain ⟨v0, vals, rfl, k0, ha⟩ := F2.inv ha
  obtain rfl := F2.inv0 ha
  have hI : ∀ w', Kp (noB (fun _ => undef)) w w' → Tr w' := fun _ hk => Tr.keep hk.below hG
  have h : pInt n l0 = some r := hg
  have s0 := aI_ok e0 (k0)
  have hR0 := rel0 (gv := (fun _ => undef)) (n := 27) (w := w) (args := [.c (.s (.k .i64 l0))]) (H := []) (gl := []) (hpL (ps := []) F2.nil) (allRo_ok rfl) (F2.cons s0 F2.nil) GlR.nil (by simp)
  clear ha hp hg k0 e0
  refine calls_W Try.func15 rfl rfl hR0 (Q := fun e s => (e = .ret ∨ e = .normal) ∧ s = pInt_R r) ?_ ?_
  · clear hR0
    unfold pInt at h
    have hT := tabO_pr
    refine W_seq ?_
    refine W_reg hT ftL_nil [] [] [0] [] (s' := ⟨[(0, .c (.s (.k .i64 l0)))], [], []⟩) (by kernel_rfl) allP_nil ?_
    refine W_seq ?_
    refine W_reg hT ftL_nil [] [] [0, 3] [] (s' := ⟨[(0, .c (.s (.k .i64 l0))), (3, .c (.nils))], [], []⟩) (by kernel_rfl) allP_nil ?_
    refine W_seq ?_
    refine W_seq ?_
    refine W_reg hT ftL_nil [] [] [0, 3, 4] [] (s' := ⟨[(0, .c (.s (.k .i64 l0))), (3, .c (.nils)), (4, .c (.s (.k .i64 56)))], [], []⟩) (by kernel_rfl) allP_nil ?_
    refine W_block ?_
    refine W_co [.nil 3 5 1 (.b [])] [0, 3, 4] [0] (s' := (pInt_l1_E l0 [] 56)) (by kernel_rfl) (W_lp ((pInt_l1_P n l0 r)) n (pInt_l1_M h) ?_)
    rintro fu_l1 _ ⟨l3_4, i4_1, rfl, h⟩
    cases fu_l1 with
    | zero => cases h
    | succ fu_l1 =>
      refine ⟨fu_l1, rfl, ?_⟩
      rw [pInt_l1] at h
      refine W_seq ?_
      refine W_seq ?_
      refine W_reg hT ftL_nil [] [] [0, 3, 4, 6] [0] (s' := ⟨[(0, .c (.s (.k .i64 l0))), (3, .c (.wh 0)), (4, .c (.s (.k .i64 i4_1))), (6, .c (.s (.b (decide ((0 : Int) ≤ i4_1)))))], [], [⟨.row, 5, 1, l3_4.length, .b l3_4⟩]⟩) (by kernel_rfl) allP_nil ?_
      refine W_cond (b := (decide ((0 : Int) ≤ i4_1))) (by kernel_rfl) (fun g11 => ?_) (fun g11 => ?_)
      · replace h := bif_t h g11
        refine W_co [] [0, 3, 4] [0] (s' := ⟨[(0, .c (.s (.k .i64 l0))), (3, .c (.wh 0)), (4, .c (.s (.k .i64 i4_1)))], [], [⟨.row, 5, 1, l3_4.length, .b l3_4⟩]⟩) (by kernel_rfl) (W_skip ?_)
        refine W_seq ?_
        refine W_block ?_
        obtain ⟨g1, h⟩ := gd_some h
        obtain ⟨g2, h⟩ := gd_some h
        obtain ⟨g3, h⟩ := gd_some h
        refine W_reg hT ftL_nil [] [] [0, 3, 4] [2] (s' := ⟨[(0, .c (.s (.k .i64 l0))), (3, .c (.wh 0)), (4, .c (.s (.k .i64 i4_1)))], [], [⟨.row, 5, 1, (l3_4 ++ [(UInt8.ofInt (l0 / 2 ^ i4_1.toNat))]).length, .b (l3_4 ++ [(UInt8.ofInt (l0 / 2 ^ i4_1.toNat))])⟩]⟩) (by kernel_rfl) (allP_cons.2 ⟨g1, (allP_cons.2 ⟨g2, (allP_cons.2 ⟨g3, allP_nil⟩)⟩)⟩) ?_
        obtain ⟨g4, h⟩ := gd_some h
        refine W_reg hT ftL_nil [] [] [0, 3, 4] [0] (s' := (pInt_l1_E l0 (l3_4 ++ [(UInt8.ofInt (l0 / 2 ^ i4_1.toNat))]) (i4_1 - 8))) (by kernel_rfl) (allP_cons.2 ⟨g4, allP_nil⟩) ?_
        exact pInt_l1_M h
      · replace h := bif_f h g11
        refine W_co [] [3] [0] (s' := ⟨[(3, .c (.wh 0))], [], [⟨.row, 5, 1, l3_4.length, .b l3_4⟩]⟩) (by kernel_rfl) (W_exit ?_)
        refine W_join (pInt_j1_P n r) ?_ ?_
        · rintro _ ⟨l3_6, m3_4, rfl, h⟩
          unfold pInt_j1 at h
          refine W_seq ?_
          obtain ⟨g5, h⟩ := gd_some h
          refine W_reg hT (ftL_cons (k := 1) (f := 49) (F := cloneb_ct) cloneb_h (fun _ _ => True.intro) ftL_nil) [] [] [2] [1] (s' := ⟨[(2, .c (.wh 0))], [], [⟨.row, 5, 1, l3_6.length, .b l3_6⟩]⟩) (by kernel_rfl) (allP_cons.2 ⟨g5, allP_nil⟩) ?_
          refine W_co [] [2] [0] (s' := (pInt_R l3_6)) (by kernel_rfl) (W_ret ?_)
          exact ⟨.inl rfl, by cases h; rfl⟩
        · refine W_block ?_
          refine W_co [.vw 3 true] [3] [1] (s' := (pInt_l2_E l3_4 l3_4.length)) (by kernel_rfl) (W_lp ((pInt_l2_P n r)) n (pInt_l2_M h) ?_)
          rintro fu_l2 _ ⟨l3_7, m3_5, rfl, h⟩
          cases fu_l2 with
          | zero => cases h
          | succ fu_l2 =>
            refine ⟨fu_l2, rfl, ?_⟩
            rw [pInt_l2] at h
            refine W_seq ?_
            refine W_seq ?_
            rcases Bool.eq_false_or_eq_true (decide ((1 : Int) < ((m3_5 : Nat) : Int))) with g6 | g6
            · replace h := bif_t h g6
              obtain ⟨r21_5, g7, h⟩ := bind_some' h
              refine W_reg hT (ftL_cons (k := 5) (f := 48) (F := (pspare_ct n r21_5)) (pspare_ok n r21_5) (fun _ _ => True.intro) ftL_nil) [(3, true)] [] [3, 22] [0] (s' := ⟨[(3, .c (.wh 0)), (22, .c (.s (.b r21_5)))], [], [⟨(.ro true), 5, 1, m3_5, .b l3_7⟩]⟩) (by kernel_rfl) (allP_cons.2 ⟨g6, (allP_cons.2 ⟨g7, allP_nil⟩)⟩) ?_
              refine W_cond (b := r21_5) (by kernel_rfl) (fun g10 => ?_) (fun g10 => ?_)
              · replace h := bif_t h g10
                refine W_co [] [3] [0] (s' := ⟨[(3, .c (.wh 0))], [], [⟨(.ro true), 5, 1, m3_5, .b l3_7⟩]⟩) (by kernel_rfl) (W_skip ?_)
                refine W_block ?_
                obtain ⟨g8, h⟩ := gd_some h
                obtain ⟨g9, h⟩ := gd_some h
                refine W_reg hT ftL_nil [] [.vw 3 true] [3] [1] (s' := (pInt_l2_E ((l3_7.drop 1).take (m3_5 - 1)) (m3_5 - 1))) (by kernel_rfl) (allP_cons.2 ⟨g8, (allP_cons.2 ⟨g9, allP_nil⟩)⟩) ?_
                exact pInt_l2_M h
              · replace h := bif_f h g10
                refine W_co [] [3] [0] (s' := (pInt_j1_E l3_7 m3_5)) (by kernel_rfl) (W_exit ?_)
                exact pInt_j1_M h
            · replace h := bif_f h g6
              refine W_reg hT ftL_nil [(3, false)] [] [3, 22] [0] (s' := ⟨[(3, .c (.wh 0)), (22, .c (.s (.b false)))], [], [⟨(.ro true), 5, 1, m3_5, .b l3_7⟩]⟩) (by kernel_rfl) (allP_cons.2 ⟨g6, allP_nil⟩) ?_
              refine W_cond (b := false) (by kernel_rfl) (fun hb => by cases hb) (fun _ => ?_)
              refine W_co [] [3] [0] (s' := (pInt_j1_E l3_7 m3_5)) (by kernel_rfl) (W_exit ?_)
              exact pInt_j1_M h
  · rintro e s' ⟨he, rfl⟩
    refine ⟨he, fun a' w' hr => ?_⟩
    exact retS_ok tabO_pr hr (rs := [.tmp 2]) rfl (objs := [0]) (by kernel_rfl)
def pup_R (r : Bool) : S := ⟨[(0, .c (.s (.b r)))], [], []⟩
def pup_ct (n : Nat) (r : Bool) : Ct := fun args H => match args with
  | [] => some ([pup n = some r], shA H.length (.c (.s (.b r))), shH H.length [])
  | _ => none
theorem pup_ok (n : Nat) (r : Bool) : FnOk Try.prog Tr 14 (pup_ct n r) := by
  refine ⟨fun args H g av objs hF hg ρ w vals hG hp ha => ?_, _, Try.func14, by kernel_rfl, by kernel_rfl⟩
  obtain rfl : args = [] := by
    unfold pup_ct at hF; split at hF
    · exact rfl
    · cases hF
  simp only [pup_ct, Option.some.injEq, Prod.mk.injEq] at hF
  obtain ⟨rfl, rfl, rfl⟩ := hF
  obtain rfl := F2.inv0 ha
  have hI : ∀ w', Kp (noB (fun _ => undef)) w w' → Tr w' := fun _ hk => Tr.keep hk.below hG
  have h : pup n = some r := hg
  have hR0 := rel0 (gv := (fun _ => undef)) (n := 69) (w := w) (args := []) (H := []) (gl := []) (hpL (ps := []) F2.nil) (allRo_ok rfl) F2.nil GlR.nil (by simp)
  clear ha hp hg 
  refine calls_W Try.func14 rfl rfl hR0 (Q := fun e s => (e = .ret ∨ e = .normal) ∧ s = pup_R r) ?_ ?_
  · clear hR0
    unfold pup at h
    have hT := tabO_pr
    refine W_seq ?_
    refine W_reg hT ftL_nil [] [] [] [] (s' := ⟨[], [], []⟩) (by kernel_rfl) allP_nil ?_
    refine W_seq ?_
    obtain ⟨r12, g1, h⟩ := bind_some' h
    refine W_reg hT (ftL_cons (k := 1) (f := 18) (F := (pReadInt_ct n r12)) (pReadInt_ok n r12) (fun _ _ => True.intro) ftL_nil) [] [] [2] [] (s' := ⟨[(2, .c (.s (.er 31 .i64 r12.2)))], [], []⟩) (by kernel_rfl) (allP_cons.2 ⟨g1, allP_nil⟩) ?_
    refine W_seq ?_
    obtain ⟨r17, g2, h⟩ := bind_some' h
    refine W_reg hT (ftL_cons (k := 1) (f := 32) (F := (pOid_ct n r17)) (pOid_ok n r17) (fun _ _ => True.intro) ftL_nil) [] [] [2, 3, 4] [1] (s' := ⟨[(2, .c (.s (.er 31 .i64 r12.2))), (3, .c (.wh 0)), (4, .c (.s (.er 31 .i64 r17.2)))], [], [⟨.row, 5, 1, r17.1.length, .b r17.1⟩]⟩) (by kernel_rfl) (allP_cons.2 ⟨g2, allP_nil⟩) ?_
    refine W_seq ?_
    obtain ⟨r22, g3, h⟩ := bind_some' h
    refine W_reg hT (ftL_cons (k := 1) (f := 20) (F := (pTime_ct n r22)) (pTime_ok n r22) (fun _ _ => True.intro) ftL_nil) [] [] [2, 3, 4, 5, 6, 7] [0, 1] (s' := ⟨[(2, .c (.s (.er 31 .i64 r12.2))), (3, .c (.wh 0)), (4, .c (.s (.er 31 .i64 r17.2))), (5, .c (.s (.u8 r22.1))), (6, .c (.wh 1)), (7, .c (.s (.er 31 .i64 r22.2.2)))], [], [⟨.row, 5, 1, r17.1.length, .b r17.1⟩, ⟨.row, 5, 1, r22.2.1.length, .b r22.2.1⟩]⟩) (by kernel_rfl) (allP_cons.2 ⟨g3, allP_nil⟩) ?_
    refine W_seq ?_
    obtain ⟨r28, g4, h⟩ := bind_some' h
    refine W_reg hT (ftL_cons (k := 1) (f := 19) (F := (pCount_ct n r28)) (pCount_ok n r28) (fun _ _ => True.intro) ftL_nil) [] [] [2, 3, 4, 5, 6, 7, 8, 9] [0, 1] (s' := ⟨[(2, .c (.s (.er 31 .i64 r12.2))), (3, .c (.wh 0)), (4, .c (.s (.er 31 .i64 r17.2))), (5, .c (.s (.u8 r22.1))), (6, .c (.wh 1)), (7, .c (.s (.er 31 .i64 r22.2.2))), (8, .c (.s (.k .i64 r28.1))), (9, .c (.s (.er 31 .i64 r28.2)))], [], [⟨.row, 5, 1, r17.1.length, .b r17.1⟩, ⟨.row, 5, 1, r22.2.1.length, .b r22.2.1⟩]⟩) (by kernel_rfl) (allP_cons.2 ⟨g4, allP_nil⟩) ?_
    refine W_seq ?_
    obtain ⟨r31, g5, h⟩ := bind_some' h
    rcases Bool.eq_false_or_eq_true (r31 == ([255, 127] : List UInt8)) with g6 | g6
    · replace h := bif_t h g6
      obtain ⟨g7, h⟩ := gd_some h
      rcases Bool.eq_false_or_eq_true (r12.2 == (some 2)) with g8 | g8
      · replace h := bif_t h g8
        rcases Bool.eq_false_or_eq_true ((r17.2).isNone) with g9 | g9
        · replace h := bif_t h g9
          rcases Bool.eq_false_or_eq_true (r17.1 == ([42, 134, 72, 134, 247, 13] : List UInt8)) with g10 | g10
          · replace h := bif_t h g10
            rcases Bool.eq_false_or_eq_true ((r22.2.2).isNone) with g11 | g11
            · replace h := bif_t h g11
              rcases Bool.eq_false_or_eq_true (r22.1 == 23) with g12 | g12
              · replace h := bif_t h g12
                rcases Bool.eq_false_or_eq_true (r22.2.1 == ([52, 57, 49, 50, 51, 49, 50, 51, 53, 57, 53, 57, 90] : List UInt8)) with g13 | g13
                · replace h := bif_t h g13
                  rcases Bool.eq_false_or_eq_true ((r28.2).isNone) with g14 | g14
                  · replace h := bif_t h g14
                    refine W_reg hT (ftL_cons (k := 0) (f := 15) (F := (pInt_ct n r31)) (pInt_ok n r31) (fun _ _ => True.intro) ftL_nil) [(3, true), (8, true), (12, true), (17, true), (21, true), (25, true), (30, true), (34, true)] [] [0] [] (s' := ⟨[(0, .c (.s (.b (r28.1 == 1))))], [], []⟩) (by kernel_rfl) (allP_cons.2 ⟨g5, (allP_cons.2 ⟨g6, (allP_cons.2 ⟨g7, (allP_cons.2 ⟨g8, (allP_cons.2 ⟨g9, (allP_cons.2 ⟨g10, (allP_cons.2 ⟨g11, (allP_cons.2 ⟨g12, (allP_cons.2 ⟨g13, (allP_cons.2 ⟨g14, allP_nil⟩)⟩)⟩)⟩)⟩)⟩)⟩)⟩)⟩)⟩) ?_
                    refine W_co [] [0] [] (s' := (pup_R (r28.1 == 1))) (by kernel_rfl) (W_ret ?_)
                    exact ⟨.inl rfl, by cases h; rfl⟩
                  · replace h := bif_f h g14
                    refine W_reg hT (ftL_cons (k := 0) (f := 15) (F := (pInt_ct n r31)) (pInt_ok n r31) (fun _ _ => True.intro) ftL_nil) [(3, true), (8, true), (12, true), (17, true), (21, true), (25, true), (30, true), (34, false)] [] [0] [] (s' := ⟨[(0, .c (.s (.b false)))], [], []⟩) (by kernel_rfl) (allP_cons.2 ⟨g5, (allP_cons.2 ⟨g6, (allP_cons.2 ⟨g7, (allP_cons.2 ⟨g8, (allP_cons.2 ⟨g9, (allP_cons.2 ⟨g10, (allP_cons.2 ⟨g11, (allP_cons.2 ⟨g12, (allP_cons.2 ⟨g13, (allP_cons.2 ⟨g14, allP_nil⟩)⟩)⟩)⟩)⟩)⟩)⟩)⟩)⟩)⟩) ?_
                    refine W_co [] [0] [] (s' := (pup_R false)) (by kernel_rfl) (W_ret ?_)
                    exact ⟨.inl rfl, by cases h; rfl⟩
                · replace h := bif_f h g13
                  refine W_reg hT (ftL_cons (k := 0) (f := 15) (F := (pInt_ct n r31)) (pInt_ok n r31) (fun _ _ => True.intro) ftL_nil) [(3, true), (8, true), (12, true), (17, true), (21, true), (25, true), (30, false)] [] [0] [] (s' := ⟨[(0, .c (.s (.b false)))], [], []⟩) (by kernel_rfl) (allP_cons.2 ⟨g5, (allP_cons.2 ⟨g6, (allP_cons.2 ⟨g7, (allP_cons.2 ⟨g8, (allP_cons.2 ⟨g9, (allP_cons.2 ⟨g10, (allP_cons.2 ⟨g11, (allP_cons.2 ⟨g12, (allP_cons.2 ⟨g13, allP_nil⟩)⟩)⟩)⟩)⟩)⟩)⟩)⟩)⟩) ?_
                  refine W_co [] [0] [] (s' := (pup_R false)) (by kernel_rfl) (W_ret ?_)
                  exact ⟨.inl rfl, by cases h; rfl⟩
              · replace h := bif_f h g12
                refine W_reg hT (ftL_cons (k := 0) (f := 15) (F := (pInt_ct n r31)) (pInt_ok n r31) (fun _ _ => True.intro) ftL_nil) [(3, true), (8, true), (12, true), (17, true), (21, true), (25, false)] [] [0] [] (s' := ⟨[(0, .c (.s (.b false)))], [], []⟩) (by kernel_rfl) (allP_cons.2 ⟨g5, (allP_cons.2 ⟨g6, (allP_cons.2 ⟨g7, (allP_cons.2 ⟨g8, (allP_cons.2 ⟨g9, (allP_cons.2 ⟨g10, (allP_cons.2 ⟨g11, (allP_cons.2 ⟨g12, allP_nil⟩)⟩)⟩)⟩)⟩)⟩)⟩)⟩) ?_
                refine W_co [] [0] [] (s' := (pup_R false)) (by kernel_rfl) (W_ret ?_)
                exact ⟨.inl rfl, by cases h; rfl⟩
            · replace h := bif_f h g11
              refine W_reg hT (ftL_cons (k := 0) (f := 15) (F := (pInt_ct n r31)) (pInt_ok n r31) (fun _ _ => True.intro) ftL_nil) [(3, true), (8, true), (12, true), (17, true), (21, false)] [] [0] [] (s' := ⟨[(0, .c (.s (.b false)))], [], []⟩) (by kernel_rfl) (allP_cons.2 ⟨g5, (allP_cons.2 ⟨g6, (allP_cons.2 ⟨g7, (allP_cons.2 ⟨g8, (allP_cons.2 ⟨g9, (allP_cons.2 ⟨g10, (allP_cons.2 ⟨g11, allP_nil⟩)⟩)⟩)⟩)⟩)⟩)⟩) ?_
              refine W_co [] [0] [] (s' := (pup_R false)) (by kernel_rfl) (W_ret ?_)
              exact ⟨.inl rfl, by cases h; rfl⟩
          · replace h := bif_f h g10
            refine W_reg hT (ftL_cons (k := 0) (f := 15) (F := (pInt_ct n r31)) (pInt_ok n r31) (fun _ _ => True.intro) ftL_nil) [(3, true), (8, true), (12, true), (17, false)] [] [0] [] (s' := ⟨[(0, .c (.s (.b false)))], [], []⟩) (by kernel_rfl) (allP_cons.2 ⟨g5, (allP_cons.2 ⟨g6, (allP_cons.2 ⟨g7, (allP_cons.2 ⟨g8, (allP_cons.2 ⟨g9, (allP_cons.2 ⟨g10, allP_nil⟩)⟩)⟩)⟩)⟩)⟩) ?_
            refine W_co [] [0] [] (s' := (pup_R false)) (by kernel_rfl) (W_ret ?_)
            exact ⟨.inl rfl, by cases h; rfl⟩
        · replace h := bif_f h g9
          refine W_reg hT (ftL_cons (k := 0) (f := 15) (F := (pInt_ct n r31)) (pInt_ok n r31) (fun _ _ => True.intro) ftL_nil) [(3, true), (8, true), (12, false)] [] [0] [] (s' := ⟨[(0, .c (.s (.b false)))], [], []⟩) (by kernel_rfl) (allP_cons.2 ⟨g5, (allP_cons.2 ⟨g6, (allP_cons.2 ⟨g7, (allP_cons.2 ⟨g8, (allP_cons.2 ⟨g9, allP_nil⟩)⟩)⟩)⟩)⟩) ?_
          refine W_co [] [0] [] (s' := (pup_R false)) (by kernel_rfl) (W_ret ?_)
          exact ⟨.inl rfl, by cases h; rfl⟩
      · replace h := bif_f h g8
        refine W_reg hT (ftL_cons (k := 0) (f := 15) (F := (pInt_ct n r31)) (pInt_ok n r31) (fun _ _ => True.intro) ftL_nil) [(3, true), (8, false)] [] [0] [] (s' := ⟨[(0, .c (.s (.b false)))], [], []⟩) (by kernel_rfl) (allP_cons.2 ⟨g5, (allP_cons.2 ⟨g6, (allP_cons.2 ⟨g7, (allP_cons.2 ⟨g8, allP_nil⟩)⟩)⟩)⟩) ?_
        refine W_co [] [0] [] (s' := (pup_R false)) (by kernel_rfl) (W_ret ?_)
        exact ⟨.inl rfl, by cases h; rfl⟩
    · replace h := bif_f h g6
      refine W_reg hT (ftL_cons (k := 0) (f := 15) (F := (pInt_ct n r31)) (pInt_ok n r31) (fun _ _ => True.intro) ftL_nil) [(3, false)] [] [0] [] (s' := ⟨[(0, .c (.s (.b false)))], [], []⟩) (by kernel_rfl) (allP_cons.2 ⟨g5, (allP_cons.2 ⟨g6, allP_nil⟩)⟩) ?_
      refine W_co [] [0] [] (s' := (pup_R false)) (by kernel_rfl) (W_ret ?_)
      exact ⟨.inl rfl, by cases h; rfl⟩
  · rintro e s' ⟨he, rfl⟩
    refine ⟨he, fun a' w' hr => ?_⟩
    exact retS_ok tabO_pr hr (rs := [.tmp 0]) rfl (objs := []) (by kernel_rfl)
end Go.Proofs.Ytliilihbnhdemaa
end
section
set_option linter.unusedVariables false
set_option linter.unusedSimpArgs false
namespace Go.Proofs.Ytliilihbnhdemaa
open Go.RowKit Go.Ch Go.Sx

def tabL_pc : List (TypeId × Ti) := [(2, ⟨.int .i64, 1, 8, true, some [.int .i64]⟩),
  (3, ⟨.int .i64, 1, 8, true, some [.int .i64]⟩),
  (28, ⟨.ifc, 1, 16, true, some [.ifc]⟩),
  (31, ⟨.int .i64, 1, 8, true, some [.int .i64]⟩),
  (34, ⟨.st [(3, 0), (3, 1), (3, 2), (3, 3), (3, 4), (3, 5)], 6, 48, true, some [.int .i64, .int .i64, .int .i64, .int .i64, .int .i64, .int .i64]⟩)]
def tab_pc : Tab := fun t => (tabL_pc).lookup t
theorem tabE_pc : (tabL_pc.map fun p => tiOf Try.prog p.1) = tabL_pc.map fun p => some p.2 := by kernel_rfl
theorem tabO_pc : TabOk Try.prog tab_pc := tab_of tabE_pc

def rLeap (n : Nat) (a0 : Int) : Option (Bool) :=
  gd ((400 : Int) ≠ 0) <|
  bif ((Int.tmod a0 400) == 0) then
    some true
  else
    gd ((4 : Int) ≠ 0) <|
    bif ((Int.tmod a0 4) == 0) then
      gd ((100 : Int) ≠ 0) <|
      some ((Int.tmod a0 100) != 0)
    else
      some false
def rDays (n : Nat) (a0 : Int) (a1 : Int) : Option (Int) :=
  bif (a1 == 2) then
    (rLeap n a0).bind fun r8 =>
    bif r8 then
      some 29
    else
      some 28
  else
    bif (a1 == 4) then
      some 30
    else
      bif (a1 == 6) then
        some 30
      else
        bif (a1 == 9) then
          some 30
        else
          bif (a1 == 11) then
            some 30
          else
            some 31
def rMay8 (n : Nat) (a0_0 : Int) (a0_1 : Int) (a0_2 : Int) (a0_3 : Int) (a0_4 : Int) (a0_5 : Int) : Option (Bool) :=
  bif (decide (a0_0 < (1 : Int))) then
    some false
  else
    bif (decide ((9999 : Int) < a0_0)) then
      some false
    else
      bif (decide (a0_1 < (1 : Int))) then
        some false
      else
        bif (decide ((12 : Int) < a0_1)) then
          some false
        else
          bif (decide (a0_2 < (1 : Int))) then
            some false
          else
            bif (decide (a0_3 < (0 : Int))) then
              some false
            else
              bif (decide (a0_4 < (0 : Int))) then
                some false
              else
                bif (decide (a0_5 < (0 : Int))) then
                  some false
                else
                  (rDays n a0_0 a0_1).bind fun r47 =>
                  bif (decide (a0_2 ≤ r47)) then
                    bif (decide (a0_3 < (24 : Int))) then
                      bif (decide (a0_4 < (60 : Int))) then
                        some (decide (a0_5 < (60 : Int)))
                      else
                        some false
                    else
                      some false
                  else
                    some false
def rLeap_R (r : Bool) : S := ⟨[(2, .c (.s (.b r)))], [], []⟩
def rLeap_ct (n : Nat) (r : Bool) : Ct := fun args H => match args with
  | [x0] => (match aI x0 with | some l0 => some ([rLeap n l0 = some r], shA H.length (.c (.s (.b r))), shH H.length []) | none => none)
  | _ => none
theorem rLeap_ok (n : Nat) (r : Bool) : FnOk Try.prog Tr 54 (rLeap_ct n r) := by
  refine ⟨fun args H g av objs hF hg ρ w vals hG hp ha => ?_, _, Try.func54, by kernel_rfl, by kernel_rfl⟩
  obtain ⟨x0, rfl⟩ : ∃ x0, args = [x0] := by
    unfold rLeap_ct at hF; split at hF
    · exact ⟨_, rfl⟩
    · cases hF
  cases e0 : aI x0 with
  | none => simp only [rLeap_ct, e0, reduceCtorEq] at hF
  | some l0 =>
  simp only [rLeap_ct, e0, Option.some.injEq, Prod.mk.injEq] at hF
  obtain ⟨rfl, rfl, rfl⟩ := hF
  obtain ⟨v0, vals, rfl, k0, ha⟩ := F2.inv ha
  obtain rfl := F2.inv0 ha
  have hI : ∀ w', Kp (noB (fun _ => undef)) w w' → Tr w' := fun _ hk => Tr.keep hk.below hG
  have h : rLeap n l0 = some r := hg
  have s0 := aI_ok e0 (k0)
  have hR0 := rel0 (gv := (fun _ => undef)) (n := 16) (w := w) (args := [.c (.s (.k .i64 l0))]) (H := []) (gl := []) (hpL (ps := []) F2.nil) (allRo_ok rfl) (F2.cons s0 F2.nil) GlR.nil (by simp)
  clear ha hp hg k0 e0
  refine calls_W Try.func54 rfl rfl hR0 (Q := fun e s => (e = .ret ∨ e = .normal) ∧ s = rLeap_R r) ?_ ?_
  · clear hR0
    unfold rLeap at h
    have hT := tabO_pc
    refine W_seq ?_
    refine W_reg hT ftL_nil [] [] [0] [] (s' := ⟨[(0, .c (.s (.k .i64 l0)))], [], []⟩) (by kernel_rfl) allP_nil ?_
    refine W_seq ?_
    obtain ⟨g1, h⟩ := gd_some h
    rcases Bool.eq_false_or_eq_true ((Int.tmod l0 400) == 0) with g2 | g2
    · replace h := bif_t h g2
      refine W_reg hT ftL_nil [(3, true)] [] [2] [] (s' := ⟨[(2, .c (.s (.b true)))], [], []⟩) (by kernel_rfl) (allP_cons.2 ⟨g1, (allP_cons.2 ⟨g2, allP_nil⟩)⟩) ?_
      refine W_co [] [2] [] (s' := (rLeap_R true)) (by kernel_rfl) (W_ret ?_)
      exact ⟨.inl rfl, by cases h; rfl⟩
    · replace h := bif_f h g2
      obtain ⟨g3, h⟩ := gd_some h
      rcases Bool.eq_false_or_eq_true ((Int.tmod l0 4) == 0) with g4 | g4
      · replace h := bif_t h g4
        obtain ⟨g5, h⟩ := gd_some h
        refine W_reg hT ftL_nil [(3, false), (7, true)] [] [2] [] (s' := ⟨[(2, .c (.s (.b ((Int.tmod l0 100) != 0))))], [], []⟩) (by kernel_rfl) (allP_cons.2 ⟨g1, (allP_cons.2 ⟨g2, (allP_cons.2 ⟨g3, (allP_cons.2 ⟨g4, (allP_cons.2 ⟨g5, allP_nil⟩)⟩)⟩)⟩)⟩) ?_
        refine W_co [] [2] [] (s' := (rLeap_R ((Int.tmod l0 100) != 0))) (by kernel_rfl) (W_ret ?_)
        exact ⟨.inl rfl, by cases h; rfl⟩
      · replace h := bif_f h g4
        refine W_reg hT ftL_nil [(3, false), (7, false)] [] [2] [] (s' := ⟨[(2, .c (.s (.b false)))], [], []⟩) (by kernel_rfl) (allP_cons.2 ⟨g1, (allP_cons.2 ⟨g2, (allP_cons.2 ⟨g3, (allP_cons.2 ⟨g4, allP_nil⟩)⟩)⟩)⟩) ?_
        refine W_co [] [2] [] (s' := (rLeap_R false)) (by kernel_rfl) (W_ret ?_)
        exact ⟨.inl rfl, by cases h; rfl⟩
  · rintro e s' ⟨he, rfl⟩
    refine ⟨he, fun a' w' hr => ?_⟩
    exact retS_ok tabO_pc hr (rs := [.tmp 2]) rfl (objs := []) (by kernel_rfl)
def rDays_R (r : Int) : S := ⟨[(4, .c (.s (.k .i64 r)))], [], []⟩
def rDays_ct (n : Nat) (r : Int) : Ct := fun args H => match args with
  | [x0, x1] => (match aI x0 with | some l0 => (match aI x1 with | some l1 => some ([rDays n l0 l1 = some r], shA H.length (.c (.s (.k .i64 r))), shH H.length []) | none => none) | none => none)
  | _ => none
theorem rDays_ok (n : Nat) (r : Int) : FnOk Try.prog Tr 53 (rDays_ct n r) := by
  refine ⟨fun args H g av objs hF hg ρ w vals hG hp ha => ?_, _, Try.func53, by kernel_rfl, by kernel_rfl⟩
  obtain ⟨x0, x1, rfl⟩ : ∃ x0 x1, args = [x0, x1] := by
    unfold rDays_ct at hF; split at hF
    · exact ⟨_, _, rfl⟩
    · cases hF
  cases e0 : aI x0 with
  | none => simp only [rDays_ct, e0, reduceCtorEq] at hF
  | some l0 =>
  cases e1 : aI x1 with
  | none => simp only [rDays_ct, e0, e1, reduceCtorEq] at hF
  | some l1 =>
  simp only [rDays_ct, e0, e1, Option.some.injEq, Prod.mk.injEq] at hF
  obtain ⟨rfl, rfl, rfl⟩ := hF
  obtain ⟨v0, vals, rfl, k0, ha⟩ := F2.inv ha
  obtain ⟨v1, vals, rfl, k1, ha⟩ := F2.inv ha
  obtain rfl := F2.inv0 ha
  have hI : ∀ w', Kp (noB (fun _ => undef)) w w' → Tr w' := fun _ hk => Tr.keep hk.below hG
  have h : rDays n l0 l1 = some r := hg
  have s0 := aI_ok e0 (k0)
  have s1 := aI_ok e1 (k1)
  have hR0 := rel0 (gv := (fun _ => undef)) (n := 23) (w := w) (args := [.c (.s (.k .i64 l0)), .c (.s (.k .i64 l1))]) (H := []) (gl := []) (hpL (ps := []) F2.nil) (allRo_ok rfl) (F2.cons s0 (F2.cons s1 F2.nil)) GlR.nil (by simp)
  clear ha hp hg k0 k1 e0 e1
  refine calls_W Try.func53 rfl rfl hR0 (Q := fun e s => (e = .ret ∨ e = .normal) ∧ s = rDays_R r) ?_ ?_
  · clear hR0
    unfold rDays at h
    have hT := tabO_pc
    refine W_seq ?_
    refine W_reg hT ftL_nil [] [] [0, 1] [] (s' := ⟨[(0, .c (.s (.k .i64 l0))), (1, .c (.s (.k .i64 l1)))], [], []⟩) (by kernel_rfl) allP_nil ?_
    refine W_seq ?_
    refine W_seq ?_
    refine W_reg hT ftL_nil [] [] [0, 1, 6] [] (s' := ⟨[(0, .c (.s (.k .i64 l0))), (1, .c (.s (.k .i64 l1))), (6, .c (.s (.b (l1 == 2))))], [], []⟩) (by kernel_rfl) allP_nil ?_
    refine W_cond (b := (l1 == 2)) (by kernel_rfl) (fun g7 => ?_) (fun g7 => ?_)
    · replace h := bif_t h g7
      refine W_seq ?_
      refine W_seq ?_
      obtain ⟨r8, g1, h⟩ := bind_some' h
      refine W_reg hT (ftL_cons (k := 1) (f := 54) (F := (rLeap_ct n r8)) (rLeap_ok n r8) (fun _ _ => True.intro) ftL_nil) [] [] [8] [] (s' := ⟨[(8, .c (.s (.b r8)))], [], []⟩) (by kernel_rfl) (allP_cons.2 ⟨g1, allP_nil⟩) ?_
      refine W_cond (b := r8) (by kernel_rfl) (fun g2 => ?_) (fun g2 => ?_)
      · replace h := bif_t h g2
        refine W_seq ?_
        refine W_reg hT ftL_nil [] [] [4] [] (s' := ⟨[(4, .c (.s (.k .i64 29)))], [], []⟩) (by kernel_rfl) allP_nil ?_
        refine W_co [] [4] [] (s' := (rDays_R 29)) (by kernel_rfl) (W_ret ?_)
        exact ⟨.inl rfl, by cases h; rfl⟩
      · replace h := bif_f h g2
        refine W_co [] [] [] (s' := ⟨[], [], []⟩) (by kernel_rfl) (W_skip ?_)
        refine W_seq ?_
        refine W_reg hT ftL_nil [] [] [4] [] (s' := ⟨[(4, .c (.s (.k .i64 28)))], [], []⟩) (by kernel_rfl) allP_nil ?_
        refine W_co [] [4] [] (s' := (rDays_R 28)) (by kernel_rfl) (W_ret ?_)
        exact ⟨.inl rfl, by cases h; rfl⟩
    · replace h := bif_f h g7
      refine W_co [] [1] [] (s' := ⟨[(1, .c (.s (.k .i64 l1)))], [], []⟩) (by kernel_rfl) (W_skip ?_)
      refine W_seq ?_
      refine W_seq ?_
      rcases Bool.eq_false_or_eq_true (l1 == 4) with g3 | g3
      · replace h := bif_t h g3
        refine W_reg hT ftL_nil [(2, true)] [] [22] [] (s' := ⟨[(22, .c (.s (.b true)))], [], []⟩) (by kernel_rfl) (allP_cons.2 ⟨g3, allP_nil⟩) ?_
        refine W_cond (b := true) (by kernel_rfl) (fun _ => ?_) (fun hb => by cases hb)
        refine W_seq ?_
        refine W_reg hT ftL_nil [] [] [4] [] (s' := ⟨[(4, .c (.s (.k .i64 30)))], [], []⟩) (by kernel_rfl) allP_nil ?_
        refine W_co [] [4] [] (s' := (rDays_R 30)) (by kernel_rfl) (W_ret ?_)
        exact ⟨.inl rfl, by cases h; rfl⟩
      · replace h := bif_f h g3
        rcases Bool.eq_false_or_eq_true (l1 == 6) with g4 | g4
        · replace h := bif_t h g4
          refine W_reg hT ftL_nil [(2, false), (6, true)] [] [22] [] (s' := ⟨[(22, .c (.s (.b true)))], [], []⟩) (by kernel_rfl) (allP_cons.2 ⟨g3, (allP_cons.2 ⟨g4, allP_nil⟩)⟩) ?_
          refine W_cond (b := true) (by kernel_rfl) (fun _ => ?_) (fun hb => by cases hb)
          refine W_seq ?_
          refine W_reg hT ftL_nil [] [] [4] [] (s' := ⟨[(4, .c (.s (.k .i64 30)))], [], []⟩) (by kernel_rfl) allP_nil ?_
          refine W_co [] [4] [] (s' := (rDays_R 30)) (by kernel_rfl) (W_ret ?_)
          exact ⟨.inl rfl, by cases h; rfl⟩
        · replace h := bif_f h g4
          rcases Bool.eq_false_or_eq_true (l1 == 9) with g5 | g5
          · replace h := bif_t h g5
            refine W_reg hT ftL_nil [(2, false), (6, false), (10, true)] [] [22] [] (s' := ⟨[(22, .c (.s (.b true)))], [], []⟩) (by kernel_rfl) (allP_cons.2 ⟨g3, (allP_cons.2 ⟨g4, (allP_cons.2 ⟨g5, allP_nil⟩)⟩)⟩) ?_
            refine W_cond (b := true) (by kernel_rfl) (fun _ => ?_) (fun hb => by cases hb)
            refine W_seq ?_
            refine W_reg hT ftL_nil [] [] [4] [] (s' := ⟨[(4, .c (.s (.k .i64 30)))], [], []⟩) (by kernel_rfl) allP_nil ?_
            refine W_co [] [4] [] (s' := (rDays_R 30)) (by kernel_rfl) (W_ret ?_)
            exact ⟨.inl rfl, by cases h; rfl⟩
          · replace h := bif_f h g5
            refine W_reg hT ftL_nil [(2, false), (6, false), (10, false)] [] [22] [] (s' := ⟨[(22, .c (.s (.b (l1 == 11))))], [], []⟩) (by kernel_rfl) (allP_cons.2 ⟨g3, (allP_cons.2 ⟨g4, (allP_cons.2 ⟨g5, allP_nil⟩)⟩)⟩) ?_
            refine W_cond (b := (l1 == 11)) (by kernel_rfl) (fun g6 => ?_) (fun g6 => ?_)
            · replace h := bif_t h g6
              refine W_seq ?_
              refine W_reg hT ftL_nil [] [] [4] [] (s' := ⟨[(4, .c (.s (.k .i64 30)))], [], []⟩) (by kernel_rfl) allP_nil ?_
              refine W_co [] [4] [] (s' := (rDays_R 30)) (by kernel_rfl) (W_ret ?_)
              exact ⟨.inl rfl, by cases h; rfl⟩
            · replace h := bif_f h g6
              refine W_co [] [] [] (s' := ⟨[], [], []⟩) (by kernel_rfl) (W_skip ?_)
              refine W_seq ?_
              refine W_reg hT ftL_nil [] [] [4] [] (s' := ⟨[(4, .c (.s (.k .i64 31)))], [], []⟩) (by kernel_rfl) allP_nil ?_
              refine W_co [] [4] [] (s' := (rDays_R 31)) (by kernel_rfl) (W_ret ?_)
              exact ⟨.inl rfl, by cases h; rfl⟩
  · rintro e s' ⟨he, rfl⟩
    refine ⟨he, fun a' w' hr => ?_⟩
    exact retS_ok tabO_pc hr (rs := [.tmp 4]) rfl (objs := []) (by kernel_rfl)
def rMay8_R (r : Bool) : S := ⟨[(2, .c (.s (.b r)))], [], []⟩
def rMay8_ct (n : Nat) (r : Bool) : Ct := fun args H => match args with
  | [x0] => (match aGc 6 x0 with | some y0 => (match aI (.c (y0.getD 0 .junk)) with | some l0_0 => (match aI (.c (y0.getD 1 .junk)) with | some l0_1 => (match aI (.c (y0.getD 2 .junk)) with | some l0_2 => (match aI (.c (y0.getD 3 .junk)) with | some l0_3 => (match aI (.c (y0.getD 4 .junk)) with | some l0_4 => (match aI (.c (y0.getD 5 .junk)) with | some l0_5 => some ([rMay8 n l0_0 l0_1 l0_2 l0_3 l0_4 l0_5 = some r], shA H.length (.c (.s (.b r))), shH H.length []) | none => none) | none => none) | none => none) | none => none) | none => none) | none => none) | none => none)
  | _ => none
theorem rMay8_ok (n : Nat) (r : Bool) : FnOk Try.prog Tr 21 (rMay8_ct n r) := by
  refine ⟨fun args H g av objs hF hg ρ w vals hG hp ha => ?_, _, Try.func21, by kernel_rfl, by kernel_rfl⟩
  obtain ⟨x0, rfl⟩ : ∃ x0, args = [x0] := by
    unfold rMay8_ct at hF; split at hF
    · exact ⟨_, rfl⟩
    · cases hF
  cases e0 : aGc 6 x0 with
  | none => simp only [rMay8_ct, e0, reduceCtorEq] at hF
  | some y0 =>
  cases e1 : aI (.c (y0.getD 0 .junk)) with
  | none => simp only [rMay8_ct, e0, e1, reduceCtorEq] at hF
  | some l0_0 =>
  cases e2 : aI (.c (y0.getD 1 .junk)) with
  | none => simp only [rMay8_ct, e0, e1, e2, reduceCtorEq] at hF
  | some l0_1 =>
  cases e3 : aI (.c (y0.getD 2 .junk)) with
  | none => simp only [rMay8_ct, e0, e1, e2, e3, reduceCtorEq] at hF
  | some l0_2 =>
  cases e4 : aI (.c (y0.getD 3 .junk)) with
  | none => simp only [rMay8_ct, e0, e1, e2, e3, e4, reduceCtorEq] at hF
  | some l0_3 =>
  cases e5 : aI (.c (y0.getD 4 .junk)) with
  | none => simp only [rMay8_ct, e0, e1, e2, e3, e4, e5, reduceCtorEq] at hF
  | some l0_4 =>
  cases e6 : aI (.c (y0.getD 5 .junk)) with
  | none => simp only [rMay8_ct, e0, e1, e2, e3, e4, e5, e6, reduceCtorEq] at hF
  | some l0_5 =>
  simp only [rMay8_ct, e0, e1, e2, e3, e4, e5, e6, Option.some.injEq, Prod.mk.injEq] at hF
  obtain ⟨rfl, rfl, rfl⟩ := hF
  obtain ⟨v0, vals, rfl, k0, ha⟩ := F2.inv ha
  obtain rfl := F2.inv0 ha
  have hI : ∀ w', Kp (noB (fun _ => undef)) w w' → Tr w' := fun _ hk => Tr.keep hk.below hG
  have h : rMay8 n l0_0 l0_1 l0_2 l0_3 l0_4 l0_5 = some r := hg
  obtain ⟨vs0, hn0, rfl, hy0⟩ := aGc_ok e0 k0
  have s0_0 := aI_ok e1 (hy0 0 (by decide))
  have s0_1 := aI_ok e2 (hy0 1 (by decide))
  have s0_2 := aI_ok e3 (hy0 2 (by decide))
  have s0_3 := aI_ok e4 (hy0 3 (by decide))
  have s0_4 := aI_ok e5 (hy0 4 (by decide))
  have s0_5 := aI_ok e6 (hy0 5 (by decide))
  have hR0 := rel0 (gv := (fun _ => undef)) (n := 64) (w := w) (args := [.g 6 (.c [.s (.k .i64 l0_0), .s (.k .i64 l0_1), .s (.k .i64 l0_2), .s (.k .i64 l0_3), .s (.k .i64 l0_4), .s (.k .i64 l0_5)])]) (H := []) (gl := []) (hpL (ps := []) F2.nil) (allRo_ok rfl) (F2.cons ⟨vs0, (by rw [lstE undef hn0]; exact (F2.cons s0_0 (F2.cons s0_1 (F2.cons s0_2 (F2.cons s0_3 (F2.cons s0_4 (F2.cons s0_5 F2.nil))))))), hn0, rfl⟩ F2.nil) GlR.nil (by simp)
  clear ha hp hg k0 e0 e1 e2 e3 e4 e5 e6
  refine calls_W Try.func21 rfl rfl hR0 (Q := fun e s => (e = .ret ∨ e = .normal) ∧ s = rMay8_R r) ?_ ?_
  · clear hR0
    unfold rMay8 at h
    have hT := tabO_pc
    refine W_seq ?_
    refine W_reg hT ftL_nil [] [] [1] [0] (s' := ⟨[(1, .c (.pt 0 0))], [], [⟨.blk, 34, 1, 6, .c [.s (.k .i64 l0_0), .s (.k .i64 l0_1), .s (.k .i64 l0_2), .s (.k .i64 l0_3), .s (.k .i64 l0_4), .s (.k .i64 l0_5)]⟩]⟩) (by kernel_rfl) allP_nil ?_
    refine W_seq ?_
    refine W_seq ?_
    rcases Bool.eq_false_or_eq_true (decide (l0_0 < (1 : Int))) with g1 | g1
    · replace h := bif_t h g1
      refine W_reg hT ftL_nil [(3, true)] [] [1, 40] [0] (s' := ⟨[(1, .c (.pt 0 0)), (40, .c (.s (.b true)))], [], [⟨.blk, 34, 1, 6, .c [.s (.k .i64 l0_0), .s (.k .i64 l0_1), .s (.k .i64 l0_2), .s (.k .i64 l0_3), .s (.k .i64 l0_4), .s (.k .i64 l0_5)]⟩]⟩) (by kernel_rfl) (allP_cons.2 ⟨g1, allP_nil⟩) ?_
      refine W_cond (b := true) (by kernel_rfl) (fun _ => ?_) (fun hb => by cases hb)
      refine W_seq ?_
      refine W_reg hT ftL_nil [] [] [2] [] (s' := ⟨[(2, .c (.s (.b false)))], [], []⟩) (by kernel_rfl) allP_nil ?_
      refine W_co [] [2] [] (s' := (rMay8_R false)) (by kernel_rfl) (W_ret ?_)
      exact ⟨.inl rfl, by cases h; rfl⟩
    · replace h := bif_f h g1
      rcases Bool.eq_false_or_eq_true (decide ((9999 : Int) < l0_0)) with g2 | g2
      · replace h := bif_t h g2
        refine W_reg hT ftL_nil [(3, false), (8, true)] [] [1, 40] [0] (s' := ⟨[(1, .c (.pt 0 0)), (40, .c (.s (.b true)))], [], [⟨.blk, 34, 1, 6, .c [.s (.k .i64 l0_0), .s (.k .i64 l0_1), .s (.k .i64 l0_2), .s (.k .i64 l0_3), .s (.k .i64 l0_4), .s (.k .i64 l0_5)]⟩]⟩) (by kernel_rfl) (allP_cons.2 ⟨g1, (allP_cons.2 ⟨g2, allP_nil⟩)⟩) ?_
        refine W_cond (b := true) (by kernel_rfl) (fun _ => ?_) (fun hb => by cases hb)
        refine W_seq ?_
        refine W_reg hT ftL_nil [] [] [2] [] (s' := ⟨[(2, .c (.s (.b false)))], [], []⟩) (by kernel_rfl) allP_nil ?_
        refine W_co [] [2] [] (s' := (rMay8_R false)) (by kernel_rfl) (W_ret ?_)
        exact ⟨.inl rfl, by cases h; rfl⟩
      · replace h := bif_f h g2
        rcases Bool.eq_false_or_eq_true (decide (l0_1 < (1 : Int))) with g3 | g3
        · replace h := bif_t h g3
          refine W_reg hT ftL_nil [(3, false), (8, false), (13, true)] [] [1, 40] [0] (s' := ⟨[(1, .c (.pt 0 0)), (40, .c (.s (.b true)))], [], [⟨.blk, 34, 1, 6, .c [.s (.k .i64 l0_0), .s (.k .i64 l0_1), .s (.k .i64 l0_2), .s (.k .i64 l0_3), .s (.k .i64 l0_4), .s (.k .i64 l0_5)]⟩]⟩) (by kernel_rfl) (allP_cons.2 ⟨g1, (allP_cons.2 ⟨g2, (allP_cons.2 ⟨g3, allP_nil⟩)⟩)⟩) ?_
          refine W_cond (b := true) (by kernel_rfl) (fun _ => ?_) (fun hb => by cases hb)
          refine W_seq ?_
          refine W_reg hT ftL_nil [] [] [2] [] (s' := ⟨[(2, .c (.s (.b false)))], [], []⟩) (by kernel_rfl) allP_nil ?_
          refine W_co [] [2] [] (s' := (rMay8_R false)) (by kernel_rfl) (W_ret ?_)
          exact ⟨.inl rfl, by cases h; rfl⟩
        · replace h := bif_f h g3
          rcases Bool.eq_false_or_eq_true (decide ((12 : Int) < l0_1)) with g4 | g4
          · replace h := bif_t h g4
            refine W_reg hT ftL_nil [(3, false), (8, false), (13, false), (18, true)] [] [1, 40] [0] (s' := ⟨[(1, .c (.pt 0 0)), (40, .c (.s (.b true)))], [], [⟨.blk, 34, 1, 6, .c [.s (.k .i64 l0_0), .s (.k .i64 l0_1), .s (.k .i64 l0_2), .s (.k .i64 l0_3), .s (.k .i64 l0_4), .s (.k .i64 l0_5)]⟩]⟩) (by kernel_rfl) (allP_cons.2 ⟨g1, (allP_cons.2 ⟨g2, (allP_cons.2 ⟨g3, (allP_cons.2 ⟨g4, allP_nil⟩)⟩)⟩)⟩) ?_
            refine W_cond (b := true) (by kernel_rfl) (fun _ => ?_) (fun hb => by cases hb)
            refine W_seq ?_
            refine W_reg hT ftL_nil [] [] [2] [] (s' := ⟨[(2, .c (.s (.b false)))], [], []⟩) (by kernel_rfl) allP_nil ?_
            refine W_co [] [2] [] (s' := (rMay8_R false)) (by kernel_rfl) (W_ret ?_)
            exact ⟨.inl rfl, by cases h; rfl⟩
          · replace h := bif_f h g4
            rcases Bool.eq_false_or_eq_true (decide (l0_2 < (1 : Int))) with g5 | g5
            · replace h := bif_t h g5
              refine W_reg hT ftL_nil [(3, false), (8, false), (13, false), (18, false), (23, true)] [] [1, 40] [0] (s' := ⟨[(1, .c (.pt 0 0)), (40, .c (.s (.b true)))], [], [⟨.blk, 34, 1, 6, .c [.s (.k .i64 l0_0), .s (.k .i64 l0_1), .s (.k .i64 l0_2), .s (.k .i64 l0_3), .s (.k .i64 l0_4), .s (.k .i64 l0_5)]⟩]⟩) (by kernel_rfl) (allP_cons.2 ⟨g1, (allP_cons.2 ⟨g2, (allP_cons.2 ⟨g3, (allP_cons.2 ⟨g4, (allP_cons.2 ⟨g5, allP_nil⟩)⟩)⟩)⟩)⟩) ?_
              refine W_cond (b := true) (by kernel_rfl) (fun _ => ?_) (fun hb => by cases hb)
              refine W_seq ?_
              refine W_reg hT ftL_nil [] [] [2] [] (s' := ⟨[(2, .c (.s (.b false)))], [], []⟩) (by kernel_rfl) allP_nil ?_
              refine W_co [] [2] [] (s' := (rMay8_R false)) (by kernel_rfl) (W_ret ?_)
              exact ⟨.inl rfl, by cases h; rfl⟩
            · replace h := bif_f h g5
              rcases Bool.eq_false_or_eq_true (decide (l0_3 < (0 : Int))) with g6 | g6
              · replace h := bif_t h g6
                refine W_reg hT ftL_nil [(3, false), (8, false), (13, false), (18, false), (23, false), (28, true)] [] [1, 40] [0] (s' := ⟨[(1, .c (.pt 0 0)), (40, .c (.s (.b true)))], [], [⟨.blk, 34, 1, 6, .c [.s (.k .i64 l0_0), .s (.k .i64 l0_1), .s (.k .i64 l0_2), .s (.k .i64 l0_3), .s (.k .i64 l0_4), .s (.k .i64 l0_5)]⟩]⟩) (by kernel_rfl) (allP_cons.2 ⟨g1, (allP_cons.2 ⟨g2, (allP_cons.2 ⟨g3, (allP_cons.2 ⟨g4, (allP_cons.2 ⟨g5, (allP_cons.2 ⟨g6, allP_nil⟩)⟩)⟩)⟩)⟩)⟩) ?_
                refine W_cond (b := true) (by kernel_rfl) (fun _ => ?_) (fun hb => by cases hb)
                refine W_seq ?_
                refine W_reg hT ftL_nil [] [] [2] [] (s' := ⟨[(2, .c (.s (.b false)))], [], []⟩) (by kernel_rfl) allP_nil ?_
                refine W_co [] [2] [] (s' := (rMay8_R false)) (by kernel_rfl) (W_ret ?_)
                exact ⟨.inl rfl, by cases h; rfl⟩
              · replace h := bif_f h g6
                rcases Bool.eq_false_or_eq_true (decide (l0_4 < (0 : Int))) with g7 | g7
                · replace h := bif_t h g7
                  refine W_reg hT ftL_nil [(3, false), (8, false), (13, false), (18, false), (23, false), (28, false), (33, true)] [] [1, 40] [0] (s' := ⟨[(1, .c (.pt 0 0)), (40, .c (.s (.b true)))], [], [⟨.blk, 34, 1, 6, .c [.s (.k .i64 l0_0), .s (.k .i64 l0_1), .s (.k .i64 l0_2), .s (.k .i64 l0_3), .s (.k .i64 l0_4), .s (.k .i64 l0_5)]⟩]⟩) (by kernel_rfl) (allP_cons.2 ⟨g1, (allP_cons.2 ⟨g2, (allP_cons.2 ⟨g3, (allP_cons.2 ⟨g4, (allP_cons.2 ⟨g5, (allP_cons.2 ⟨g6, (allP_cons.2 ⟨g7, allP_nil⟩)⟩)⟩)⟩)⟩)⟩)⟩) ?_
                  refine W_cond (b := true) (by kernel_rfl) (fun _ => ?_) (fun hb => by cases hb)
                  refine W_seq ?_
                  refine W_reg hT ftL_nil [] [] [2] [] (s' := ⟨[(2, .c (.s (.b false)))], [], []⟩) (by kernel_rfl) allP_nil ?_
                  refine W_co [] [2] [] (s' := (rMay8_R false)) (by kernel_rfl) (W_ret ?_)
                  exact ⟨.inl rfl, by cases h; rfl⟩
                · replace h := bif_f h g7
                  refine W_reg hT ftL_nil [(3, false), (8, false), (13, false), (18, false), (23, false), (28, false), (33, false)] [] [1, 40] [0] (s' := ⟨[(1, .c (.pt 0 0)), (40, .c (.s (.b (decide (l0_5 < (0 : Int))))))], [], [⟨.blk, 34, 1, 6, .c [.s (.k .i64 l0_0), .s (.k .i64 l0_1), .s (.k .i64 l0_2), .s (.k .i64 l0_3), .s (.k .i64 l0_4), .s (.k .i64 l0_5)]⟩]⟩) (by kernel_rfl) (allP_cons.2 ⟨g1, (allP_cons.2 ⟨g2, (allP_cons.2 ⟨g3, (allP_cons.2 ⟨g4, (allP_cons.2 ⟨g5, (allP_cons.2 ⟨g6, (allP_cons.2 ⟨g7, allP_nil⟩)⟩)⟩)⟩)⟩)⟩)⟩) ?_
                  refine W_cond (b := (decide (l0_5 < (0 : Int)))) (by kernel_rfl) (fun g12 => ?_) (fun g12 => ?_)
                  · replace h := bif_t h g12
                    refine W_seq ?_
                    refine W_reg hT ftL_nil [] [] [2] [] (s' := ⟨[(2, .c (.s (.b false)))], [], []⟩) (by kernel_rfl) allP_nil ?_
                    refine W_co [] [2] [] (s' := (rMay8_R false)) (by kernel_rfl) (W_ret ?_)
                    exact ⟨.inl rfl, by cases h; rfl⟩
                  · replace h := bif_f h g12
                    refine W_co [] [1] [0] (s' := ⟨[(1, .c (.pt 0 0))], [], [⟨.blk, 34, 1, 6, .c [.s (.k .i64 l0_0), .s (.k .i64 l0_1), .s (.k .i64 l0_2), .s (.k .i64 l0_3), .s (.k .i64 l0_4), .s (.k .i64 l0_5)]⟩]⟩) (by kernel_rfl) (W_skip ?_)
                    refine W_seq ?_
                    obtain ⟨r47, g8, h⟩ := bind_some' h
                    rcases Bool.eq_false_or_eq_true (decide (l0_2 ≤ r47)) with g9 | g9
                    · replace h := bif_t h g9
                      rcases Bool.eq_false_or_eq_true (decide (l0_3 < (24 : Int))) with g10 | g10
                      · replace h := bif_t h g10
                        rcases Bool.eq_false_or_eq_true (decide (l0_4 < (60 : Int))) with g11 | g11
                        · replace h := bif_t h g11
                          refine W_regD hT (ftL_cons (k := 6) (f := 53) (F := (rDays_ct n r47)) (rDays_ok n r47) (fun _ _ => True.intro) ftL_nil) (by kernel_rfl) 21 [(8, true), (13, true), (18, true)] [(59, false), (61, false)] [] [2] [] (s' := ⟨[(2, .c (.s (.b (decide (l0_5 < (60 : Int))))))], [], []⟩) (by kernel_rfl) (by kernel_rfl) (allP_cons.2 ⟨g8, (allP_cons.2 ⟨g9, (allP_cons.2 ⟨g10, (allP_cons.2 ⟨g11, allP_nil⟩)⟩)⟩)⟩) ?_
                          refine W_co [] [2] [] (s' := (rMay8_R (decide (l0_5 < (60 : Int))))) (by kernel_rfl) (W_ret ?_)
                          exact ⟨.inl rfl, by cases h; rfl⟩
                        · replace h := bif_f h g11
                          refine W_regD hT (ftL_cons (k := 6) (f := 53) (F := (rDays_ct n r47)) (rDays_ok n r47) (fun _ _ => True.intro) ftL_nil) (by kernel_rfl) 21 [(8, true), (13, true), (18, false)] [(59, false), (61, false)] [] [2] [] (s' := ⟨[(2, .c (.s (.b false)))], [], []⟩) (by kernel_rfl) (by kernel_rfl) (allP_cons.2 ⟨g8, (allP_cons.2 ⟨g9, (allP_cons.2 ⟨g10, (allP_cons.2 ⟨g11, allP_nil⟩)⟩)⟩)⟩) ?_
                          refine W_co [] [2] [] (s' := (rMay8_R false)) (by kernel_rfl) (W_ret ?_)
                          exact ⟨.inl rfl, by cases h; rfl⟩
                      · replace h := bif_f h g10
                        refine W_regD hT (ftL_cons (k := 6) (f := 53) (F := (rDays_ct n r47)) (rDays_ok n r47) (fun _ _ => True.intro) ftL_nil) (by kernel_rfl) 21 [(8, true), (13, false)] [(59, false), (61, false)] [] [2] [] (s' := ⟨[(2, .c (.s (.b false)))], [], []⟩) (by kernel_rfl) (by kernel_rfl) (allP_cons.2 ⟨g8, (allP_cons.2 ⟨g9, (allP_cons.2 ⟨g10, allP_nil⟩)⟩)⟩) ?_
                        refine W_co [] [2] [] (s' := (rMay8_R false)) (by kernel_rfl) (W_ret ?_)
                        exact ⟨.inl rfl, by cases h; rfl⟩
                    · replace h := bif_f h g9
                      refine W_regD hT (ftL_cons (k := 6) (f := 53) (F := (rDays_ct n r47)) (rDays_ok n r47) (fun _ _ => True.intro) ftL_nil) (by kernel_rfl) 21 [(8, false)] [(59, false), (61, false)] [] [2] [] (s' := ⟨[(2, .c (.s (.b false)))], [], []⟩) (by kernel_rfl) (by kernel_rfl) (allP_cons.2 ⟨g8, (allP_cons.2 ⟨g9, allP_nil⟩)⟩) ?_
                      refine W_co [] [2] [] (s' := (rMay8_R false)) (by kernel_rfl) (W_ret ?_)
                      exact ⟨.inl rfl, by cases h; rfl⟩
  · rintro e s' ⟨he, rfl⟩
    refine ⟨he, fun a' w' hr => ?_⟩
    exact retS_ok tabO_pc hr (rs := [.tmp 2]) rfl (objs := []) (by kernel_rfl)
end Go.Proofs.Ytliilihbnhdemaa
end
