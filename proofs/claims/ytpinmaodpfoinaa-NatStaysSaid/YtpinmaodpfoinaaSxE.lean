import Derived.Test.YtpinmaodpfoinaaSxD
set_option linter.unusedVariables false
set_option linter.unusedSimpArgs false
namespace Go.Sx
open Go.RowKit Go.Ch

/-! ### conversions -/
def Sc.toI : Sc → Int
  | .k _ n => n
  | .u8 x => (x.toNat : Int)
  | .u32 x => (x.toNat : Int)
  | .u64 x => (x.toNat : Int)
  | _ => 0
def cvI (k : IntKind) (x : Sc) : Option (List Prop × Sc) := match k with
  | .u8 => (match x with | .k _ n => some ([], .u8 (UInt8.ofInt n)) | .u8 a => some ([], .u8 a) | .u32 a => some ([], .u8 a.toUInt8) | .u64 a => some ([], .u8 a.toUInt8) | _ => none)
  | .u32 => (match x with | .k _ n => some ([], .u32 (UInt32.ofInt n)) | .u8 a => some ([], .u32 a.toUInt32) | .u32 a => some ([], .u32 a) | .u64 a => some ([], .u32 a.toUInt32) | _ => none)
  | .u64 => (match x with | .k _ n => some ([], .u64 (UInt64.ofInt n)) | .u8 a => some ([], .u64 a.toUInt64) | .u32 a => some ([], .u64 a.toUInt64) | .u64 a => some ([], .u64 a) | _ => none)
  | .i64 => (match x with | .k _ n => some ([okI .i64 n], .k .i64 n) | .u8 a => some ([], .k .i64 (a.toNat : Int)) | .u32 a => some ([], .k .i64 (a.toNat : Int)) | .u64 a => some ([], .k .i64 (IntKind.i64.wrap (a.toNat : Int))) | _ => none)
  | k => (match x with | .k _ n => some ([], .k k (k.wrap n)) | .u8 a => some ([], .k k (k.wrap (a.toNat : Int))) | .u32 a => some ([], .k k (k.wrap (a.toNat : Int))) | .u64 a => some ([], .k k (k.wrap (a.toNat : Int))) | _ => none)
def convx (T : Tab) (s t : TypeId) (x : Sc) : Option (List Prop × Sc) := match T s, T t with
  | some ts, some tt => (match tt.d with
    | .int k => cvI k x
    | .str => (match ts.d, x with | .str, .str l => some ([], .str l) | _, _ => none)
    | _ => none)
  | _, _ => none
section
variable {P : Program} {T : Tab}
theorem ofInt8V (n : Int) : bU (UInt8.ofInt n) = .int .u8 (IntKind.u8.wrap n) := by
  unfold bU
  rw [wrap8z]
  congr 1
  rw [show UInt8.ofInt n = UInt8.ofNat (n % 256).toNat from rfl]
  simp
  omega
theorem ofInt32V (n : Int) : w32 (UInt32.ofInt n) = .int .u32 (IntKind.u32.wrap n) := by
  unfold w32
  rw [wrap32z]
  congr 1
  rw [show UInt32.ofInt n = UInt32.ofNat (n % 4294967296).toNat from rfl]
  simp
  omega
theorem ofInt64V (n : Int) : w64 (UInt64.ofInt n) = .int .u64 (IntKind.u64.wrap n) := by
  unfold w64
  rw [wrap64z]
  congr 1
  rw [show UInt64.ofInt n = UInt64.ofNat (n % 18446744073709551616).toNat from rfl]
  simp
  omega
theorem cvI_ok {k : IntKind} {x z : Sc} {g : List Prop} (h : cvI k x = some (g, z)) (hg : allP g) : ∃ kd n, x.val = .int kd n ∧ z.val = .int k (k.wrap n) := by
  cases x with
  | k kd n =>
    refine ⟨kd, n, rfl, ?_⟩
    cases k <;> simp only [cvI] at h <;> injection h with h <;> simp only [Prod.mk.injEq] at h <;> obtain ⟨rfl, rfl⟩ := h
    case u8 => exact ofInt8V n
    case u32 => exact ofInt32V n
    case u64 => exact ofInt64V n
    case i64 => simp only [allP, okI] at hg; simp only [Sc.val, hg]
    all_goals rfl
  | u8 a =>
    refine ⟨.u8, a.toNat, rfl, ?_⟩
    have := lt8 a
    cases k <;> simp only [cvI] at h <;> injection h with h <;> simp only [Prod.mk.injEq] at h <;> obtain ⟨rfl, rfl⟩ := h
    case u8 => simp only [Sc.val, bU, wrap8n]; congr 2; omega
    case u32 => simp only [Sc.val, w32, wrap32n]; congr 2; simp <;> omega
    case u64 => simp only [Sc.val, w64, wrap64n]; congr 2; simp <;> omega
    case i64 => simp only [Sc.val]; congr 1; rw [IntWalk.i64_in _ (by omega)]
    all_goals rfl
  | u32 a =>
    refine ⟨.u32, a.toNat, rfl, ?_⟩
    have := lt32 a
    cases k <;> simp only [cvI] at h <;> injection h with h <;> simp only [Prod.mk.injEq] at h <;> obtain ⟨rfl, rfl⟩ := h
    case u8 => simp only [Sc.val, bU, wrap8n]; simp
    case u32 => simp only [Sc.val, w32, wrap32n]; congr 2; omega
    case u64 => simp only [Sc.val, w64, wrap64n]; congr 2; simp <;> omega
    case i64 => simp only [Sc.val]; congr 1; rw [IntWalk.i64_in _ (by omega)]
    all_goals rfl
  | u64 a =>
    refine ⟨.u64, a.toNat, rfl, ?_⟩
    have := lt64 a
    cases k <;> simp only [cvI] at h <;> injection h with h <;> simp only [Prod.mk.injEq] at h <;> obtain ⟨rfl, rfl⟩ := h
    case u8 => simp only [Sc.val, bU, wrap8n]; simp
    case u32 => simp only [Sc.val, w32, wrap32n]; simp
    case u64 => simp only [Sc.val, w64, wrap64n]; congr 2; omega
    all_goals rfl
  | _ => cases k <;> simp [cvI] at h
theorem run_convII {s t : TypeId} {ds : TypeDesc} {k k' : IntKind} (hs : P.underlying s = some ds) (ht : P.underlying t = some (.int k')) (a : Int) (w : World) : (convert s t (.int k a)).run P w = .ok (.int k' (k'.wrap a)) w := run_convi hs ht a w
theorem convx_ok (hT : TabOk P T) {s t : TypeId} {x z : Sc} {g : List Prop} (h : convx T s t x = some (g, z)) (hg : allP g) (w : World) : (convert s t x.val).run P w = .ok z.val w := by
  unfold convx at h
  cases hs : T s with
  | none => simp [hs] at h
  | some ts =>
    cases ht : T t with
    | none => simp [hs, ht] at h
    | some tt =>
      simp only [hs, ht] at h
      cases hd : tt.d <;> simp only [hd, reduceCtorEq] at h
      case int k =>
        obtain ⟨ds, e1, _⟩ := (hT.at hs).d
        have e2 := (hT.at ht).int hd
        obtain ⟨kd, n, h1, h2⟩ := cvI_ok h hg
        rw [h1, h2]
        exact run_convII e1 e2 n w
      case str =>
        cases hds : ts.d <;> simp only [hds, reduceCtorEq] at h
        cases x <;> simp only [reduceCtorEq] at h
        injection h with h; simp only [Prod.mk.injEq] at h; obtain ⟨rfl, rfl⟩ := h
        have e1 := (hT.at hs).str hds
        have e2 := (hT.at ht).str hd
        unfold convert
        rw [Sem.run_bind, run_underlying e1 w, Result.andThen_ok, Sem.run_bind, run_underlying e2 w, Result.andThen_ok]
        simp [Sc.val]

/-! ### one value operation at a time -/
variable {ρ : Pls} {w : World} {H : Hp} {ae : Operand → Option AV} {ev : Operand → Value}

def intA (x : AV) : Option Int := match x with | .c c => (match c with | .s s => s.int? | _ => none) | _ => none
theorem intA_ok {x : AV} {n : Int} (h : intA x = some n) {v : Value} (hv : avR ρ x v) : ∃ kd, v = .int kd n := by
  cases x with
  | c c => cases c with
    | s s =>
      obtain ⟨kd, _, h2⟩ := Sc.int_val (x := s) h
      exact ⟨kd, by rw [← h2]; exact hv⟩
    | _ => cases h
  | _ => cases h

def Cl.id? : Cl → Option Nat
  | .wh i => some i
  | .sl i _ _ => some i
  | .pt i _ => some i
  | _ => none
theorem slc_pl (hp : HpR ρ w H) {y : Cl} {o : Oj} {lo n i : Nat} (h : slc H y = some (o, lo, n)) (hi : y.id? = some i) {v : Value} (hv : clR ρ y v) :
    (ρ i).sz = o.sz ∧ (ρ i).n = o.n ∧ ∀ A c, v = .slice A n c → 0 < n → A = (ρ i).A.map (·.add (lo * o.sz)) := by
  cases y with
  | wh j =>
    injection hi with hi; subst hi
    simp only [slc] at h
    cases hl : liveS H j with
    | none => rw [hl] at h; cases h
    | some o' =>
      rw [hl] at h; injection h with h
      simp only [Prod.mk.injEq] at h
      obtain ⟨rfl, rfl, rfl⟩ := h
      obtain ⟨h1, h2⟩ := liveS_ok hl
      obtain ⟨⟨e1, e2, e3⟩, _⟩ := (hp j o' h1).read (nd h2)
      refine ⟨e1, e2, fun A c hv' _ => ?_⟩
      rw [show v = _ from hv] at hv'
      injection hv' with a b c
      rw [← a, Nat.zero_mul]
      cases (ρ j).A with
      | none => rfl
      | some ad => simp [Addr.add]
  | sl j lo' m =>
    injection hi with hi; subst hi
    simp only [slc] at h
    cases hl : liveS H j with
    | none => rw [hl] at h; cases h
    | some o' =>
      rw [hl] at h; injection h with h
      simp only [Prod.mk.injEq] at h
      obtain ⟨rfl, rfl, rfl⟩ := h
      obtain ⟨h1, h2⟩ := liveS_ok hl
      obtain ⟨⟨e1, e2, e3⟩, _⟩ := (hp j o' h1).read (nd h2)
      obtain ⟨_, A, c, rfl, _, _, _, g4⟩ := hv
      refine ⟨e1, e2, fun A' c' hv' hm => ?_⟩
      injection hv' with a b c
      rw [← a, ← e1]; exact g4 hm
  | _ => cases h

/-- the address of an element -/
def ixA (T : Tab) (H : Hp) (t : TypeId) (x : AV) (n : Int) : Option (List Prop × AV) := match T t, x with
  | some ti, .c y => (match ti.d with
    | .sl e => (match T e, slc H y, y.id? with
      | some te, some (o, lo, m), some i => (match decide (te.size = o.sz ∧ 0 < te.size) with
        | true => some ([0 ≤ n, n < (m : Int)], .c (.pt i (mulS (oddA lo n.toNat) o.sz)))
        | false => none)
      | _, _, _ => none)
    | .arr N e => (match T e, y with
      | some te, .pt i off => (match live H i with
        | some o => (match decide (oddA off (N * te.size) ≤ o.n * o.sz ∧ 0 < te.size) with | true => some ([0 ≤ n, n < (N : Int)], .c (.pt i (oddA off (mulS n.toNat te.size)))) | false => none)
        | none => none)
      | _, _ => none)
    | _ => none)
  | _, _ => none
theorem pt_lt {N : Nat} (hp : HpR ρ w H) {i : Nat} {o : Oj} (hl : live H i = some o) (h : N ≤ o.n * o.sz) : N ≤ (ρ i).n * (ρ i).sz := by
  obtain ⟨h1, h2⟩ := live_ok hl
  obtain ⟨⟨e1, e2, _⟩, _⟩ := (hp i o h1).read h2
  rw [e1, e2]; exact h
theorem ixA_ok (hT : TabOk P T) (hp : HpR ρ w H) {t : TypeId} {x : AV} {n : Int} {g : List Prop} {z : AV} (h : ixA T H t x n = some (g, z)) (hg : allP g) {v : Value} (hv : avR ρ x v) (kd : IntKind) :
    ∃ u, (Instr.indexAt t v (.int kd n)).run P w = .ok u w ∧ avR ρ z u := by
  unfold ixA at h
  cases ht : T t with
  | none => simp [ht] at h
  | some ti =>
    cases x with
    | c y =>
      simp only [ht] at h
      cases hd : ti.d <;> simp only [hd, reduceCtorEq] at h
      case sl e =>
        have ut := (hT.at ht).sl hd
        split at h
        · rename_i te o lo m i he hs hi
          split at h
          · rename_i hdec
            simp only [decide_eq_true_eq] at hdec
            obtain ⟨hsz, hpos⟩ := hdec
            injection h with h; simp only [Prod.mk.injEq] at h; obtain ⟨rfl, rfl⟩ := h
            obtain ⟨h0, h1⟩ := allP_cons.1 hg
            simp only [allP] at h1
            obtain ⟨ie, hie, hs1, _⟩ := (hT.at he).i
            obtain ⟨hle, hlen, vs, hc, hS⟩ := slc_ok hp hs hv
            obtain ⟨e1, e2, hA⟩ := slc_pl hp hs hi hv
            obtain ⟨A, c, rfl, g1, g2, g3, g4⟩ := hS.ex
            have hm : n.toNat < m := by omega
            have hA' := hA A c rfl (by omega)
            cases hh : (ρ i).A with
            | none => rw [hh] at hA'; have := g3 hA'; omega
            | some ad =>
              rw [hh] at hA'
              refine ⟨.pointer (some ((ad.add (lo * o.sz)).add (n.toNat * te.size))), ?_, ?_, ad, hh, ?_⟩
              · simp [Instr.indexAt, asIntOf, run_underlying ut, sizeOf, typeInfo, hie, hs1, h0, h1, hA']
              · rw [mulS_eq, oddA_eq, e1, e2]; exact Nat.mul_lt_mul_of_pos_right (by omega) (by omega)
              · rw [add_add, mulS_eq, oddA_eq, Nat.add_mul, hsz]
          · cases h
        · cases h
      case arr N e =>
        have ut := (hT.at ht).arr hd
        split at h
        · rename_i te i off he
          cases hl : live H i with
          | none => simp [hl] at h
          | some o =>
            simp only [hl] at h
            split at h
            · rename_i hdec
              simp only [decide_eq_true_eq, oddA_eq] at hdec
              obtain ⟨hb, hpos⟩ := hdec
              injection h with h; simp only [Prod.mk.injEq] at h; obtain ⟨rfl, rfl⟩ := h
              obtain ⟨h0, h1⟩ := allP_cons.1 hg
              simp only [allP] at h1
              obtain ⟨ie, hie, hs1, _⟩ := (hT.at he).i
              obtain ⟨hlt, ad, hA, rfl⟩ := hv
              have hb' := pt_lt hp hl hb
              have hn : n.toNat < N := by omega
              have hmul : n.toNat * te.size + te.size ≤ N * te.size := by
                have := Nat.mul_le_mul_right te.size (show n.toNat + 1 ≤ N by omega)
                rwa [Nat.add_mul, Nat.one_mul] at this
              refine ⟨.pointer (some ((ad.add off).add (n.toNat * te.size))), ?_, ?_, ad, hA, ?_⟩
              · simp [Instr.indexAt, asIntOf, Instr.sureAddr, run_underlying ut, sizeOf, typeInfo, hie, hs1, h0, h1]
              · rw [oddA_eq, mulS_eq]; omega
              · rw [add_add, oddA_eq, mulS_eq]
            · cases h
        · cases h
    | _ => simp [ht] at h

theorem run_isAggT {t : TypeId} {ti : Ti} (h : TiOk P t ti) (w : World) : (isAgg t).run P w = .ok (isAggT ti.d) w := by
  obtain ⟨d, h1, h2⟩ := h.d
  unfold isAgg
  rw [Sem.run_bind, run_underlying h1 w, ← h2]
  cases d <;> simp [tdOf, isAggT]
/-- a load -/
def ldA (T : Tab) (H : Hp) (t : TypeId) (x : AV) : Option (List Prop × AV) := match T t, x with
  | some ti, .c (.pt i off) => (match live H i with
    | some o => (match isAggT ti.d with
      | false => (match o.cs.at off with | some c => some ([], .c c) | none => none)
      | true => (match decide (off = 0 ∧ ti.size = o.n * o.sz) with
        | true => some ([], .g ti.size o.cs)
        | false => some ([off + ti.size ≤ o.n * o.sz], .g ti.size (o.cs.part off ti.size))))
    | none => none)
  | _, _ => none
theorem ldA_ok (hT : TabOk P T) (hp : HpR ρ w H) {t : TypeId} {x : AV} {g : List Prop} {z : AV} (h : ldA T H t x = some (g, z)) (hg : allP g) {v : Value} (hv : avR ρ x v) :
    ∃ u, (Instr.loadAt t v).run P w = .ok u w ∧ avR ρ z u := by
  unfold ldA at h
  split at h
  · rename_i ti i off ht
    cases hl : live H i with
    | none => simp [hl] at h
    | some o =>
      simp only [hl] at h
      obtain ⟨h1, h2⟩ := live_ok hl
      obtain ⟨⟨e1, e2, e3⟩, vs, hc, hA⟩ := (hp i o h1).read h2
      obtain ⟨hlt, ad, hAd, rfl⟩ := hv
      rw [e1, e2, ← e3] at hlt
      have hlen : vs.length = o.cs.cl.length := hc.len
      cases hag : isAggT ti.d with
      | false =>
        simp only [hag] at h
        cases hat : o.cs.at off with
        | none => simp [hat] at h
        | some c =>
          simp only [hat] at h
          injection h with h; simp only [Prod.mk.injEq] at h; obtain ⟨rfl, rfl⟩ := h
          obtain ⟨u, hu, hr⟩ := F2.at hc (Cs.at_ok hat hlt)
          have hcell := hA ad hAd off u hu
          refine ⟨u, ?_, hr⟩
          simp [Instr.loadAt, Instr.sureAddr, loadVar, run_isAggT (hT.at ht), hag, hcell]
      | true =>
        simp only [hag] at h
        obtain ⟨ii, hii, hs1, _⟩ := (hT.at ht).i
        have key : ∀ (cs : List Value), cs.length = ti.size → (∀ j u, cs[j]? = some u → w.cell? ((ad.add off).add j) = some u) → (Instr.loadAt t (.pointer (some (ad.add off)))).run P w = .ok (.agg cs.toArray) w := by
          intro cs hcl hcc
          have hl := run_loadCells_list (P := P) w (ad.add off) cs hcc
          rw [hcl] at hl
          simp [Instr.loadAt, Instr.sureAddr, loadVar, run_isAggT (hT.at ht), hag, sizeOf, typeInfo, hii, hs1, hl]
        split at h
        · rename_i hdec
          simp only [decide_eq_true_eq] at hdec
          obtain ⟨rfl, hs⟩ := hdec
          injection h with h; simp only [Prod.mk.injEq] at h; obtain ⟨rfl, rfl⟩ := h
          have hl3 : vs.length = ti.size := by rw [hlen, e3, hs]
          refine ⟨_, key vs hl3 (fun j u hu => ?_), vs, hc, hl3, rfl⟩
          rw [add_add, Nat.zero_add]; exact hA ad hAd j u hu
        · injection h with h; simp only [Prod.mk.injEq] at h; obtain ⟨rfl, rfl⟩ := h
          simp only [allP] at hg
          have hl3 : ((vs.drop off).take ti.size).length = ti.size := by rw [List.length_take, List.length_drop]; omega
          refine ⟨_, key _ hl3 (fun j u hu => ?_), _, ?_, hl3, rfl⟩
          · exact (hA.drop off ti.size) (ad.add off) (by rw [hAd]; rfl) j u hu
          · unfold csR
            rw [Cs.part_cl]
            exact (F2.drop hc off).take _
  · cases h
end
end Go.Sx
