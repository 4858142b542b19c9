import Derived.Test.YtmdijgmnopidpaaDoorSxU
import Derived.Test.YtmdijgmnopidpaaDoorShaI
import Derived.Test.YtmdijgmnopidpaaDoorShaU
set_option linter.unusedVariables false
set_option linter.unusedSimpArgs false
namespace Go.Proofs.YtmdijgmnopidpaaDoor
open Go.RowKit Go.Ch Go.Sx

theorem GK.keep {w w' : World} (hx : Ext w w') (h : GK w) : GK w' := h.ext hx
def ofL (l : List UInt32) : Words := ⟨l.getD 0 0, l.getD 1 0, l.getD 2 0, l.getD 3 0, l.getD 4 0, l.getD 5 0, l.getD 6 0, l.getD 7 0⟩
theorem ofL_list {l : List UInt32} (h : l.length = 8) : (ofL l).list = l := by
  rw [lstE (0 : UInt32) h]; rfl
theorem list_ofL (v : Words) : ofL v.list = v := rfl
def pressL (ks vs : List UInt32) (bl : List UInt8) : List UInt32 := (pressOf ks (ofL vs) bl).list
theorem wds_av (v : Words) (ρ : Pls) : avR ρ (.g 8 (.w v.list)) (wds v) := ⟨v.list.map w32, csR_w.2 rfl, by simp [len8], rfl⟩
theorem av_w {ρ : Pls} {l : List UInt32} {n : Nat} {v : Value} (h : avR ρ (.g n (.w l)) v) : v = .agg (l.map w32).toArray := by
  obtain ⟨vs, h1, _, h3⟩ := h
  rw [h3, csR_w.1 h1]
theorem av_b {ρ : Pls} {l : List UInt8} {n : Nat} {v : Value} (h : avR ρ (.g n (.b l)) v) : v = .agg (l.map bU).toArray := by
  obtain ⟨vs, h1, _, h3⟩ := h
  rw [h3, csR_b.1 h1]
theorem sl_b {w : World} {e : TypeId} {l : List UInt8} {v : Value} {p : Pl} (h : InSl w e l.length (.b l) v p) : Sl w w.heap.size v (l.map bU) := h.sl (fun _ _ h => csR_b.1 h) (by simp)
theorem sl_w {w : World} {e : TypeId} {l : List UInt32} {v : Value} {p : Pl} (h : InSl w e l.length (.w l) v p) : Sl w w.heap.size v (l.map w32) := h.sl (fun _ _ h => csR_w.1 h) (by simp)

def up_ct : Ct := fun args _ => match args with | [] => some ([], .c (.s (.b true)), []) | _ => none
theorem up_h : FnOk Tryd.prog GK 11 up_ct := by
  refine ⟨fun args H g av objs hF hg ρ w vals hG hp ha => ?_, _, Tryd.func11, by kernel_rfl, by kernel_rfl⟩
  unfold up_ct at hF
  split at hF
  · simp only [Option.some.injEq, Prod.mk.injEq] at hF
    obtain ⟨rfl, rfl, rfl⟩ := hF
    obtain rfl := F2.inv0 ha
    exact calls_mono (up_c w hG) fun v w' ⟨hx, hv⟩ => ⟨hx, left_val fun ρ => hv⟩
  · cases hF
def sum_ct : Ct := fun args H => match args with
  | [x] => (match aB H x with | some l => some ([l.length ≤ 100000], .c (.wh H.length), [⟨.row, 5, 1, (digest consts begin8 l).length, .b (digest consts begin8 l)⟩]) | none => none)
  | _ => none
theorem sum_h : FnOk Tryd.prog GK 22 sum_ct := by
  refine ⟨fun args H g av objs hF hg ρ w vals hG hp ha => ?_, _, Tryd.func22, by kernel_rfl, by kernel_rfl⟩
  unfold sum_ct at hF
  split at hF
  · split at hF
    · rename_i x l hl
      simp only [Option.some.injEq, Prod.mk.injEq] at hF
      obtain ⟨rfl, rfl, rfl⟩ := hF
      obtain ⟨v, vals, rfl, k, ha⟩ := F2.inv ha
      obtain rfl := F2.inv0 ha
      obtain ⟨p, hI⟩ := aB_ok hp hl k 5
      have hb : l.length ≤ 100000 := by simpa [allP] using hg
      exact calls_mono (sum_c w _ v l (sl_b hI) hb hG) fun v w' ⟨hx, hv⟩ => ⟨hx, left_row hv (fun _ => csR_b.2 rfl) (by simp)⟩
    · cases hF
  · cases hF
def reftail_ct : Ct := fun args H => match args with
  | [x] => (match aI x with | some n => some ([0 ≤ n, n ≤ 281474976710656], .c (.wh H.length), [⟨.row, 5, 1, (tailOf n.toNat).length, .b (tailOf n.toNat)⟩]) | none => none)
  | _ => none
theorem reftail_h : FnOk Tryd.prog Tr 20 reftail_ct := by
  refine ⟨fun args H g av objs hF hg ρ w vals hG hp ha => ?_, _, Tryd.func20, by kernel_rfl, by kernel_rfl⟩
  unfold reftail_ct at hF
  split at hF
  · split at hF
    · rename_i x n hl
      simp only [Option.some.injEq, Prod.mk.injEq] at hF
      obtain ⟨rfl, rfl, rfl⟩ := hF
      obtain ⟨v, vals, rfl, k, ha⟩ := F2.inv ha
      obtain rfl := F2.inv0 ha
      obtain rfl := aI_ok hl k
      obtain ⟨h0, h1⟩ : 0 ≤ n ∧ n ≤ 281474976710656 := by simpa [allP] using hg
      have := reftail_c w n.toNat (by omega)
      rw [Int.toNat_of_nonneg h0] at this
      exact calls_mono this fun v w' ⟨hx, hv⟩ => ⟨hx, left_row hv (fun _ => csR_b.2 rfl) (by simp)⟩
    · cases hF
  · cases hF
def refpress_ct : Ct := fun args H => match args with
  | [x, y, z] => (match aW H x with | some ks => (match aGw 8 y with | some vs => (match aGb 64 z with | some bl => some ([ks.length = 64], .g 8 (.w (pressL ks vs bl)), []) | none => none) | none => none) | none => none)
  | _ => none
theorem refpress_h : FnOk Tryd.prog Tr 17 refpress_ct := by
  refine ⟨fun args H g av objs hF hg ρ w vals hG hp ha => ?_, _, Tryd.func17, by kernel_rfl, by kernel_rfl⟩
  unfold refpress_ct at hF
  split at hF
  · split at hF
    · rename_i x y z ks hks
      split at hF
      · rename_i vs hvs
        split at hF
        · rename_i bl hbl
          simp only [Option.some.injEq, Prod.mk.injEq] at hF
          obtain ⟨rfl, rfl, rfl⟩ := hF
          obtain ⟨v, vals, rfl, k, ha⟩ := F2.inv ha
          obtain ⟨v2, vals, rfl, k2, ha⟩ := F2.inv ha
          obtain ⟨v3, vals, rfl, k3, ha⟩ := F2.inv ha
          obtain rfl := F2.inv0 ha
          obtain ⟨p, hI⟩ := aW_ok hp hks k 24
          obtain ⟨a2, l2⟩ := aGw_ok hvs k2 ρ
          obtain ⟨a3, l3⟩ := aGb_ok hbl k3 ρ
          have hk : ks.length = 64 := by simpa [allP] using hg
          obtain rfl := av_w a2
          obtain rfl := av_b a3
          have := refpress_c w _ v ks (sl_w hI) hk (ofL vs) bl l3
          unfold wds b64 at this
          rw [ofL_list l2] at this
          exact calls_mono this fun v w' ⟨hx, hv⟩ => ⟨hx, left_val fun ρ => by rw [hv]; exact wds_av _ ρ⟩
        · cases hF
      · cases hF
    · cases hF
  · cases hF
def constants_ct : Ct := fun args H => match args with
  | [] => some ([], .c (.wh H.length), [⟨.row, 24, 1, consts.length, .w consts⟩])
  | _ => none
theorem constants_h : FnOk Tryd.prog Tr 18 constants_ct := by
  refine ⟨fun args H g av objs hF hg ρ w vals hG hp ha => ?_, _, Tryd.func18, by kernel_rfl, by kernel_rfl⟩
  unfold constants_ct at hF
  split at hF
  · simp only [Option.some.injEq, Prod.mk.injEq] at hF
    obtain ⟨rfl, rfl, rfl⟩ := hF
    obtain rfl := F2.inv0 ha
    exact calls_mono (constants_c w) fun v w' ⟨hx, hv⟩ => ⟨hx, left_row hv (fun _ => csR_w.2 rfl) (by simp)⟩
  · cases hF
def fraction_ct : Ct := fun args _ => match args with
  | [x, y] => (match aU64 x with | some p => (match aBo y with | some t => some ([], .c (.s (.u32 (fracF t p))), []) | none => none) | none => none)
  | _ => none
theorem fraction_h : FnOk Tryd.prog Tr 30 fraction_ct := by
  refine ⟨fun args H g av objs hF hg ρ w vals hG hp ha => ?_, _, Tryd.func30, by kernel_rfl, by kernel_rfl⟩
  unfold fraction_ct at hF
  split at hF
  · split at hF
    · rename_i x y p hpx
      split at hF
      · rename_i t ht
        simp only [Option.some.injEq, Prod.mk.injEq] at hF
        obtain ⟨rfl, rfl, rfl⟩ := hF
        obtain ⟨v, vals, rfl, k, ha⟩ := F2.inv ha
        obtain ⟨v2, vals, rfl, k2, ha⟩ := F2.inv ha
        obtain rfl := F2.inv0 ha
        obtain rfl := aU64_ok hpx k
        obtain rfl := aBo_ok ht k2
        exact calls_mono (fraction_c w p t) fun v w' ⟨hx, hv⟩ => ⟨hx, left_val fun ρ => hv⟩
      · cases hF
    · cases hF
  · cases hF
/-- the first eight primes -/
def primes8_ct : Ct := fun args H => match args with
  | [x] => (match aI x with | some n => some ([n = 8], .c (.wh H.length), [⟨.row, 59, 1, (prN 18).length, .q (prN 18)⟩]) | none => none)
  | _ => none
theorem pr8 : (prN 18).length = 8 := by decide +kernel
theorem pr8lt : ∀ j, j < 18 → (prN j).length < 8 := by decide +kernel
theorem primes8_h : FnOk Tryd.prog Tr 29 primes8_ct := by
  refine ⟨fun args H g av objs hF hg ρ w vals hG hp ha => ?_, _, Tryd.func29, by kernel_rfl, by kernel_rfl⟩
  unfold primes8_ct at hF
  split at hF
  · split at hF
    · rename_i x n hl
      simp only [Option.some.injEq, Prod.mk.injEq] at hF
      obtain ⟨rfl, rfl, rfl⟩ := hF
      obtain ⟨v, vals, rfl, k, ha⟩ := F2.inv ha
      obtain rfl := F2.inv0 ha
      obtain rfl := aI_ok hl k
      have h8 : n = 8 := by simpa [allP] using hg
      subst h8
      exact calls_mono (primes_c w 8 18 (by omega) (by omega) pr8 pr8lt) fun v w' ⟨hx, hv⟩ => ⟨hx, left_row hv (fun _ => csR_q.2 rfl) (by simp)⟩
    · cases hF
  · cases hF
end Go.Proofs.YtmdijgmnopidpaaDoor
