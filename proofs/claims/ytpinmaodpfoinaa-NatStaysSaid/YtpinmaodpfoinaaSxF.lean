import Derived.Test.YtpinmaodpfoinaaSxE
set_option linter.unusedVariables false
set_option linter.unusedSimpArgs false
namespace Go.Sx
open Go.RowKit Go.Ch
section
variable {P : Program} {T : Tab} {ρ : Pls} {w : World} {H : Hp}

/-! ### parts of slices and texts -/
def slA (T : Tab) (H : Hp) (t : TypeId) (x : AV) (lo hi mx : Option Int) : Option (List Prop × AV) := match T t, x with
  | some ti, .c y => (match ti.d with
    | .sl e => (match T e, slc H y, y.id? with
      | some te, some (o, l0, m), some i => (match decide (te.size = o.sz) with
        | true => (match lo, hi, mx with
          | none, none, none => some ([], .c y)
          | some a, none, none => some ([0 ≤ a, a ≤ (m : Int)], .c (.sl i (oddA l0 a.toNat) (m - a.toNat)))
          | none, some b, none => some ([0 ≤ b, b ≤ (m : Int)], .c (.sl i l0 b.toNat))
          | some a, some b, none => some ([0 ≤ a, a ≤ b, b ≤ (m : Int)], .c (.sl i (oddA l0 a.toNat) (b.toNat - a.toNat)))
          | none, some b, some c => some ([0 ≤ b, b ≤ c, c ≤ (m : Int)], .c (.sl i l0 b.toNat))
          | _, _, _ => none)
        | false => none)
      | _, _, _ => none)
    | .str => (match y with
      | .s (.str l) => (match lo, hi, mx with
        | none, none, none => some ([], .c (.s (.str l)))
        | some a, none, none => some ([0 ≤ a, a ≤ (l.length : Int)], .c (.s (.str (l.drop a.toNat))))
        | none, some b, none => some ([0 ≤ b, b ≤ (l.length : Int)], .c (.s (.str (l.take b.toNat))))
        | some a, some b, none => some ([0 ≤ a, a ≤ b, b ≤ (l.length : Int)], .c (.s (.str ((l.take b.toNat).drop a.toNat))))
        | _, _, _ => none)
      | _ => none)
    | .arr m e => (match T e, y, lo, hi, mx with
      | some te, .pt i 0, none, none, none => (match live H i with
        | some o => (match decide (te.size = 1 ∧ o.sz = 1 ∧ m ≤ o.n ∧ m ≤ 1000000) with | true => some ([], .c (.sl i 0 m)) | false => none)
        | none => none)
      | _, _, _, _, _ => none)
    | _ => none)
  | _, _ => none

theorem run_sliceBound (kd : IntKind) (b : Int) (y : Nat) (code : BoundsCode) (h0 : 0 ≤ b) (h1 : b ≤ (y : Int)) (w : World) : (Instr.sliceBound (.int kd b) y code).run P w = .ok b.toNat w := by
  simp [Instr.sliceBound, asIntOf, h0, h1]
/-- a slice of a slice -/
theorem run_slice_of {t e : TypeId} {ie : TypeInfo} (ut : P.underlying t = some (.slice e)) (hie : P.info? e = some ie) (A : Option Addr) (n c : Nat) (lo hi mx : Option Value) (l h m : Nat)
    (hb : (Instr.sliceBounds true n c lo hi mx).run P w = .ok (l, h, m) w) :
    (Instr.sliceAt t (.slice A n c) lo hi mx).run P w = .ok (.slice (if m = l then A else A.map (·.add (l * ie.size))) (h - l) (m - l)) w := by
  simp [Instr.sliceAt, Instr.slice, run_underlying ut, hb, sizeOf, typeInfo, hie]
def okV (x : Option Int) (v : Option Value) : Prop := match x, v with
  | none, none => True
  | some n, some v => ∃ kd, v = .int kd n
  | _, _ => False
theorem slA_ok (hT : TabOk P T) (hp : HpR ρ w H) {t : TypeId} {x : AV} {lo hi mx : Option Int} {vl vh vm : Option Value} (h1 : okV lo vl) (h2 : okV hi vh) (h3 : okV mx vm) {g : List Prop} {z : AV} (h : slA T H t x lo hi mx = some (g, z)) (hg : allP g) {v : Value} (hv : avR ρ x v) :
    ∃ u, (Instr.sliceAt t v vl vh vm).run P w = .ok u w ∧ avR ρ z u := by
  unfold slA at h
  split at h
  · rename_i ti y ht
    cases hd : ti.d <;> simp only [hd, reduceCtorEq] at h
    case arr m e =>
      have ut := (hT.at ht).arr hd
      split at h
      · rename_i te i he
        split at h
        · rename_i o hl
          split at h
          · rename_i hdec
            simp only [decide_eq_true_eq] at hdec
            obtain ⟨d1, d2, d3, d4⟩ := hdec
            injection h with h; simp only [Prod.mk.injEq] at h; obtain ⟨rfl, rfl⟩ := h
            obtain ⟨ie, hie, hs1, _⟩ := (hT.at he).i
            obtain ⟨l1, l2⟩ := live_ok hl
            obtain ⟨⟨e1, e2, e3⟩, _⟩ := (hp i o l1).read l2
            obtain ⟨hlt, ad, hA, rfl⟩ := hv
            cases vl with
            | some _ => exact h1.elim
            | none =>
              cases vh with
              | some _ => exact h2.elim
              | none =>
                cases vm with
                | some _ => exact h3.elim
                | none =>
                  have z0 : ∀ x : Addr, x.add 0 = x := fun x => by simp [Addr.add]
                  refine ⟨.slice (some ad) m m, ?_, ?_⟩
                  · simp [Instr.sliceAt, run_underlying ut, Instr.sureAddr, Instr.sliceBounds, sizeOf, typeInfo, hie, z0]
                  · refine ⟨by omega, some ad, m, rfl, Nat.le_refl _, by unfold maxLen; omega, (fun e => by cases e), fun _ => by rw [hA]; simp [z0]⟩
          · cases h
        · cases h
      · cases h
    case sl e =>
      have ut := (hT.at ht).sl hd
      split at h
      · rename_i te o l0 m i he hs hi'
        split at h
        · rename_i hdec
          simp only [decide_eq_true_eq] at hdec
          obtain ⟨ie, hie, hs1, _⟩ := (hT.at he).i
          obtain ⟨hle, hlen, vs, hc, hS⟩ := slc_ok hp hs hv
          obtain ⟨e1, e2, hA⟩ := slc_pl hp hs hi' hv
          obtain ⟨A, c, rfl, g1, g2, g3, g4⟩ := hS.ex
          have key : ∀ (l h m' : Nat), l ≤ h → h ≤ m → h ≤ m' → m' ≤ c → (Instr.sliceBounds true m c vl vh vm).run P w = .ok (l, h, m') w →
              ∃ u, (Instr.sliceAt t (.slice A m c) vl vh vm).run P w = .ok u w ∧ clR ρ (.sl i (l0 + l) (h - l)) u := by
            intro l h m' k1 k2 k3 k4 hb
            refine ⟨_, run_slice_of ut hie A m c vl vh vm l h m' hb, by omega, _, m' - l, rfl, by omega, by omega, ?_, ?_⟩
            · intro hn
              split at hn
              · omega
              · cases A with
                | none => have := g3 rfl; omega
                | some ad => cases hn
            · intro hpos
              rw [if_neg (by omega)]
              have hA' := hA A c rfl (by omega)
              rw [hA', e1, hs1, hdec]
              cases (ρ i).A with
              | none => rfl
              | some ad => simp [add_add, Nat.add_mul]
          cases lo with
          | none =>
            cases vl with
            | some _ => exact h1.elim
            | none =>
              cases hi with
              | none =>
                cases mx with
                | some _ => simp at h
                | none =>
                  cases vh with
                  | some _ => exact h2.elim
                  | none =>
                    cases vm with
                    | some _ => exact h3.elim
                    | none =>
                      injection h with h; simp only [Prod.mk.injEq] at h; obtain ⟨rfl, rfl⟩ := h
                      refine ⟨.slice A m c, ?_, hv⟩
                      rw [run_slice_of ut hie A m c none none none 0 m c (by simp [Instr.sliceBounds])]
                      congr 1
                      simp only [Nat.zero_mul, Nat.sub_zero]
                      split
                      · rfl
                      · cases A <;> simp [Addr.add]
              | some b =>
                cases vh with
                | none => exact h2.elim
                | some vb =>
                  obtain ⟨kb, rfl⟩ := h2
                  cases mx with
                  | none =>
                    cases vm with
                    | some _ => exact h3.elim
                    | none =>
                      injection h with h; simp only [Prod.mk.injEq] at h; obtain ⟨rfl, rfl⟩ := h
                      obtain ⟨b0, b1⟩ := allP_cons.1 hg
                      simp only [allP] at b1
                      have := key 0 b.toNat c (by omega) (by omega) (by omega) (by omega) (by simp [Instr.sliceBounds, run_sliceBound kb b c _ b0 (by omega)])
                      simp only [Nat.add_zero, Nat.sub_zero] at this
                      exact this
                  | some cc =>
                    cases vm with
                    | none => exact h3.elim
                    | some vc =>
                      obtain ⟨kc, rfl⟩ := h3
                      injection h with h; simp only [Prod.mk.injEq] at h; obtain ⟨rfl, rfl⟩ := h
                      obtain ⟨b0, b1⟩ := allP_cons.1 hg
                      obtain ⟨b1, b2⟩ := allP_cons.1 b1
                      simp only [allP] at b2
                      have := key 0 b.toNat cc.toNat (by omega) (by omega) (by omega) (by omega) (by simp [Instr.sliceBounds, run_sliceBound kc cc c _ (by omega) (by omega), run_sliceBound kb b cc.toNat _ b0 (by omega)])
                      simp only [Nat.add_zero, Nat.sub_zero] at this
                      exact this
          | some a =>
            cases vl with
            | none => exact h1.elim
            | some va =>
              obtain ⟨ka, rfl⟩ := h1
              cases mx with
              | some _ => cases hi <;> simp at h
              | none =>
                cases vm with
                | some _ => exact h3.elim
                | none =>
                  cases hi with
                  | none =>
                    cases vh with
                    | some _ => exact h2.elim
                    | none =>
                      injection h with h; simp only [Prod.mk.injEq] at h; obtain ⟨rfl, rfl⟩ := h
                      obtain ⟨b0, b1⟩ := allP_cons.1 hg
                      simp only [allP] at b1
                      have := key a.toNat m c (by omega) (by omega) (by omega) (by omega) (by simp [Instr.sliceBounds, run_sliceBound ka a m _ b0 b1])
                      rw [oddA_eq]; exact this
                  | some b =>
                    cases vh with
                    | none => exact h2.elim
                    | some vb =>
                      obtain ⟨kb, rfl⟩ := h2
                      injection h with h; simp only [Prod.mk.injEq] at h; obtain ⟨rfl, rfl⟩ := h
                      obtain ⟨b0, b1⟩ := allP_cons.1 hg
                      obtain ⟨b1, b2⟩ := allP_cons.1 b1
                      simp only [allP] at b2
                      have := key a.toNat b.toNat c (by omega) (by omega) (by omega) (by omega) (by simp [Instr.sliceBounds, run_sliceBound kb b c _ (by omega) (by omega), run_sliceBound ka a b.toNat _ b0 (by omega)])
                      rw [oddA_eq]; exact this
        · cases h
      · cases h
    case str =>
      have ut := (hT.at ht).str hd
      split at h
      · rename_i l
        have hv' : v = .string ⟨l.toArray⟩ := hv
        subst hv'
        have hsz : (ByteArray.mk l.toArray).size = l.length := by simp [ByteArray.size]
        have key : ∀ (a b : Nat), (Instr.sliceBounds false l.length l.length vl vh none).run P w = .ok (a, b, l.length) w → vm = none →
            ∃ u, (Instr.sliceAt t (.string ⟨l.toArray⟩) vl vh vm).run P w = .ok u w ∧ u = .string ⟨((l.take b).drop a).toArray⟩ := by
          intro a b hb hm
          subst hm
          refine ⟨_, ?_, rfl⟩
          have e : (ByteArray.mk l.toArray).extract a b = ⟨((l.take b).drop a).toArray⟩ := by
            apply ByteArray.ext
            simp [ByteArray.data_extract, List.drop_take]
          simp [Instr.sliceAt, Instr.slice, run_underlying ut, hsz, hb, e]
        cases mx with
        | some _ => cases lo <;> cases hi <;> simp at h
        | none =>
          cases vm with
          | some _ => exact h3.elim
          | none =>
            cases lo with
            | none =>
              cases vl with
              | some _ => exact h1.elim
              | none =>
                cases hi with
                | none =>
                  cases vh with
                  | some _ => exact h2.elim
                  | none =>
                    injection h with h; simp only [Prod.mk.injEq] at h; obtain ⟨rfl, rfl⟩ := h
                    obtain ⟨u, hu, rfl⟩ := key 0 l.length (by simp [Instr.sliceBounds]) rfl
                    exact ⟨_, hu, by show _ = Value.string _; simp⟩
                | some b =>
                  cases vh with
                  | none => exact h2.elim
                  | some vb =>
                    obtain ⟨kb, rfl⟩ := h2
                    injection h with h; simp only [Prod.mk.injEq] at h; obtain ⟨rfl, rfl⟩ := h
                    obtain ⟨b0, b1⟩ := allP_cons.1 hg
                    simp only [allP] at b1
                    obtain ⟨u, hu, rfl⟩ := key 0 b.toNat (by simp [Instr.sliceBounds, run_sliceBound kb b l.length _ b0 b1]) rfl
                    exact ⟨_, hu, by show _ = Value.string _; simp⟩
            | some a =>
              cases vl with
              | none => exact h1.elim
              | some va =>
                obtain ⟨ka, rfl⟩ := h1
                cases hi with
                | none =>
                  cases vh with
                  | some _ => exact h2.elim
                  | none =>
                    injection h with h; simp only [Prod.mk.injEq] at h; obtain ⟨rfl, rfl⟩ := h
                    obtain ⟨b0, b1⟩ := allP_cons.1 hg
                    simp only [allP] at b1
                    obtain ⟨u, hu, rfl⟩ := key a.toNat l.length (by simp [Instr.sliceBounds, run_sliceBound ka a l.length _ b0 b1]) rfl
                    exact ⟨_, hu, by show _ = Value.string _; simp⟩
                | some b =>
                  cases vh with
                  | none => exact h2.elim
                  | some vb =>
                    obtain ⟨kb, rfl⟩ := h2
                    injection h with h; simp only [Prod.mk.injEq] at h; obtain ⟨rfl, rfl⟩ := h
                    obtain ⟨b0, b1⟩ := allP_cons.1 hg
                    obtain ⟨b1, b2⟩ := allP_cons.1 b1
                    simp only [allP] at b2
                    obtain ⟨u, hu, rfl⟩ := key a.toNat b.toNat (by simp [Instr.sliceBounds, run_sliceBound kb b l.length _ (by omega) (by omega), run_sliceBound ka a b.toNat _ b0 (by omega)]) rfl
                    exact ⟨_, hu, rfl⟩
      · cases h
  · cases h

/-! ### fields, elements of values, the rest -/
def fldT (T : Tab) (t : TypeId) (f : Nat) : Option (TypeId × Nat) := match T t with
  | some ti => (match ti.d with | .st fs => fs[f]? | _ => none)
  | none => none
theorem fldT_ok (hT : TabOk P T) {t ft fo : TypeId} {f : Nat} (h : fldT T t f = some (ft, fo)) : ∃ fs fd, P.underlying t = some (.struct fs) ∧ fs[f]? = some fd ∧ fd.type = ft ∧ fd.offset = fo := by
  unfold fldT at h
  cases ht : T t with
  | none => simp [ht] at h
  | some ti =>
    simp only [ht] at h
    cases hd : ti.d <;> simp only [hd, reduceCtorEq] at h
    rename_i l
    obtain ⟨fs, h1, h2⟩ := (hT.at ht).st hd
    rw [← h2, List.getElem?_map] at h
    cases hf : fs.toList[f]? with
    | none => simp [hf] at h
    | some fd =>
      simp only [hf, Option.map_some, Option.some.injEq, Prod.mk.injEq] at h
      exact ⟨fs, fd, h1, by rw [← Array.getElem?_toList]; exact hf, h.1, h.2⟩
/-- a field's address -/
def faA (T : Tab) (H : Hp) (t : TypeId) (x : AV) (f : Nat) : Option (List Prop × AV) := match fldT T t f, x with
  | some (ft, fo), .c (.pt i off) => (match T ft, live H i with
    | some tf, some o => (match decide (0 < tf.size), o.kd with
      | true, .blk => (match decide (addO off fo < o.n * o.sz) with | true => some ([], .c (.pt i (addO off fo))) | false => none)
      | true, _ => some ([addO off fo < o.n * o.sz], .c (.pt i (addO off fo)))
      | false, _ => none)
    | _, _ => none)
  | _, _ => none
theorem faA_ok (hT : TabOk P T) (hp : HpR ρ w H) {t : TypeId} {x : AV} {f : Nat} {g : List Prop} {z : AV} (h : faA T H t x f = some (g, z)) (hg : allP g) {v : Value} (hv : avR ρ x v) :
    ∃ u, (Instr.fieldAt t v f).run P w = .ok u w ∧ avR ρ z u := by
  unfold faA at h
  split at h
  · rename_i ft fo i off hf
    split at h
    · rename_i tf o htf hl
      obtain ⟨fs, fd, ut, hfd, rfl, rfl⟩ := fldT_ok hT hf
      obtain ⟨h1, h2⟩ := live_ok hl
      obtain ⟨⟨e1, e2, e3⟩, _⟩ := (hp i o h1).read h2
      obtain ⟨hlt, ad, hA, rfl⟩ := hv
      obtain ⟨ie, hie, hs1, _⟩ := (hT.at htf).i
      have key : 0 < tf.size → addO off fd.offset < o.n * o.sz → ∃ u, (Instr.fieldAt t (.pointer (some (ad.add off))) f).run P w = .ok u w ∧ avR ρ (.c (.pt i (addO off fd.offset))) u := by
        intro hpos hb
        refine ⟨.pointer (some ((ad.add off).add fd.offset)), ?_, by rw [e1, e2]; exact hb, ad, hA, by rw [add_add, addO_eq]⟩
        have hne : ie.size ≠ 0 := by omega
        simp [Instr.fieldAt, run_underlying ut, hfd, Instr.sureAddr, fieldPlace, sizeOf, typeInfo, hie, hne]
      split at h
      · rename_i hpos _
        split at h
        · rename_i hb
          injection h with h; simp only [Prod.mk.injEq] at h; obtain ⟨rfl, rfl⟩ := h
          exact key (by simpa using hpos) (by simpa using hb)
        · cases h
      · rename_i hpos _
        injection h with h; simp only [Prod.mk.injEq] at h; obtain ⟨rfl, rfl⟩ := h
        exact key (by simpa using hpos) hg
      · cases h
    · cases h
  · cases h

/-- a part of an aggregate -/
def ptA (T : Tab) (t : TypeId) (n : Nat) (cs : Cs) (off : Nat) : Option (List Prop × AV) := match T t with
  | some ti => (match isAggT ti.d with
    | false => (match cs.at off with | some c => some ([off < n], .c c) | none => none)
    | true => some ([off + ti.size ≤ n], .g ti.size (cs.part off ti.size)))
  | none => none
theorem ptA_ok (hT : TabOk P T) {t : TypeId} {n : Nat} {cs : Cs} {off : Nat} {g : List Prop} {z : AV} (h : ptA T t n cs off = some (g, z)) (hg : allP g) {vs : List Value} (hc : csR ρ cs vs) (hn : vs.length = n) :
    ∃ u, (part t vs.toArray off).run P w = .ok u w ∧ avR ρ z u := by
  unfold ptA at h
  cases ht : T t with
  | none => simp [ht] at h
  | some ti =>
    simp only [ht] at h
    obtain ⟨ie, hie, hs1, _⟩ := (hT.at ht).i
    cases hag : isAggT ti.d with
    | false =>
      simp only [hag] at h
      cases hat : cs.at off with
      | none => simp [hat] at h
      | some c =>
        simp only [hat] at h
        injection h with h; simp only [Prod.mk.injEq] at h; obtain ⟨rfl, rfl⟩ := h
        simp only [allP] at hg
        obtain ⟨u, hu, hr⟩ := F2.at hc (Cs.at_ok hat (by rw [← hc.len, hn]; exact hg))
        refine ⟨u, ?_, hr⟩
        have hu' : vs.toArray[off]? = some u := by simpa using hu
        unfold part
        rw [Sem.run_bind, run_isAggT (hT.at ht), hag, Result.andThen_ok]
        simp only [hu', Bool.false_eq_true, if_false, Sem.run_pure]
    | true =>
      simp only [hag] at h
      injection h with h; simp only [Prod.mk.injEq] at h; obtain ⟨rfl, rfl⟩ := h
      simp only [allP] at hg
      refine ⟨.agg ((vs.drop off).take ti.size).toArray, ?_, (vs.drop off).take ti.size, ?_, by rw [List.length_take, List.length_drop]; omega, rfl⟩
      · have e : vs.toArray.extract off (off + ti.size) = ((vs.drop off).take ti.size).toArray := by
          apply Array.ext'
          simp [List.extract_eq_take_drop]
        unfold part
        rw [Sem.run_bind, run_isAggT (hT.at ht), hag, Result.andThen_ok]
        simp [sizeOf, typeInfo, hie, hs1, e]
      · unfold csR
        rw [Cs.part_cl]
        exact (F2.drop hc off).take _
/-- a literal index needs no guard -/
def fdA (T : Tab) (t : TypeId) (x : AV) (f : Nat) : Option (List Prop × AV) := match fldT T t f, x with
  | some (ft, fo), .g n cs => ptA T ft n cs fo
  | _, _ => none
theorem fdA_ok (hT : TabOk P T) {t : TypeId} {x : AV} {f : Nat} {g : List Prop} {z : AV} (h : fdA T t x f = some (g, z)) (hg : allP g) {v : Value} (hv : avR ρ x v) :
    ∃ u, (Instr.field t v f).run P w = .ok u w ∧ avR ρ z u := by
  unfold fdA at h
  split at h
  · rename_i ft fo n cs hf
    obtain ⟨fs, fd, ut, hfd, rfl, rfl⟩ := fldT_ok hT hf
    obtain ⟨vs, hc, hn, rfl⟩ := hv
    obtain ⟨u, hu, hr⟩ := ptA_ok hT h hg hc hn (w := w)
    exact ⟨u, by simp [Instr.field, run_underlying ut, hfd, asAgg, hu], hr⟩
  · cases h
def ixV (T : Tab) (t : TypeId) (x : AV) (n : Int) : Option (List Prop × AV) := match T t with
  | some ti => (match ti.d, x with
    | .arr N e, .g m cs => (match T e with
      | some te => (match decide (te.size = 1 ∧ m = N), isAggT te.d, cs.at n.toNat with
        | true, false, some c => some ([0 ≤ n, n < (N : Int)], .c c)
        | _, _, _ => none)
      | none => none)
    | .str, .c (.s (.str l)) => some ([0 ≤ n, n < (l.length : Int)], .c (.s (.u8 (l.getD n.toNat 0))))
    | _, _ => none)
  | none => none
theorem ixV_ok (hT : TabOk P T) {t : TypeId} {x : AV} {n : Int} {g : List Prop} {z : AV} (h : ixV T t x n = some (g, z)) (hg : allP g) {v : Value} (hv : avR ρ x v) (kd : IntKind) :
    ∃ u, (Instr.index t v (.int kd n)).run P w = .ok u w ∧ avR ρ z u := by
  unfold ixV at h
  cases ht : T t with
  | none => simp [ht] at h
  | some ti =>
    simp only [ht] at h
    split at h
    · rename_i N e m cs hd
      have ut := (hT.at ht).arr hd
      cases he : T e with
      | none => simp [he] at h
      | some te =>
        simp only [he] at h
        split at h
        · rename_i c hdec hag hat
          simp only [decide_eq_true_eq] at hdec
          obtain ⟨hs, rfl⟩ := hdec
          injection h with h; simp only [Prod.mk.injEq] at h; obtain ⟨rfl, rfl⟩ := h
          obtain ⟨h0, h1⟩ := allP_cons.1 hg
          simp only [allP] at h1
          obtain ⟨ie, hie, hs1, _⟩ := (hT.at he).i
          obtain ⟨vs, hc, hn, rfl⟩ := hv
          obtain ⟨u, hu, hr⟩ := F2.at hc (Cs.at_ok hat (by rw [← hc.len, hn]; omega))
          refine ⟨u, ?_, hr⟩
          have hu' : vs.toArray[n.toNat]? = some u := by simpa using hu
          have hp1 : (part e vs.toArray n.toNat).run P w = .ok u w := by
            unfold part
            rw [Sem.run_bind, run_isAggT (hT.at he), hag, Result.andThen_ok]
            simp only [hu', Bool.false_eq_true, if_false, Sem.run_pure]
          simp [Instr.index, asIntOf, run_underlying ut, sizeOf, typeInfo, hie, hs1, hs, h0, h1, hp1]
        · cases h
    · rename_i l hd
      have ut := (hT.at ht).str hd
      injection h with h; simp only [Prod.mk.injEq] at h; obtain ⟨rfl, rfl⟩ := h
      obtain ⟨h0, h1⟩ := allP_cons.1 hg
      simp only [allP] at h1
      have hv' : v = .string ⟨l.toArray⟩ := hv
      subst hv'
      refine ⟨_, ?_, rfl⟩
      have hlt : n.toNat < l.length := by omega
      have e1 : (ByteArray.mk l.toArray)[n.toNat]? = some (l.getD n.toNat 0) := by
        have hsz : n.toNat < (ByteArray.mk l.toArray).size := by simp [ByteArray.size]; exact hlt
        rw [getElem?_pos (ByteArray.mk l.toArray) n.toNat hsz]
        congr 1
        show (ByteArray.mk l.toArray).data[n.toNat]'(by simpa using hlt) = _
        simp [hlt]
      simp [Instr.index, asIntOf, run_underlying ut, h0, e1, Sc.val, bU]
    · cases h

/-- a slice's first elements as an array's address -/
def saA (T : Tab) (H : Hp) (t : TypeId) (x : AV) : Option (List Prop × AV) := match T t, x with
  | some ti, .c y => (match ti.d with
    | .arr N e => (match slc H y, y.id? with
      | some (o, l0, m), some i => (match decide (0 < N ∧ 0 < o.sz) with | true => some ([(N : Int) ≤ (m : Int)], .c (.pt i (mulS l0 o.sz))) | false => none)
      | _, _ => none)
    | _ => none)
  | _, _ => none
theorem saA_ok (hT : TabOk P T) (hp : HpR ρ w H) {t : TypeId} {x : AV} {g : List Prop} {z : AV} (h : saA T H t x = some (g, z)) (hg : allP g) {v : Value} (hv : avR ρ x v) :
    ∃ u, (Instr.arrayAt t v).run P w = .ok u w ∧ avR ρ z u := by
  unfold saA at h
  split at h
  · rename_i ti y ht
    cases hd : ti.d <;> simp only [hd, reduceCtorEq] at h
    rename_i N e
    have ut := (hT.at ht).arr hd
    split at h
    · rename_i o l0 m i hs hi
      split at h
      · rename_i hdec
        simp only [decide_eq_true_eq] at hdec
        injection h with h; simp only [Prod.mk.injEq] at h; obtain ⟨rfl, rfl⟩ := h
        simp only [allP] at hg
        have hN : N ≤ m := by omega
        obtain ⟨hle, hlen, vs, hc, hS⟩ := slc_ok hp hs hv
        obtain ⟨e1, e2, hA⟩ := slc_pl hp hs hi hv
        obtain ⟨A, c, rfl, g1, g2, g3, g4⟩ := hS.ex
        have hA' := hA A c rfl (by omega)
        cases hh : (ρ i).A with
        | none => rw [hh] at hA'; have := g3 hA'; omega
        | some ad =>
          rw [hh] at hA'
          refine ⟨.pointer (some (ad.add (l0 * o.sz))), ?_, ?_, ad, hh, by rw [mulS_eq]⟩
          · have hlt : ¬ m < N := by omega
            simp [Instr.arrayAt, run_underlying ut, hlt, hA']
          · rw [mulS_eq, e1, e2]; exact Nat.mul_lt_mul_of_pos_right (by omega) hdec.2
      · cases h
    · cases h
  · cases h
end
end Go.Sx
