import Derived.Test.YtpinmaodpfoinaaSxK
import Derived.Test.YtpinmaodpfoinaaRq
set_option linter.unusedVariables false
set_option linter.unusedSimpArgs false
namespace Go.Sx
open Go.RowKit Go.Ch
section
variable {P : Program} {T : Tab} {ρ : Pls} {w w' : World} {bs : Bs} {w0 : World} {s : S} {a : Act} {N : Nat}

/-! ### copy -/
def Cs.lay (lo k : Nat) : Cs → Cs → Option Cs
  | .b l, .b r => some (.b (l.take lo ++ r.take k ++ l.drop (lo + k)))
  | .w l, .w r => some (.w (l.take lo ++ r.take k ++ l.drop (lo + k)))
  | .q l, .q r => some (.q (l.take lo ++ r.take k ++ l.drop (lo + k)))
  | .z l, .z r => some (.z (l.take lo ++ r.take k ++ l.drop (lo + k)))
  | _, _ => none
theorem Cs.lay_ok {lo k : Nat} {x y z : Cs} (h : Cs.lay lo k x y = some z) {xs ys : List Value} (hx : csR ρ x xs) (hy : csR ρ y ys) : csR ρ z (xs.take lo ++ ys.take k ++ xs.drop (lo + k)) := by
  unfold Cs.lay at h
  split at h <;> first
    | (injection h with h; subst h; unfold csR Cs.cl; simp only [List.map_append, List.map_take, List.map_drop]; exact F2.append (F2.append (F2.take hx lo) (F2.take hy k)) (F2.drop hx _))
    | cases h
theorem objR_cs {p : Pl} {o : Oj} {cs : Cs} (h : ∀ vs, csR ρ o.cs vs → csR ρ cs vs) (hr : objR ρ w p o) : objR ρ w p { o with cs := cs } := by
  have hl : ∀ vs, csR ρ o.cs vs → cs.cl.length = o.cs.cl.length := fun vs hv => by rw [← (h vs hv).len, hv.len]
  unfold objR at hr ⊢
  cases hk : o.kd with
  | dead => exact True.intro
  | ro fs => simp only [hk] at hr ⊢; obtain ⟨⟨e1, e2, e3⟩, g1, vs, hc, hA⟩ := hr; exact ⟨⟨e1, e2, by rw [hl vs hc]; exact e3⟩, g1, vs, h vs hc, hA⟩
  | row => simp only [hk] at hr ⊢; obtain ⟨⟨e1, e2, e3⟩, vs, hc, hA⟩ := hr; exact ⟨⟨e1, e2, by rw [hl vs hc]; exact e3⟩, vs, h vs hc, hA⟩
  | blk => simp only [hk] at hr ⊢; obtain ⟨⟨e1, e2, e3⟩, b, vs, hA, hc, hB⟩ := hr; exact ⟨⟨e1, e2, by rw [hl vs hc]; exact e3⟩, b, vs, hA, h vs hc, hB⟩
def dstC (H : Hp) : Cl → Option (Nat × Oj × Nat × Nat)
  | .wh i => (match live H i with | some o => some (i, o, 0, o.n) | none => none)
  | .sl i lo n => (match live H i with | some o => some (i, o, lo, n) | none => none)
  | _ => none
theorem dstC_ok {H : Hp} (hp : HpR ρ w H) {x : Cl} {i lo n : Nat} {o : Oj} (h : dstC H x = some (i, o, lo, n)) (ho : o.sz = 1) {v : Value} (hv : clR ρ x v) :
    H[i]? = some o ∧ o.kd ≠ .dead ∧ lo + n ≤ o.n ∧ ∃ A c, v = .slice A n c ∧ (A = none → n = 0) ∧ (0 < n → A = (ρ i).A.map (·.add lo)) := by
  cases x with
  | wh j =>
    simp only [dstC] at h
    cases hl : live H j with
    | none => rw [hl] at h; cases h
    | some o' =>
      rw [hl] at h
      simp only [Option.some.injEq, Prod.mk.injEq] at h
      obtain ⟨rfl, rfl, rfl, rfl⟩ := h
      obtain ⟨h1, h2⟩ := live_ok hl
      obtain ⟨⟨e1, e2, e3⟩, vs, hc, hA⟩ := (hp _ _ h1).read h2
      refine ⟨h1, h2, by omega, (ρ j).A, (ρ j).cap, by rw [← e2]; exact hv, fun e => ?_, fun _ => ?_⟩
      · have hh := hp _ _ h1
        unfold objR at hh
        cases hk : o'.kd with
        | dead => exact absurd hk h2
        | ro b => have := ((hp _ _ h1).slc (.inl ⟨b, hk⟩)); have := this.2.2 e; omega
        | row => have := ((hp _ _ h1).slc (.inr hk)); have := this.2.2 e; omega
        | blk => simp only [hk] at hh; obtain ⟨_, b, vs, hA', _⟩ := hh; rw [e] at hA'; cases hA'
      · cases (ρ j).A with
        | none => rfl
        | some ad => simp [Addr.add]
  | sl j lo' n' =>
    simp only [dstC] at h
    cases hl : live H j with
    | none => rw [hl] at h; cases h
    | some o' =>
      rw [hl] at h
      simp only [Option.some.injEq, Prod.mk.injEq] at h
      obtain ⟨rfl, rfl, rfl, rfl⟩ := h
      obtain ⟨h1, h2⟩ := live_ok hl
      obtain ⟨⟨e1, e2, e3⟩, _⟩ := (hp _ _ h1).read h2
      obtain ⟨k1, A, c, rfl, k2, k3, k4, k5⟩ := hv
      rw [e1, ho, Nat.mul_one] at k5
      exact ⟨h1, h2, by omega, A, c, rfl, fun e => by have := k4 e; omega, k5⟩
  | _ => cases h
theorem addr_add0 (g lo : Nat) : (⟨g, 0, none⟩ : Addr).add lo = ⟨g, lo, none⟩ := by unfold Addr.add; split <;> simp_all
/-- copy: which object, its cells, how many -/
def cpA (T : Tab) (H : Hp) (t : TypeId) (x y : AV) : Option (Nat × Oj × Cs × Nat) := match slT T t, x, y with
  | some e, .c d, .c sc => (match T e, dstC H d, vcs H sc with
    | some te, some (i, o, lo, n), some (1, m, ys) => (match decide (te.size = 1 ∧ o.sz = 1) && (o.own && okX ys), Cs.lay lo (min m n) o.cs ys with
      | true, some cs' => some (i, o, cs', min m n)
      | _, _ => none)
    | _, _, _ => none)
  | _, _, _ => none
theorem cpA_ok (hT : TabOk P T) (h : RelA ρ bs w0 s a w) {t t' ty : TypeId} {x y : AV} {i k : Nat} {o : Oj} {cs' : Cs} (hc : cpA T s.H t x y = some (i, o, cs', k)) {vx vy : Value} (hx : avR ρ x vx) (hy : avR ρ y vy) :
    ∃ w', (Builtin.copy_ #[t, t'] ty #[vx, vy]).run P w = .ok (.int .i64 (k : Int)) w' ∧ RelA ρ bs w0 ⟨s.fr, s.gl, s.H.set i { o with cs := cs' }⟩ a w' := by
  unfold cpA at hc
  split at hc
  · rename_i e d sc he
    have ut := slT_ok hT he
    split at hc
    · rename_i te i' o' lo n m ys hte hd hv
      split at hc
      · rename_i cs2 hck hlay
        simp only [Bool.and_eq_true, decide_eq_true_eq] at hck
        obtain ⟨⟨s1, s2⟩, hown, hok⟩ := hck
        injection hc with hc; simp only [Prod.mk.injEq] at hc; obtain ⟨rfl, rfl, rfl, rfl⟩ := hc
        obtain ⟨ie, hie, hs1, _⟩ := (hT.at hte).i
        obtain ⟨h1, h2, hle, A, c, rfl, hA0, hA1⟩ := dstC_ok h.hp hd s2 hx
        obtain ⟨vys, hcy, hl, B, cb, rfl, b1, b2, b3, b4⟩ := vcs_ok h.hp hv hy
        rw [Nat.mul_one] at hl
        have h1c := fun u hu => (okX_ok hok hcy u hu).2
        have hlt : (vys.take (min m n)).length = min m n := by rw [List.length_take]; omega
        have hcells : (Builtin.firstCells ie.size (min m n) (.slice B m cb)).run P w = .ok (vys.take (min m n)).toArray w := by
          rw [hs1, s1]
          cases B with
          | none => 
            have h0 : m = 0 := by have := b3 rfl; omega
            subst h0
            simp [Builtin.firstCells]
          | some ad => exact run_firstCells_some (P := P) (w := w) 1 (min m n) ad m cb (vys.take (min m n)) (by rw [hlt, Nat.mul_one]) (fun j u hu => b4 ad rfl j u (by rw [List.getElem?_take] at hu; split at hu; exact hu; cases hu))
        have hsame : min m n = 0 → ∀ vs, csR ρ o'.cs vs → csR ρ cs2 vs := fun h0 vs hvs => by
          have := Cs.lay_ok hlay hvs hcy
          rw [h0] at this
          simpa using this
        have still : min m n = 0 → RelA ρ bs w0 ⟨s.fr, s.gl, s.H.set i' { o' with cs := cs2 }⟩ a w := fun h0 =>
          h.write h1 hown (row := none) (World.grownBy.refl w _) (fun g hg => by cases hg) (objR_cs (hsame h0) (h.hp i' o' h1))
        cases A with
        | none =>
          have h0 : min m n = 0 := by have := hA0 rfl; omega
          refine ⟨w, ?_, still h0⟩
          have e1 : Nat.min m n = min m n := rfl
          simp [Builtin.copy_, run_underlying ut, sizeOf, typeInfo, hie, Builtin.lenOf, e1, hcells, goInt]
        | some ad =>
          by_cases h0 : min m n = 0
          · refine ⟨w, ?_, still h0⟩
            have e0 : vys.take (min m n) = [] := by rw [h0]; rfl
            have e1 : Nat.min m n = min m n := rfl
            simp [Builtin.copy_, run_underlying ut, sizeOf, typeInfo, hie, Builtin.lenOf, e1, hcells, e0, storeCells, goInt]
          · have hn : 0 < n := by omega
            have hA := hA1 hn
            cases hp : (ρ i').A with
            | none => rw [hp] at hA; cases hA
            | some a0 =>
              rw [hp] at hA; injection hA with hA; subst hA
              obtain ⟨⟨e1, e2, e3⟩, _⟩ := (h.hp i' o' h1).read h2
              obtain ⟨vs, g, cur, hcv, rfl, hg, hle2, htk, hback⟩ := own_block (h.hp i' o' h1) hown hp
              have hlen : vs.length = o'.n := by rw [hcv.len, e3, s2, Nat.mul_one]
              have eoff := addr_add0 g lo
              have hrun := run_storeCells_at P g lo o'.e (vys.take (min m n)) 0 cur w hg (by rw [hlt]; omega) (fun u hu => h1c u (List.mem_of_mem_take hu))
              simp only [Nat.add_zero] at hrun
              have hcs2 : csR ρ cs2 (vs.take lo ++ vys.take (min m n) ++ vs.drop (lo + (vys.take (min m n)).length)) := by rw [hlt]; exact Cs.lay_ok hlay hcv hcy
              refine ⟨_, ?_, h.write h1 hown (grown_setRow w g _) (fun g' hg' => ?_) (hback _ (cur.toList.take lo ++ vys.take (min m n) ++ cur.toList.drop (lo + (vys.take (min m n)).length)).toArray cs2 _ (setRow_heap w g _ _ o'.e (0, 0) hg) (by rw [List.size_toArray, List.length_append, List.length_append, List.length_take, List.length_drop, hlt]; simp only [Array.length_toList]; omega) (seg_take cur.toList vs (vys.take (min m n)) lo htk (by rw [hlt]; omega)) hcs2)⟩
              · have e1 : Nat.min m n = min m n := rfl
                show (Builtin.copy_ #[t, t'] ty #[Value.slice (some ((⟨g, 0, none⟩ : Addr).add lo)) n c, Value.slice B m cb]).run P w = _
                rw [eoff]
                simp [Builtin.copy_, run_underlying ut, sizeOf, typeInfo, hie, Builtin.lenOf, e1, hcells, hrun, goInt]
              · injection hg' with hg'
                subst hg'
                exact objAt_own hown hp
      · cases hc
    · cases hc
  · cases hc
/-! ### the bytes of a constant text: the literal's row, marked; it is only read from then on -/
def mkA (T : Tab) (H : Hp) (t t' : TypeId) (x : AV) : Option (Nat × Oj) := match slT T t, x with
  | some e, .c (.wh i) => (match live H i with
    | some o => (match decide (t = t' ∧ o.e = e ∧ o.sz = 1 ∧ 0 < o.n), u8T T e, o.kd with
      | true, true, .row => some (i, o)
      | _, _, _ => none)
    | none => none)
  | _, _ => none
theorem mkA_ok (hT : TabOk P T) (h : RelA ρ bs w0 s a w) {t t' : TypeId} {x : AV} {i : Nat} {o : Oj} (hc : mkA T s.H t t' x = some (i, o)) {v : Value} (hx : avR ρ x v) :
    ∃ w', (convert t t' v).run P w = .ok v w' ∧ RelA ρ bs w0 ⟨s.fr, s.gl, s.H.set i { o with kd := .ro true }⟩ a w' := by
  unfold mkA at hc
  split at hc
  · rename_i e i' he
    have ut := slT_ok hT he
    split at hc
    · rename_i o' hl
      split at hc
      · rename_i hdec hu8 hk
        simp only [decide_eq_true_eq] at hdec
        obtain ⟨rfl, rfl, hsz, hn⟩ := hdec
        injection hc with hc; simp only [Prod.mk.injEq] at hc; obtain ⟨rfl, rfl⟩ := hc
        obtain ⟨h1, _⟩ := live_ok hl
        have ue := u8T_ok hT hu8
        have hv : v = .slice (ρ i').A (ρ i').n (ρ i').cap := hx
        have hr := h.hp i' o' h1
        have hown : o'.own = true := by unfold Oj.own; rw [hk]
        have hslc := hr.slc (.inr hk)
        obtain ⟨⟨e1, e2, e3⟩, vs, hcv, hAt⟩ := hr.read (by rw [hk]; simp)
        have hr2 := hr
        unfold objR at hr2
        simp only [hk] at hr2
        obtain ⟨_, vs2, hcv2, hrow⟩ := hr2
        rcases hrow.2 with ⟨_, h0⟩ | ⟨g, cap, cur, hsl, _, hg, hnc, hcm, hcs, htk⟩
        · omega
        · injection hsl with q1 q2 q3
          have hsh : w.shape? g = some (o'.e, cur.size) := by simp [World.shape?, hg]
          have hgr := freeze_grown w ⟨g, cur.size, none⟩ 1
          obtain ⟨fr', hsame⟩ := freeze_same w ⟨g, cur.size, none⟩ 1 cur o'.e (0, 0) hg
          have hkeep := HpR.keep h.hp h.sep hgr (i := i') (fun g' hg' => ⟨o', h1, hown, by injection hg' with hg'; subst hg'; unfold objAt; simp only [hk]; exact ⟨_, q1, rfl⟩⟩)
          have hnew : objR ρ (w.freeze ⟨g, cur.size, none⟩ 1) (ρ i') { o' with kd := .ro true } := by
            refine ⟨⟨e1, e2, e3⟩, hslc, vs, hcv, fun ad had j u hu => ?_⟩
            rw [q1] at had; injection had with had; subst had
            have ee : (⟨g, 0, none⟩ : Addr).add j = ⟨g, j, none⟩ := addr_add0 g j
            have := hAt _ q1 j u hu
            rw [ee] at this ⊢
            rw [cell_of_row _ g j cur o'.e fr' hsame]
            rw [cell_of_row _ g j cur o'.e (0, 0) hg] at this
            exact this
          have at_ : ∀ (j : Nat) (y : Oj), (s.H.set i' { o' with kd := .ro true })[j]? = some y → (j = i' ∧ y = { o' with kd := .ro true }) ∨ (j ≠ i' ∧ s.H[j]? = some y) := by
            intro j y hy
            rw [List.getElem?_set] at hy
            split at hy
            · rename_i e4
              subst e4
              split at hy
              · injection hy with hy; exact .inl ⟨rfl, hy.symm⟩
              · cases hy
            · rename_i e4; exact .inr ⟨fun e5 => e4 e5.symm, hy⟩
          have toRow : ∀ g', objAt (ρ i') { o' with kd := .ro true } g' → objAt (ρ i') o' g' := fun g' hat => by
            obtain ⟨_, hat⟩ := hat
            unfold objAt; simp only [hk]; exact hat
          refine ⟨_, ?_, h.fr, h.gl, fun j y hy => ?_, fun j k y z g' hjk hy hz hyo hat hat2 => ?_, fun j y g' hy hyo hat => ?_, h.kp.grown hgr (fun g' hg' => ?_)⟩
          · rw [hv, q1]
            simp [convert, run_underlying ut, run_underlying ue, markStringish, hsh]
          · rcases at_ j y hy with ⟨rfl, rfl⟩ | ⟨hj, hy1⟩
            · exact hnew
            · exact hkeep j y hj hy1
          · rcases at_ j y hy with ⟨rfl, rfl⟩ | ⟨hj, hy1⟩
            · cases hyo
            · rcases at_ k z hz with ⟨rfl, rfl⟩ | ⟨hk2, hz1⟩
              · exact h.sep j k y o' g' hjk hy1 h1 hyo hat (toRow g' hat2)
              · exact h.sep j k y z g' hjk hy1 hz1 hyo hat hat2
          · rcases at_ j y hy with ⟨rfl, rfl⟩ | ⟨hj, hy1⟩
            · exact h.own j o' g' h1 (Oj.fsh_own hown) (toRow g' hat)
            · exact h.own j y g' hy1 hyo hat
          · injection hg' with hg'
            subst hg'
            exact h.own i' o' g h1 (Oj.fsh_own hown) (by unfold objAt; simp only [hk]; exact ⟨_, q1, rfl⟩)
      · cases hc
    · cases hc
  · cases hc
end
end Go.Sx
