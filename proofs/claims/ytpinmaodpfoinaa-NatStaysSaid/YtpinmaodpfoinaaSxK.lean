import Derived.Test.YtpinmaodpfoinaaSxJ
set_option linter.unusedVariables false
set_option linter.unusedSimpArgs false
namespace Go.Sx
open Go.RowKit Go.Ch
section
variable {P : Program} {T : Tab} {ρ : Pls} {w w' : World} {bs : Bs} {w0 : World} {s : S} {a : Act}

/-! ### operations that write -/
theorem own_block {p : Pl} {o : Oj} (h : objR ρ w p o) (hown : o.own = true) {ad : Addr} (hA : p.A = some ad) :
    ∃ vs g cur, csR ρ o.cs vs ∧ ad = ⟨g, 0, none⟩ ∧ w.heap[g]? = some (.cells cur o.e (0, 0)) ∧ vs.length ≤ cur.size ∧ cur.toList.take vs.length = vs ∧
      (∀ (w' : World) (cur' : Array Value) (cs' : Cs) (vs' : List Value), w'.heap[g]? = some (.cells cur' o.e (0, 0)) → cur'.size = cur.size → cur'.toList.take vs.length = vs' → csR ρ cs' vs' → objR ρ w' p { o with cs := cs' }) := by
  have hh := h
  unfold objR at hh
  unfold Oj.own at hown
  cases hk : o.kd with
  | dead => rw [hk] at hown; cases hown
  | ro fs => rw [hk] at hown; cases hown
  | row =>
    simp only [hk] at hh
    obtain ⟨⟨e1, e2, e3⟩, vs, hc, hr⟩ := hh
    rcases hr.2 with ⟨hv, _⟩ | ⟨g, cap, cur, hv, hb, hg, hnc, hcm, hcs, htk⟩
    · injection hv with h1; rw [hA] at h1; cases h1
    · injection hv with h1 h2 h3
      rw [hA] at h1; injection h1 with h1
      have hlen : vs.length = p.n * o.sz := hr.1
      have hle : vs.length ≤ cur.size := by rw [hlen, hcs]; exact Nat.mul_le_mul_right _ hnc
      refine ⟨vs, g, cur, hc, h1, hg, hle, by rw [hlen]; exact htk, fun w' cur' cs' vs' hg' hsz htk' hc' => ?_⟩
      have hl' : vs'.length = vs.length := by rw [← htk', List.length_take]; simp; omega
      unfold objR
      simp only [hk]
      refine ⟨⟨e1, e2, by rw [← hc'.len, hl', hc.len, e3]⟩, vs', hc', by rw [hl', hlen], .inr ⟨g, cap, cur', ?_, hb, hg', hnc, hcm, by rw [hsz, hcs], by rw [← hlen]; exact htk'⟩⟩
      rw [hA, h1, h3]
  | blk =>
    simp only [hk] at hh
    obtain ⟨⟨e1, e2, e3⟩, b, vs, hA', hc, hB⟩ := hh
    rw [hA] at hA'; injection hA' with hA'
    refine ⟨vs, b, vs.toArray, hc, hA', hB, by simp, by simp, fun w' cur' cs' vs' hg' hsz htk' hc' => ?_⟩
    have hl' : vs' = cur'.toList := by rw [← htk']; exact List.take_of_length_le (by simp at hsz ⊢; omega)
    unfold objR
    simp only [hk]
    refine ⟨⟨e1, e2, by rw [← hc'.len, hl', ← e3, ← hc.len]; simpa using hsz⟩, b, vs', by rw [hA, hA'], hc', ?_⟩
    unfold Blk
    rw [hg', hl']

/-- an object's cells change; it stays where it is -/
theorem RelA.write (h : RelA ρ bs w0 s a w) {i : Nat} {o : Oj} (hi : s.H[i]? = some o) (hown : o.own = true) {cs' : Cs} {row : Option Nat} (hg : w.grownBy w' row) (hrow : ∀ g, row = some g → objAt (ρ i) o g)
    (hnew : objR ρ w' (ρ i) { o with cs := cs' }) : RelA ρ bs w0 ⟨s.fr, s.gl, s.H.set i { o with cs := cs' }⟩ a w' := by
  have hkeep := HpR.keep h.hp h.sep hg (i := i) (fun g hg => ⟨o, hi, hown, hrow g hg⟩)
  have get : ∀ (j : Nat) (x : Oj), (s.H.set i { o with cs := cs' })[j]? = some x → (j = i ∧ x = { o with cs := cs' }) ∨ (j ≠ i ∧ s.H[j]? = some x) := by
    intro j x hx
    rw [List.getElem?_set] at hx
    by_cases e : i = j
    · subst e
      rw [if_pos rfl] at hx
      split at hx
      · injection hx with hx; exact .inl ⟨rfl, hx.symm⟩
      · cases hx
    · rw [if_neg e] at hx; exact .inr ⟨fun h => e h.symm, hx⟩
  refine ⟨h.fr, h.gl, fun j x hx => ?_, fun j k x y g hjk hx hy hox hat hat2 => ?_, fun j x g hx hox hat => ?_, h.kp.grown hg (fun g hgr => h.own i o g hi (Oj.fsh_own hown) (hrow g hgr))⟩
  · rcases get j x hx with ⟨rfl, rfl⟩ | ⟨hj, hx1⟩
    · exact hnew
    · exact hkeep j x hj hx1
  · rcases get j x hx with ⟨rfl, rfl⟩ | ⟨hj, hx1⟩
    · rcases get k y hy with ⟨rfl, _⟩ | ⟨hk, hy1⟩
      · exact hjk rfl
      · exact h.sep j k o y g hjk hi hy1 hown hat hat2
    · rcases get k y hy with ⟨rfl, rfl⟩ | ⟨hk, hy1⟩
      · exact h.sep j k x o g hjk hx1 hi hox hat hat2
      · exact h.sep j k x y g hjk hx1 hy1 hox hat hat2
  · rcases get j x hx with ⟨rfl, rfl⟩ | ⟨hj, hx1⟩
    · exact h.own j o g hi hox hat
    · exact h.own j x g hx1 hox hat

def Cs.st1 (cs : Cs) (off : Nat) (c : Cl) : Option Cs := match cs with
  | .b l => (match c with | .s (.u8 y) => some (.b (l.set off y)) | _ => none)
  | .w l => (match c with | .s (.u32 y) => some (.w (l.set off y)) | _ => none)
  | .q l => (match c with | .s (.u64 y) => some (.q (l.set off y)) | _ => none)
  | .z l => (match c with | .s (.k .i64 y) => some (.z (l.set off y)) | _ => none)
  | .c l => some (.c (l.set off c))
theorem Cs.st1_ok {cs cs' : Cs} {off : Nat} {c : Cl} (h : cs.st1 off c = some cs') {vs : List Value} (hc : csR ρ cs vs) {u : Value} (hu : clR ρ c u) : csR ρ cs' (vs.set off u) := by
  have key : cs'.cl = cs.cl.set off c := by
    cases cs with
    | c l => injection h with h; subst h; rfl
    | b l => simp only [Cs.st1] at h; split at h <;> first | (injection h with h; subst h; simp [Cs.cl, List.map_set]) | cases h
    | w l => simp only [Cs.st1] at h; split at h <;> first | (injection h with h; subst h; simp [Cs.cl, List.map_set]) | cases h
    | q l => simp only [Cs.st1] at h; split at h <;> first | (injection h with h; subst h; simp [Cs.cl, List.map_set]) | cases h
    | z l => simp only [Cs.st1] at h; split at h <;> first | (injection h with h; subst h; simp [Cs.cl, List.map_set]) | cases h
  unfold csR
  rw [key]
  exact F2.set hc off hu
theorem seg_take (l vs news : List Value) (off : Nat) (h : l.take vs.length = vs) (hb : off + news.length ≤ vs.length) :
    (l.take off ++ news ++ l.drop (off + news.length)).take vs.length = vs.take off ++ news ++ vs.drop (off + news.length) := by
  obtain ⟨r, rfl⟩ : ∃ r, l = vs ++ r := ⟨l.drop vs.length, by conv => lhs; rw [← List.take_append_drop vs.length l, h]⟩
  rw [List.take_append_of_le_length (l₁ := vs) (l₂ := r) (i := off) (by omega), List.drop_append_of_le_length (l₁ := vs) (l₂ := r) (by omega), ← List.append_assoc]
  exact List.take_left' (by simp; omega)
theorem objAt_own {p : Pl} {o : Oj} {ad : Addr} (hown : o.own = true) (hA : p.A = some ad) : objAt p o ad.block := by
  unfold objAt
  unfold Oj.own at hown
  cases hk : o.kd with
  | dead => rw [hk] at hown; cases hown
  | ro fs => rw [hk] at hown; cases hown
  | row => exact ⟨ad, hA, rfl⟩
  | blk => exact ⟨ad, hA, rfl⟩
/-- a store: which object, and its new cells -/
def stA (T : Tab) (H : Hp) (t : TypeId) (x y : AV) : Option (Nat × Oj × Cs) := match T t, x with
  | some ti, .c (.pt i off) => (match live H i with
    | some o => (match o.own with
      | false => none
      | true => (match y with
        | .c c => (match decide (ti.size = 1), okC c, o.cs.st1 off c with | true, true, some cs' => some (i, o, cs') | _, _, _ => none)
        | .g n ys => (match decide (n = ti.size), okX ys with
          | true, true => (match decide (off = 0 ∧ n = o.n * o.sz) with
            | true => some (i, o, ys)
            | false => (match o.cs with
              | .c l => (match decide (off + n ≤ l.length) with | true => some (i, o, .c (l.take off ++ exC n ys ++ l.drop (off + n))) | false => none)
              | _ => none))
          | _, _ => none)
        | _ => none))
    | none => none)
  | _, _ => none
theorem set_seg (l : List Value) (k : Nat) (u : Value) (hk : k < l.length) : l.set k u = l.take k ++ [u] ++ l.drop (k + 1) := by
  rw [List.set_eq_take_append_cons_drop, if_pos hk]; simp
theorem stA_ok (hT : TabOk P T) (h : RelA ρ bs w0 s a w) {t : TypeId} {x y : AV} {i : Nat} {o : Oj} {cs' : Cs} (hst : stA T s.H t x y = some (i, o, cs')) {vx vy : Value} (hx : avR ρ x vx) (hy : avR ρ y vy) :
    ∃ w', (Instr.storeAt t vx vy).run P w = .ok () w' ∧ RelA ρ bs w0 ⟨s.fr, s.gl, s.H.set i { o with cs := cs' }⟩ a w' ∧ (Instr.storeAt t vx vy).run P w' = .ok () w' := by
  unfold stA at hst
  split at hst
  · rename_i ti i' off ht
    split at hst
    · rename_i o' hl
      obtain ⟨h1, h2⟩ := live_ok hl
      obtain ⟨ie, hie, hs1, _⟩ := (hT.at ht).i
      split at hst
      · cases hst
      · rename_i hown
        obtain ⟨hlt, ad, hA, rfl⟩ := hx
        obtain ⟨⟨e1, e2, e3⟩, _⟩ := (h.hp i' o' h1).read h2
        obtain ⟨vs, g, cur, hc, rfl, hg, hle, htk, hback⟩ := own_block (h.hp i' o' h1) hown hA
        have hlen : vs.length = o'.n * o'.sz := by rw [hc.len, e3]
        rw [e1, e2, ← hlen] at hlt
        have eoff : (⟨g, 0, none⟩ : Addr).add off = ⟨g, off, none⟩ := by unfold Addr.add; split <;> simp_all
        have key : ∀ (news : List Value) (cs2 : Cs), vy.cells.toList = news → news.length = ti.size → off + news.length ≤ vs.length → (∀ u ∈ news, u.oneCell' = true) → csR ρ cs2 (vs.take off ++ news ++ vs.drop (off + news.length)) →
            ∃ w', (Instr.storeAt t (.pointer (some ((⟨g, 0, none⟩ : Addr).add off))) vy).run P w = .ok () w' ∧ RelA ρ bs w0 ⟨s.fr, s.gl, s.H.set i' { o' with cs := cs2 }⟩ a w' ∧ (Instr.storeAt t (.pointer (some ((⟨g, 0, none⟩ : Addr).add off))) vy).run P w' = .ok () w' := by
          intro news cs2 hn hnl hb h1c hcs2
          have hrun := run_storeCells_at P g off o'.e news 0 cur w hg (by omega) h1c
          simp only [Nat.add_zero] at hrun
          refine ⟨_, ?_, h.write h1 hown (grown_setRow w g _) (fun g' hg' => ?_) (hback _ (cur.toList.take off ++ news ++ cur.toList.drop (off + news.length)).toArray cs2 _ (setRow_heap w g _ _ o'.e (0, 0) hg) (by simp; omega) ?_ hcs2), ?_⟩
          · have hsz : vy.cells.size = ti.size := by rw [← Array.length_toList, hn, hnl]
            rw [eoff]
            simp [Instr.storeAt, Instr.sureAddr, storeVar, sizeOf, typeInfo, hie, hs1, hsz, hn, hrun]
          · injection hg' with hg'
            subst hg'
            exact objAt_own hown hA
          · exact seg_take cur.toList vs news off htk hb
          · have hsz : vy.cells.size = ti.size := by rw [← Array.length_toList, hn, hnl]
            have hcs : cur.toList.length = cur.size := Array.length_toList
            have hcur : off + news.length ≤ cur.toList.length := by omega
            generalize hA2 : (cur.toList.take off ++ news ++ cur.toList.drop (off + news.length)) = A2
            have hA2l : A2.length = cur.size := by rw [← hA2, List.length_append, List.length_append, List.length_take, List.length_drop]; omega
            have hh := setRow_heap w g cur A2.toArray o'.e (0, 0) hg
            have hrun2 := run_storeCells_at P g off o'.e news 0 A2.toArray (w.setRow g A2.toArray) hh (by rw [List.size_toArray]; omega) h1c
            simp only [Nat.add_zero] at hrun2
            have hsame : A2.take off ++ news ++ A2.drop (off + news.length) = A2 := by
              have l1 : (cur.toList.take off).length = off := by rw [List.length_take]; omega
              rw [← hA2]
              rw [show (cur.toList.take off ++ news ++ cur.toList.drop (off + news.length)).take off = cur.toList.take off by rw [List.append_assoc]; exact List.take_left' l1]
              rw [show (cur.toList.take off ++ news ++ cur.toList.drop (off + news.length)).drop (off + news.length) = cur.toList.drop (off + news.length) from List.drop_left' (by rw [List.length_append, l1])]
            rw [show (A2.toArray.toList.take off ++ news ++ A2.toArray.toList.drop (off + news.length)) = A2 from hsame, setRow_self _ g A2.toArray o'.e (0, 0) hh] at hrun2
            rw [eoff]
            simp [Instr.storeAt, Instr.sureAddr, storeVar, sizeOf, typeInfo, hie, hs1, hsz, hn, hrun2]
        split at hst
        · rename_i c
          split at hst
          · rename_i cs2 hd hok hcs
            simp only [decide_eq_true_eq] at hd
            injection hst with hst; simp only [Prod.mk.injEq] at hst; obtain ⟨rfl, rfl, rfl⟩ := hst
            obtain ⟨hc1, hc2⟩ := okC_ok hok hy
            have hset := Cs.st1_ok hcs hc hy
            rw [set_seg _ _ _ hlt] at hset
            exact key [vy] cs2 (by rw [hc1]) (by simp [hd]) (by simp; omega) (by simpa using hc2) (by simpa using hset)
          · cases hst
        · rename_i n ys
          split at hst
          · rename_i hd hok
            simp only [decide_eq_true_eq] at hd
            obtain ⟨vys, hys, hyn, rfl⟩ := hy
            have h1c := okX_ok hok hys
            split at hst
            · rename_i hd2
              simp only [decide_eq_true_eq] at hd2
              obtain ⟨rfl, hn2⟩ := hd2
              injection hst with hst; simp only [Prod.mk.injEq] at hst; obtain ⟨rfl, rfl, rfl⟩ := hst
              refine key vys ys (by simp [Value.cells]) (by rw [hyn, hd]) (by omega) (fun u hu => (h1c u hu).2) ?_
              rw [List.drop_of_length_le (by omega)]
              simpa using hys
            · split at hst
              · rename_i l hcsl
                split at hst
                · rename_i hd3
                  simp only [decide_eq_true_eq] at hd3
                  injection hst with hst; simp only [Prod.mk.injEq] at hst; obtain ⟨rfl, rfl, rfl⟩ := hst
                  rw [hcsl] at hc
                  have hll : l.length = vs.length := hc.1
                  refine key vys _ (by simp [Value.cells]) (by rw [hyn, hd]) (by omega) (fun u hu => (h1c u hu).2) ?_
                  rw [hyn]
                  exact F2.append (F2.append (F2.take hc off) (exC_ok hys hyn)) (F2.drop hc _)
                · cases hst
              · cases hst
          · cases hst
        · cases hst
    · cases hst
  · cases hst

/-! ### append -/
def Cs.app : Cs → Cs → Option Cs
  | .b l, .b r => some (.b (l ++ r))
  | .w l, .w r => some (.w (l ++ r))
  | .q l, .q r => some (.q (l ++ r))
  | .z l, .z r => some (.z (l ++ r))
  | .c l, .c r => some (.c (l ++ r))
  | _, _ => none
theorem Cs.app_ok {x y z : Cs} (h : x.app y = some z) {xs ys : List Value} (hx : csR ρ x xs) (hy : csR ρ y ys) : csR ρ z (xs ++ ys) := by
  unfold Cs.app at h
  split at h <;> first
    | (injection h with h; subst h; unfold csR Cs.cl; simp only [List.map_append]; exact F2.append hx hy)
    | (injection h with h; subst h; exact F2.append hx hy)
    | cases h
/-- what a slice reads as, in cells -/
def vcs (H : Hp) (x : Cl) : Option (Nat × Nat × Cs) := match x with
  | .wh i => (match liveS H i with | some o => some (o.sz, o.n, o.cs) | none => none)
  | .sl i lo n => (match liveS H i with | some o => some (o.sz, n, o.cs.part (mulS lo o.sz) (mulS n o.sz)) | none => none)
  | _ => none
theorem vcs_ok {H : Hp} (hp : HpR ρ w H) {x : Cl} {sz n : Nat} {cs : Cs} (h : vcs H x = some (sz, n, cs)) {v : Value} (hv : clR ρ x v) : ∃ vs, csR ρ cs vs ∧ SlR w v n sz vs := by
  cases x with
  | wh i =>
    simp only [vcs] at h
    cases hl : liveS H i with
    | none => simp [hl] at h
    | some o =>
      simp only [hl] at h
      injection h with h; simp only [Prod.mk.injEq] at h; obtain ⟨rfl, rfl, rfl⟩ := h
      obtain ⟨h1, h2, vs, hc, hS⟩ := slc_ok hp (x := .wh i) (o := o) (lo := 0) (n := o.n) (by simp [slc, hl]) hv
      refine ⟨vs, hc, ?_⟩
      have hlen : vs.length = o.n * o.sz := by rw [hc.len, h2]
      rw [Nat.zero_mul, List.drop_zero, List.take_of_length_le (by omega)] at hS
      exact hS
  | sl i lo m =>
    simp only [vcs] at h
    cases hl : liveS H i with
    | none => simp [hl] at h
    | some o =>
      simp only [hl] at h
      injection h with h; simp only [Prod.mk.injEq] at h; obtain ⟨rfl, rfl, rfl⟩ := h
      obtain ⟨h1, h2, vs, hc, hS⟩ := slc_ok hp (x := .sl i lo m) (o := o) (lo := lo) (n := m) (by simp [slc, hl]) hv
      refine ⟨_, ?_, hS⟩
      unfold csR
      rw [Cs.part_cl, mulS_eq, mulS_eq]
      exact (F2.drop hc _).take _
  | _ => simp [vcs] at h

def killH (H : Hp) (i : Nat) : Hp := match H[i]? with
  | some o => H.set i { o with kd := .dead }
  | none => H
theorem killH_len (H : Hp) (i : Nat) : (killH H i).length = H.length := by unfold killH; split <;> simp
theorem killH_at {H : Hp} {i j : Nat} {x : Oj} (h : (killH H i)[j]? = some x) : x.kd = .dead ∨ (j ≠ i ∧ H[j]? = some x) := by
  unfold killH at h
  split at h
  · rename_i o ho
    rw [List.getElem?_set] at h
    by_cases e : i = j
    · subst e
      rw [if_pos rfl] at h
      split at h
      · injection h with h; left; rw [← h]
      · cases h
    · rw [if_neg e] at h; exact .inr ⟨fun h => e h.symm, h⟩
  · rename_i ho
    by_cases e : j = i
    · subst e; rw [ho] at h; cases h
    · exact .inr ⟨e, h⟩
def Cs.len : Cs → Nat
  | .b l => l.length
  | .w l => l.length
  | .q l => l.length
  | .z l => l.length
  | .c l => l.length
theorem Cs.len_cl (cs : Cs) : cs.cl.length = cs.len := by cases cs <;> simp [Cs.cl, Cs.len]
/-- how many elements: by the list where an element is one cell -/
def nOf (sz : Nat) (cs : Cs) (n : Nat) : Nat := match sz with | 1 => cs.len | _ => n
theorem nOf_eq {sz : Nat} {cs : Cs} {n : Nat} (h : cs.cl.length = n * sz) : nOf sz cs n = n := by
  unfold nOf; split
  · rw [← Cs.len_cl, h, Nat.mul_one]
  · rfl
def killM (io : Option Nat) (H : Hp) : Hp := match io with | some i => killH H i | none => H
/-- append: what has to hold, the object that it takes (if any), the new one -/
def apB (H : Hp) (te : Ti) (e : TypeId) (cx : Cl) (sz m : Nat) (ys : Cs) : Option (List Prop × Option Nat × Oj) := match cx with
  | .wh i => (match live H i with
    | some o => (match o.kd, decide (o.e = e ∧ o.sz = te.size), o.cs.app ys with
      | .row, true, some cs' => some ([rmB (o.n + m) te.bytes], some i, ⟨.row, e, o.sz, nOf o.sz cs' (o.n + m), cs'⟩)
      | _, _, _ => none)
    | none => none)
  | .nils => some ([rmB m te.bytes], none, ⟨.row, e, sz, nOf sz ys m, ys⟩)
  | _ => none
def apC (H : Hp) (te : Ti) (e : TypeId) (zs : List Z) (cx cy : Cl) : Option (List Prop × Option Nat × Oj) :=
  match decide (zs.length = te.size ∧ 0 < te.size ∧ 0 < te.bytes), vcs H cy with
  | true, some (sz, m, ys) => (match decide (sz = te.size), okX ys with
    | true, true => apB H te e cx sz m ys
    | _, _ => none)
  | _, _ => none
def apA (T : Tab) (H : Hp) (t : TypeId) (x y : AV) : Option (List Prop × Option Nat × Oj) := match slT T t with
  | some e => (match T e with
    | some te => (match te.z with
      | some zs => (match x with
        | .c cx => (match y with
          | .c cy => apC H te e zs cx cy
          | _ => none)
        | _ => none)
      | none => none)
    | none => none)
  | none => none
theorem run_append_gen (hT : TabOk P T) {t e ty : TypeId} {te : Ti} (ut : P.underlying t = some (.slice e)) (hte : T e = some te) {zs : List Z} (hz : te.z = some zs) (hzl : zs.length = te.size) (hpos : 0 < te.size) (hb : 0 < te.bytes)
    {v y : Value} {n m : Nat} {xs ys : List Value} (hown : w.ownsRow 0 e te.size v n xs) (hy : SlR w y m te.size ys) (h1 : ∀ u ∈ ys, u.oneCell' = true) (hroom : rmB (n + m) te.bytes) :
    ∃ v' w', (Builtin.append_ #[t, t] ty #[v, y]).run P w = .ok v' w' ∧ w'.ownsRow 0 e te.size v' (n + m) (xs ++ ys) ∧ w.grownBy w' v.ownBlock ∧ (v'.ownBlock = v.ownBlock ∨ v'.ownBlock = some w.heap.size) := by
  obtain ⟨ie, hie, hs1, hs2, _, hzz⟩ := (hT.at hte).i
  obtain ⟨zv, hzv, hzc⟩ := hzz zs hz
  obtain ⟨hl, A, c, rfl, g1, g2, g3, g4⟩ := hy
  unfold rmB at hroom
  cases A with
  | none =>
    have hc0 := g3 rfl
    have hm : m = 0 := by omega
    subst hm
    have hys : ys = [] := List.eq_nil_of_length_eq_zero (by omega)
    subst hys
    refine ⟨v, w, ?_, by simpa using hown, World.grownBy.refl w _, .inl rfl⟩
    rcases hown.2 with ⟨rfl, h0⟩ | ⟨g, cap, cur, rfl, _, _, hnc, _⟩
    · simp [Builtin.append_, run_underlying ut, sizeOf, typeInfo, hie, Builtin.lenOf, Builtin.firstCells]
    · simp [Builtin.append_, run_underlying ut, sizeOf, typeInfo, hie, Builtin.lenOf, Builtin.firstCells, hnc, storeCells]
  | some ad =>
    have h63 : n + m ≤ maxLen := by
      have := Nat.le_mul_of_pos_right (n + m) hb
      unfold maxLen; omega
    obtain ⟨v', w', hrun, h2, h3, _, h5⟩ := run_append_own_at (P := P) w 0 t ty e ie zv te.size te.bytes ut hie hzv hs1 hs2 (by rw [hzc]; simpa using hzl) hpos v n xs hown ad m c ys hl (g4 ad rfl) h1 h63 hroom (Nat.zero_le _)
    exact ⟨v', w', hrun, h2, h3, h5⟩
theorem ownsRow_form {base : Nat} {e : TypeId} {sz : Nat} {v : Value} {n : Nat} {xs : List Value} (h : w.ownsRow base e sz v n xs) : ∃ A cap, v = .slice A n cap ∧ v.ownBlock = A.map (·.block) := by
  rcases h.2 with ⟨rfl, h0⟩ | ⟨g, cap, cur, rfl, _⟩
  · exact ⟨none, 0, by rw [h0], rfl⟩
  · exact ⟨_, _, rfl, rfl⟩
theorem apA_ok (hT : TabOk P T) (h : RelA ρ bs w0 s a w) (hs : okS s = true) {t ty : TypeId} {x y : AV} {g : List Prop} {io : Option Nat} {o' : Oj} (ha : apA T s.H t x y = some (g, io, o')) (hlt : ltX s.H.length o'.cs = true) (hg : allP g)
    {vx vy : Value} (hx : avR ρ x vx) (hy : avR ρ y vy) {d : Option Nat} (hd : ∀ k, d = some k → k < a.tmps.size) :
    ∃ u w' p, (Builtin.append_ #[t, t] ty #[vx, vy]).run P w = .ok u w' ∧
      RelA (upd ρ s.H.length p) bs w0 ⟨putF s.fr d (.c (.wh s.H.length)), s.gl, killM io s.H ++ [o']⟩ (a.put d u) w' := by
  unfold apA at ha
  split at ha
  · rename_i e he
    have ut := slT_ok hT he
    split at ha
    · rename_i te hte
      split at ha
      · rename_i zs hz
        obtain ⟨cx, rfl⟩ : ∃ cx, x = .c cx := by cases x with | c cx => exact ⟨cx, rfl⟩ | _ => simp at ha
        obtain ⟨cy, rfl⟩ : ∃ cy, y = .c cy := by cases y with | c cy => exact ⟨cy, rfl⟩ | _ => simp at ha
        simp only at ha
        unfold apC at ha
        split at ha
        · rename_i sz m ys hdec hvy
          simp only [decide_eq_true_eq] at hdec
          obtain ⟨d1, d2, d3⟩ := hdec
          split at ha
          · rename_i hsz hok
            simp only [decide_eq_true_eq] at hsz
            subst hsz
            obtain ⟨vys, hcy, hSy⟩ := vcs_ok h.hp hvy hy
            have h1c := fun u hu => (okX_ok hok hcy u hu).2
            -- the new object, whatever it took
            have fin : ∀ (v' : Value) (w' : World) (n' : Nat) (cs' : Cs) (xs' : List Value) (io : Option Nat) (H' : Hp), w'.ownsRow 0 e te.size v' n' xs' → csR ρ cs' xs' → ltX s.H.length cs' = true → w.grownBy w' vx.ownBlock →
                H'.length = s.H.length → (∀ (j : Nat) (z : Oj), H'[j]? = some z → z.kd = .dead ∨ (s.H[j]? = some z ∧ ∀ g, vx.ownBlock = some g → ¬ objAt (ρ j) z g)) → (v'.ownBlock = vx.ownBlock ∨ v'.ownBlock = some w.heap.size) → (∀ g, vx.ownBlock = some g → w0.heap.size ≤ g ∨ bs g) →
                ∃ p, RelA (upd ρ s.H.length p) bs w0 ⟨putF s.fr d (.c (.wh s.H.length)), s.gl, H' ++ [⟨.row, e, te.size, n', cs'⟩]⟩ (a.put d v') w' := by
              intro v' w' n' cs' xs' io H' ho hc hl hgr hlen hH' hblk hown
              obtain ⟨A, cap, rfl, hA⟩ := ownsRow_form ho
              refine ⟨⟨A, n', cap, te.size⟩, h.new hs hl hlen (fun j z hz => ?_) (h.kp.grown hgr hown) (show objR ρ w' ⟨A, n', cap, te.size⟩ ⟨.row, e, te.size, n', cs'⟩ from ⟨⟨rfl, rfl, by rw [← hc.len]; exact ho.1⟩, xs', hc, ho⟩) (fun _ j z g hz hzk hat _ hat2 => ?_) (fun _ g hat => ?_) _ _ ?_⟩
              · rcases hH' j z hz with hd | ⟨hz1, hz2⟩
                · exact .inl hd
                · exact .inr ⟨hz1, (h.hp j z hz1).keep fun g hlt hat => hgr.block g hlt (fun e => hz2 g e.symm hat)⟩
              · rcases hH' j z hz with hd | ⟨hz1, hz2⟩
                · exact hzk hd
                · obtain ⟨ad, had, rfl⟩ := hat
                  have hob : (Value.slice A n' cap).ownBlock = some ad.block := by rw [hA, show A = some ad from had]; rfl
                  rcases hblk with hb | hb
                  · rw [hob] at hb; exact hz2 _ hb.symm hat2
                  · rw [hob] at hb; injection hb with hb
                    have := objAt_lt (h.hp j z hz1) hat2
                    omega
              · obtain ⟨ad, had, rfl⟩ := hat
                have hob : (Value.slice A n' cap).ownBlock = some ad.block := by rw [hA, show A = some ad from had]; rfl
                rcases hblk with hb | hb
                · rw [hob] at hb; exact hown _ hb.symm
                · rw [hob] at hb; injection hb with hb
                  exact .inl (by rw [hb]; exact h.kp.size)
              · refine putF_ok (fun t x hx => ltA_ok upd_lt (ltF_ok (okS_ok hs).1 t x hx) (h.fr t x hx)) ?_ hd
                show clR _ (.wh _) _
                simp only [clR, upd_at]
            unfold apB at ha
            split at ha
            · rename_i i
              split at ha
              · rename_i o hl
                obtain ⟨h1, h2⟩ := live_ok hl
                split at ha
                · rename_i cs' hkd hdec2 happ
                  simp only [decide_eq_true_eq] at hdec2
                  obtain ⟨rfl, e2⟩ := hdec2
                  injection ha with ha; simp only [Prod.mk.injEq] at ha; obtain ⟨rfl, rfl, rfl⟩ := ha
                  have hr := h.hp i o h1
                  unfold objR at hr
                  simp only [hkd] at hr
                  obtain ⟨⟨f1, f2, f3⟩, vxs, hcx, hrow⟩ := hr
                  have hvx : vx = .slice (ρ i).A (ρ i).n (ρ i).cap := hx
                  rw [← hvx, f2, e2] at hrow
                  simp only [allP] at hg
                  obtain ⟨v', w', hrun, ho, hgr, hblk⟩ := run_append_gen hT ut hte hz d1 d2 d3 hrow hSy h1c hg (ty := ty)
                  have hown : o.own = true := by unfold Oj.own; rw [hkd]
                  have hat : ∀ g, vx.ownBlock = some g → objAt (ρ i) o g := fun g hgb => by
                    rw [hvx] at hgb
                    cases hA : (ρ i).A with
                    | none => rw [hA] at hgb; cases hgb
                    | some ad => rw [hA] at hgb; injection hgb with hgb; subst hgb; exact objAt_own hown hA
                  rw [← e2] at fin
                  rw [← e2] at ho
                  have hcz := Cs.app_ok happ hcx hcy
                  have hnn : nOf o.sz cs' (o.n + m) = o.n + m := nOf_eq (by rw [← hcz.len]; exact ho.1)
                  simp only [hnn] at hlt ⊢
                  obtain ⟨p, hp⟩ := fin v' w' (o.n + m) cs' _ (some i) (killH s.H i) ho hcz hlt hgr (killH_len _ _) (fun j z hz => by
                    rcases killH_at hz with hd | ⟨hj, hz1⟩
                    · exact .inl hd
                    · exact .inr ⟨hz1, fun g hgb => h.sep i j o z g (fun e => hj e.symm) h1 hz1 hown (hat g hgb)⟩) hblk (fun g hgb => h.own i o g h1 (Oj.fsh_own hown) (hat g hgb))
                  exact ⟨v', w', p, hrun, hp⟩
                · cases ha
              · cases ha
            · injection ha with ha; simp only [Prod.mk.injEq] at ha; obtain ⟨rfl, rfl, rfl⟩ := ha
              have hvx : vx = .slice none 0 0 := hx
              subst hvx
              simp only [allP] at hg
              obtain ⟨v', w', hrun, ho, hgr, hblk⟩ := run_append_gen hT ut hte hz d1 d2 d3 (World.ownsRow_nil w 0 e te.size) hSy h1c (by simpa using hg) (ty := ty)
              rw [Nat.zero_add, List.nil_append] at ho
              have hnn : nOf te.size ys m = m := nOf_eq (by rw [← hcy.len]; exact ho.1)
              simp only [hnn] at hlt ⊢
              obtain ⟨p, hp⟩ := fin v' w' m ys vys none s.H ho hcy hlt hgr rfl (fun j z hz => .inr ⟨hz, fun g hgb => by cases hgb⟩) hblk (fun g hgb => by cases hgb)
              exact ⟨v', w', p, hrun, hp⟩
            · cases ha
          · cases ha
        · cases ha
      · cases ha
    · cases ha
  · cases ha
end
end Go.Sx
