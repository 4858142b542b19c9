import Derived.Test.YtpinmaodpfoinaaSxS
set_option linter.unusedVariables false
set_option linter.unusedSimpArgs false
namespace Go.Sx
open Go.RowKit Go.Ch
section
variable {P : Program} {T : Tab} {ρ ρ' : Pls} {w w' : World} {bs : Bs} {w0 : World} {s s' : S} {a : Act} {N : Nat}

/-! ### what is handed back, cells among it -/
def rvA (T : Tab) (s : S) : ResultVar → Option AV
  | .tmp t => s.fr.lookup t
  | .cell p ty => match s.fr.lookup p with
    | some x => (match ldA T s.H ty x with | some ([], z) => some z | _ => none)
    | none => none
theorem loadAt_run {t : TypeId} {v u : Value} (h : (Instr.loadAt t v).run P w = .ok u w) : (do loadVar t (← asAddr v) : Sem Value).run P w = .ok u w := by
  unfold Instr.loadAt Instr.sureAddr at h
  cases v with
  | pointer a => cases a with
    | some a => simpa [asAddr] using h
    | none => simp at h
  | _ => simp at h
def rvM (tmps : Array Value) : ResultVar → Sem Value
  | .tmp t => pure (tmps.getD t undef)
  | .cell p ty => do loadVar ty (← asAddr (tmps.getD p undef))
theorem results_rv (fn : Func) (tmps : Array Value) : results fn tmps = (do
    let vs ← fn.results.mapM (rvM tmps)
    pure (if h : vs.size = 1 then vs[0] else .tuple vs)) := by
  unfold results
  have e : rvM tmps = fun r => (match r with | .tmp t => (pure (tmps.getD t undef) : Sem Value) | .cell p ty => (do loadVar ty (← asAddr (tmps.getD p undef)))) := by
    funext r; cases r <;> rfl
  rw [e]; rfl
theorem rvA_ok (hT : TabOk P T) (hr : RelA ρ bs w0 s a w) {r : ResultVar} {av : AV} (h : rvA T s r = some av) :
    ∃ v, (rvM a.tmps r).run P w = .ok v w ∧ avR ρ av v := by
  cases r with
  | tmp t => exact ⟨_, rfl, hr.fr t _ h⟩
  | cell p ty =>
    simp only [rvA] at h
    split at h
    · rename_i x hx
      split at h
      · rename_i z hz
        injection h with h; subst h
        obtain ⟨u, h1, h2⟩ := ldA_ok hT hr.hp hz allP_nil (hr.fr p x hx)
        exact ⟨u, loadAt_run h1, h2⟩
      · cases h
    · cases h
def a1Of : AV → Option A1
  | .c x => some (.c x)
  | .g n cs => some (.g n cs)
  | .t _ => none
theorem a1Of_ok {x : AV} {y : A1} (h : a1Of x = some y) {v : Value} (hv : avR ρ x v) : a1R ρ y v := by
  cases x <;> simp only [a1Of] at h <;> first | (injection h with h; subst h; exact hv) | cases h
def resA (T : Tab) (s : S) : List ResultVar → Option AV
  | [] => some (.t [])
  | [r] => rvA T s r
  | [r, r'] => (match rvA T s r, rvA T s r' with
    | some x, some y => (match a1Of x, a1Of y with | some x, some y => some (.t [x, y]) | _, _ => none)
    | _, _ => none)
  | [r, r', r''] => (match rvA T s r, rvA T s r', rvA T s r'' with
    | some x, some y, some z => (match a1Of x, a1Of y, a1Of z with | some x, some y, some z => some (.t [x, y, z]) | _, _, _ => none)
    | _, _, _ => none)
  | _ => none
theorem resA_ok (hT : TabOk P T) (hr : RelA ρ bs w0 s a w) {fn : Func} {rs : List ResultVar} (hf : fn.results = rs.toArray) {av : AV} (h : resA T s rs = some av) :
    ∃ v, (results fn a.tmps).run P w = .ok v w ∧ avR ρ av v := by
  unfold resA at h
  split at h
  · injection h with h; subst h
    exact ⟨.tuple #[], by simp [results, hf], [], F2.nil, rfl⟩
  · rename_i r
    obtain ⟨v, h1, h2⟩ := rvA_ok hT hr h
    refine ⟨v, ?_, h2⟩
    rw [results_rv, hf]; simp [h1]
  · rename_i r r'
    split at h
    · rename_i x y hx hy
      split at h
      · rename_i x1 y1 hx1 hy1
        injection h with h; subst h
        obtain ⟨v, h1, h2⟩ := rvA_ok hT hr hx
        obtain ⟨u, h3, h4⟩ := rvA_ok hT hr hy
        refine ⟨.tuple #[v, u], ?_, [v, u], F2.cons (a1Of_ok hx1 h2) (F2.cons (a1Of_ok hy1 h4) F2.nil), rfl⟩
        rw [results_rv, hf]; simp [h1, h3]
      · cases h
    · cases h
  · rename_i r r' r''
    split at h
    · rename_i x y z hx hy hz
      split at h
      · rename_i x1 y1 z1 hx1 hy1 hz1
        injection h with h; subst h
        obtain ⟨v, h1, h2⟩ := rvA_ok hT hr hx
        obtain ⟨u, h3, h4⟩ := rvA_ok hT hr hy
        obtain ⟨t, h5, h6⟩ := rvA_ok hT hr hz
        refine ⟨.tuple #[v, u, t], ?_, [v, u, t], F2.cons (a1Of_ok hx1 h2) (F2.cons (a1Of_ok hy1 h4) (F2.cons (a1Of_ok hz1 h6) F2.nil)), rfl⟩
        rw [results_rv, hf]; simp [h1, h3, h5]
      · cases h
    · cases h
  · cases h
def retS (T : Tab) (s : S) (rs : List ResultVar) (objs : List Nat) : Option (AV × Hp) := match resA T s rs with
  | some av => (match keep [0] objs ⟨[(0, av)], [], s.H⟩ with
    | some ⟨[(0, x)], _, H⟩ => (match ltA H.length x && ltH H.length H with | true => some (x, H) | false => none)
    | _ => none)
  | none => none
theorem retS_ok {gv : Nat → Value} (hT : TabOk P T) (hR : Rel N (noB gv) w s a w') {fn : Func} {rs : List ResultVar} (hf : fn.results = rs.toArray) {objs : List Nat} {av : AV} {H' : Hp} (h : retS T s rs objs = some (av, H')) {ρ0 : Pls} {H : Hp} :
    ∃ v, (results fn a.tmps).run P w' = .ok v w' ∧ Ext w w' ∧ ∃ ps, Left ρ0 w H (shA H.length av) (shH H.length H') v w' ps := by
  obtain ⟨_, _, ρ, hr⟩ := hR
  unfold retS at h
  split at h
  · rename_i x hx
    obtain ⟨v, h1, h2⟩ := resA_ok hT hr hf hx
    split at h
    · rename_i y gl H2 hk
      split at h
      · rename_i hlt
        simp only [Bool.and_eq_true] at hlt
        injection h with h; simp only [Prod.mk.injEq] at h; obtain ⟨rfl, rfl⟩ := h
        have h0 : Rel 1 (noB gv) w ⟨[(0, x)], [], s.H⟩ { tmps := #[v], defers := [] } w' := ⟨rfl, rfl, ρ, fun t z hz => by
          rw [List.lookup_cons] at hz
          split at hz
          · rename_i e
            have : t = 0 := by simpa using e
            subst this
            injection hz with hz; subst hz; exact h2
          · simp at hz, GlR.nil, hr.hp, hr.sep, hr.own, hr.kp⟩
        obtain ⟨_, _, ρ2, hr2⟩ := keep_ok hk h0
        have hv := hr2.fr 0 y rfl
        exact ⟨v, h1, hr.kp.below, left_of hr2 hv hlt.1 hlt.2⟩
      · cases h
    · cases h
  · cases h

/-! ### structs and arrays that are handed in -/
def aGb (n : Nat) : AV → Option (List UInt8) | .g m cs => (match Nat.beq m n with | true => csB cs | false => none) | _ => none
def aGw (n : Nat) : AV → Option (List UInt32) | .g m cs => (match Nat.beq m n with | true => csW cs | false => none) | _ => none
def aGq (n : Nat) : AV → Option (List UInt64) | .g m cs => (match Nat.beq m n with | true => csQ cs | false => none) | _ => none
def aGc (n : Nat) : AV → Option (List Cl) | .g m (.c l) => (match Nat.beq m n && Nat.beq l.length n with | true => some l | false => none) | _ => none
theorem aGb_ok {n : Nat} {x : AV} {l : List UInt8} (h : aGb n x = some l) {v : Value} (hv : avR ρ x v) (ρ' : Pls) : avR ρ' (.g n (.b l)) v ∧ l.length = n := by
  unfold aGb at h
  split at h
  · split at h
    · rename_i hm
      have e := Nat.eq_of_beq_eq_true hm
      subst e
      obtain ⟨vs, h1, h2, h3⟩ := hv
      have := csB_ok h h1
      subst this
      exact ⟨⟨_, csR_b.2 rfl, h2, h3⟩, by simpa using h2⟩
    · cases h
  · cases h
theorem aGw_ok {n : Nat} {x : AV} {l : List UInt32} (h : aGw n x = some l) {v : Value} (hv : avR ρ x v) (ρ' : Pls) : avR ρ' (.g n (.w l)) v ∧ l.length = n := by
  unfold aGw at h
  split at h
  · split at h
    · rename_i hm
      have e := Nat.eq_of_beq_eq_true hm
      subst e
      obtain ⟨vs, h1, h2, h3⟩ := hv
      have := csW_ok h h1
      subst this
      exact ⟨⟨_, csR_w.2 rfl, h2, h3⟩, by simpa using h2⟩
    · cases h
  · cases h
theorem aGq_ok {n : Nat} {x : AV} {l : List UInt64} (h : aGq n x = some l) {v : Value} (hv : avR ρ x v) (ρ' : Pls) : avR ρ' (.g n (.q l)) v ∧ l.length = n := by
  unfold aGq at h
  split at h
  · split at h
    · rename_i hm
      have e := Nat.eq_of_beq_eq_true hm
      subst e
      obtain ⟨vs, h1, h2, h3⟩ := hv
      have := csQ_ok h h1
      subst this
      exact ⟨⟨_, csR_q.2 rfl, h2, h3⟩, by simpa using h2⟩
    · cases h
  · cases h
theorem lstE {α : Type} (d : α) {l : List α} {n : Nat} (h : l.length = n) : l = (List.range n).map fun i => l.getD i d := by
  subst h
  apply List.ext_getElem?
  intro i
  by_cases hi : i < l.length
  · simp [hi]
  · simp [hi]
theorem F2.getD {l : List Cl} {vs : List Value} (h : F2 (clR ρ) l vs) (i : Nat) (hi : i < vs.length) : avR ρ (.c (l.getD i .junk)) (vs.getD i undef) := by
  have hl : i < l.length := by have := h.1; omega
  have := h.2 i _ _ (List.getElem?_eq_getElem hl) (List.getElem?_eq_getElem hi)
  show clR ρ _ _
  rw [List.getD_eq_getElem?_getD, List.getD_eq_getElem?_getD, List.getElem?_eq_getElem hl, List.getElem?_eq_getElem hi]
  exact this
theorem aGc_ok {n : Nat} {x : AV} {l : List Cl} (h : aGc n x = some l) {v : Value} (hv : avR ρ x v) : ∃ vs : List Value, vs.length = n ∧ v = .agg vs.toArray ∧ ∀ i, i < n → avR ρ (.c (l.getD i .junk)) (vs.getD i undef) := by
  unfold aGc at h
  split at h
  · split at h
    · rename_i hm
      simp only [Bool.and_eq_true] at hm
      injection h with h; subst h
      have e := Nat.eq_of_beq_eq_true hm.1
      have e2 := Nat.eq_of_beq_eq_true hm.2
      subst e
      obtain ⟨vs, h1, h2, h3⟩ := hv
      have h1' : F2 (clR ρ) _ vs := h1
      refine ⟨vs, h2, h3, fun i hi => ?_⟩
      have := F2.getD h1' i (by omega)
      exact this
    · cases h
  · cases h
end
end Go.Sx
