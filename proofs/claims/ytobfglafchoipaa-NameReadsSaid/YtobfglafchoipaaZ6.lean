import Derived.Test.YtobfglafchoipaaZ5
import Derived.Test.YtobfglafchoipaaProg
set_option linter.unusedVariables false
set_option linter.unusedSimpArgs false
section
namespace Go.Sx
open Go Go.RowKit Go.Ch Go.Proofs.Ytobfglafchoipaa
attribute [local irreducible] pAll elO hR hdF pRd
def onO (L : List UInt8) : Option (AttrT × List UInt8) :=
 match elO L with
 | some (m, body, rest) => if m = 48 then (match elO body with
  | some (o6, o, r1) => if o6 = 6 ∧ (pAll o).2 = none then (match elO r1 with
   | some (mk, t, r2) => if whV mk = false ∧ r2 = [] then some (((pAll o).1, mk, t), rest) else none
   | none => none) else none
  | none => none) else none
 | none => none
theorem pAll_err (o : List UInt8) : (pAll o).2 = none ∨ ∃ c, (pAll o).2 = some c := by
 cases h : (pAll o).2 with
 | none => exact .inl rfl
 | some c => exact .inr ⟨c, rfl⟩
theorem onO_rest {L rest : List UInt8} {a : AttrT} (h : onO L = some (a, rest)) : ∃ body, elO L = some (48, body, rest) := by
 unfold onO at h
 split at h
 ·rename_i m body r he
  split at h
  ·rename_i hm; subst hm
   split at h
   ·split at h
    ·split at h
     ·split at h
      ·injection h with h; injection h with _ h; subst h; exact ⟨body, he⟩
      ·cases h
     ·cases h
    ·cases h
   ·cases h
  ·cases h
 ·cases h
theorem At0.to {b : List UInt8} {at_ e : Nat} {L L' : List UInt8} (h : At0 b at_ e L) (k : L = L') : At0 b at_ e L' := by subst k; exact h
theorem nOne_at {n : Nat} (hn : 8000 < n + 3901) {b : List UInt8} (hb : b.length < n) (hb2 : b.length ≤ 100000) {at_ e : Nat} {L : List UInt8} (h : At0 b at_ e L) (es : List Int) (hes : es.length ≤ 10) :
  (∃ a rest, onO L = some (a, rest) ∧ ∃ at2 : Nat, At0 b at2 e rest ∧ nOne n b (at_ : Int) (es ++ [(e : Int)]) = some ((at2 : Int), es ++ [(e : Int)], a.1, a.2.1, a.2.2, none)) ∨ (onO L = none ∧ ∃ r c, nOne n b (at_ : Int) (es ++ [(e : Int)]) = some r ∧ r.2.2.2.2.2 = some c) := by
 have hn3 : 3 ≤ n := by omega
 have hle := h.le
 unfold nOne
 rcases tEnter_at hn3 h es (by omega) (by omega) 48 with ⟨body, rest, he, _, hr⟩ | ⟨⟨c, hr⟩, hno⟩
 ·rw [hr, Option.bind_some]
  simp only [Option.isNone_none, Bool.not_true, cond_false]
  obtain ⟨k1, _, _, _, _, _, _⟩ := elO_some he
  rw [k1] at h
  have hel : elF 48 body = hdF 48 (body.length : Int) ++ body := rfl
  have h1 : At0 b (at_ + (hdF 48 (body.length : Int)).length) (at_ + (elF 48 body).length) body := by
   have := h.into; rw [hel] at this ⊢; exact this.step
  have hafter : At0 b (at_ + (elF 48 body).length) e rest := h.step
  rcases tTake_at hn3 h1 (es ++ [(e : Int)]) (by simp; omega) (by omega) 6 with ⟨o, r1, he1, _, hr1⟩ | ⟨⟨c, hr1⟩, hno1⟩
  ·rw [hr1, Option.bind_some]
   simp only [Option.isNone_none, Bool.not_true, cond_false]
   obtain ⟨k2, _, _, _, _, _, _⟩ := elO_some he1
   have h2 := (h1.to k2).step
   have h1k := h1.to k2
   have hol : o.length ≤ b.length := by
    have e1 := h1k.fin; have e2 := h1k.le
    have : o.length ≤ (elF 6 o).length := by unfold elF; rw [List.length_append]; omega
    rw [List.length_append] at e1; omega
   rw [pReadOid_is (by omega) (by omega), Option.bind_some]
   rcases pAll_err o with ho | ⟨c, ho⟩
   ·rw [ho]
    simp only [Option.isNone_none, Bool.not_true, cond_false]
    rw [tNext_at n h2 _ (by simp; omega) (by omega), Option.bind_some]
    by_cases hr0 : r1 = []
    ·subst hr0
     refine .inr ⟨?_, ?_⟩
     ·unfold onO; rw [he]; simp only [if_true]; rw [he1]; simp only [ho, and_self, if_true]; rw [elO_nil]
     ·rw [if_pos rfl]
      rcases tTake_at hn3 h2 (es ++ [(e : Int)]) (by simp; omega) (by omega) 0 with ⟨_, _, he2, _⟩ | ⟨⟨c, hr2⟩, _⟩
      ·rw [elO_nil] at he2; cases he2
      ·simp only []
       rw [hr2, Option.bind_some]
       exact ⟨_, c, rfl, rfl⟩
    ·rw [if_neg hr0]
     simp only []
     rcases tTake_at hn3 h2 (es ++ [(e : Int)]) (by simp; omega) (by omega) (r1.getD 0 0) with ⟨t, r2, he2, hw2, hr2⟩ | ⟨⟨c, hr2⟩, hno2⟩
     ·rw [hr2, Option.bind_some]
      simp only [Option.isNone_none, Bool.not_true, cond_false]
      obtain ⟨k3, _, _, _, _, _, _⟩ := elO_some he2
      have h3 : At0 b (at_ + (hdF 48 (body.length : Int)).length + (elF 6 o).length + (elF (r1.getD 0 0) t).length) (at_ + (elF 48 body).length) r2 := by
       have h2' := h2
       rw [k3] at h2'
       exact h2'.step
      rw [tLeave_at n h3 (es ++ [(e : Int)]) (by simp) (by simp; omega) (by omega), Option.bind_some]
      by_cases hr3 : r2 = []
      ·rw [if_pos hr3]
       refine .inl ⟨((pAll o).1, r1.getD 0 0, t), rest, ?_, _, ?_, rfl⟩
       ·unfold onO; rw [he]; simp only [if_true]; rw [he1]; simp only [ho, and_self, if_true]; rw [he2]; simp only [hw2, hr3, and_self, if_true]
       ·have e1 := h3.fin
        rw [hr3, List.length_nil, Nat.add_zero] at e1
        rw [← e1]; exact hafter
      ·rw [if_neg hr3]
       refine .inr ⟨?_, _, 3, rfl, rfl⟩
       unfold onO; rw [he]; simp only [if_true]; rw [he1]; simp only [ho, and_self, if_true]; rw [he2]; simp only [hr3, and_false, if_false]
     ·rw [hr2, Option.bind_some]
      refine .inr ⟨?_, _, c, rfl, rfl⟩
      unfold onO; rw [he]; simp only [if_true]; rw [he1]; simp only [ho, and_self, if_true]
      cases he3 : elO r1 with
      | none => rfl
      | some q =>
       obtain ⟨mk, t, r2⟩ := q
       have hmk := (elO_some he3).2.2.2.2.2.2
       subst hmk
       simp only []
       rw [if_neg]
       rintro ⟨hw, _⟩
       rw [hno2 t r2 he3] at hw; cases hw
   ·rw [ho]
    refine .inr ⟨?_, _, c, rfl, rfl⟩
    unfold onO; rw [he]; simp only [if_true]; rw [he1]; simp only [ho, reduceCtorEq, and_false, if_false]
  ·rw [hr1, Option.bind_some]
   refine .inr ⟨?_, _, c, rfl, rfl⟩
   unfold onO; rw [he]; simp only [if_true]
   cases he1 : elO body with
   | none => rfl
   | some q =>
    obtain ⟨o6, o, r1⟩ := q
    simp only []
    rw [if_neg]
    rintro ⟨rfl, _⟩
    have := hno1 o r1 he1
    exact absurd this (by decide)
 ·rw [hr, Option.bind_some]
  refine .inr ⟨?_, _, c, rfl, rfl⟩
  unfold onO
  cases he : elO L with
  | none => rfl
  | some q =>
   obtain ⟨m, body, rest⟩ := q
   simp only []
   rw [if_neg]
   rintro rfl
   have := hno body rest he
   exact absurd this (by decide)
@[irreducible] def F4 : Nat := 4000
theorem F4_eq : F4 = 4000 := by unfold F4; rfl
def atsO : Nat → List UInt8 → Option (List AttrT)
 | 0, L => if L = [] then some [] else none
 | f + 1, L => if L = [] then some [] else match onO L with | some (a, rest) => (atsO f rest).map (a :: ·) | none => none
def stsO : Nat → List UInt8 → Option nmT
 | 0, L => if L = [] then some [] else none
 | f + 1, L => if L = [] then some [] else match elO L with
  | some (m, body, rest) => if m = 49 then (match atsO F4 body with | some s => (stsO f rest).map (s :: ·) | none => none) else none
  | none => none
def nmO (b : List UInt8) : Option nmT := match elO b with
 | some (m, body, rest) => if m = 48 ∧ rest = [] then stsO F4 body else none
 | none => none
abbrev StR := Int × List Int × nmT × Option Int
theorem steps_l2 {n : Nat} (hn : 8000 < n + 3901) {b : List UInt8} (hb : b.length < n) (hb2 : b.length ≤ 8000) (K : Int → List Int → nmT → Option StR) (d5 : nmT) (hd : d5.length ≤ 8000) {e1 e : Nat} (es : List Int) (hes : es.length ≤ 5)
  (rest : List UInt8) (hrest : At0 b e1 e rest) :
  ∀ (fu : Nat) (f : Nat) (L : List UInt8) (at_ : Nat) (acc : List AttrT), L.length < 2 * fu → L.length ≤ 2 * f → acc.length + L.length ≤ 20000 → At0 b at_ e1 L →
   (∃ s, atsO f L = some s ∧ nSteps_l2 n b d5 K fu (at_ : Int) ((es ++ [(e : Int)]) ++ [(e1 : Int)]) acc = K (e1 : Int) (es ++ [(e : Int)]) (d5 ++ [acc ++ s])) ∨
   (atsO f L = none ∧ ∃ r c, nSteps_l2 n b d5 K fu (at_ : Int) ((es ++ [(e : Int)]) ++ [(e1 : Int)]) acc = some r ∧ r.2.2.2 = some c)
 | 0, f, L, at_, acc, h1, h2, h3, h => by omega
 | fu + 1, f, L, at_, acc, h1, h2, h3, h => by
  rw [nSteps_l2, tNext_at n h _ (by simp; omega) (by omega), Option.bind_some]
  by_cases hL : L = []
  ·have hat : at_ = e1 := by have := h.fin; rw [hL] at this; simpa using this.symm
   rw [if_pos hL]
   refine .inl ⟨[], by cases f <;> simp [atsO, hL], ?_⟩
   rw [show (!(((0 : UInt8), false)).2) = true from rfl, cond_true]
   unfold nSteps_j2
   rw [tLeave_at n h _ (by simp) (by simp; omega) (by omega), Option.bind_some, if_pos hL, ite_f (by rfl), gd_pos (by unfold rmB; omega), List.append_nil, hat]
  ·rw [if_neg hL, show (!((L.getD 0 0, true)).2) = false from rfl, cond_false]
   obtain ⟨f, rfl⟩ : ∃ f', f = f' + 1 := ⟨f - 1, by have := List.length_pos_iff.2 hL; omega⟩
   rcases nOne_at hn hb (by omega) h (es ++ [(e : Int)]) (by simp; omega) with ⟨a, rs, ho, at2, h4, hr⟩ | ⟨ho, r, c, hr, hc⟩
   ·have hlt : rs.length + 2 ≤ L.length := by
     obtain ⟨bd, he⟩ := onO_rest ho
     have k1 := (elO_some he).1
     have k2 := elF_two 48 bd
     have := congrArg List.length k1
     rw [List.length_append] at this; omega
    rw [hr, Option.bind_some, ite_f (by rfl), gd_pos (by unfold rmB; omega)]
    rcases steps_l2 hn hb hb2 K d5 hd es hes rest hrest fu f rs at2 (acc ++ [(a.1, (a.2.1, a.2.2))]) (by omega) (by omega) (by simp; omega) h4 with ⟨s, hs, hk⟩ | ⟨hs, hk⟩
    ·refine .inl ⟨a :: s, ?_, ?_⟩
     ·rw [atsO, if_neg hL, ho]; simp only []; rw [hs]; rfl
     ·rw [hk, List.append_assoc]; rfl
    ·refine .inr ⟨?_, hk⟩
     rw [atsO, if_neg hL, ho]; simp only []; rw [hs]; rfl
   ·rw [hr, Option.bind_some, hc, ite_t (by rfl)]
    exact .inr ⟨by rw [atsO, if_neg hL, ho], _, c, rfl, rfl⟩
theorem steps_l1 {n : Nat} (hn : 8000 < n + 3901) {b : List UInt8} (hb : b.length < n) (hb2 : b.length ≤ 8000) {e1 e : Nat} (hfin : ∃ rest0, At0 b e1 e rest0) {rest0 : List UInt8} (hrest : At0 b e1 e rest0) :
  ∀ (fu : Nat) (f : Nat) (L : List UInt8) (at_ : Nat) (acc : nmT), L.length < 2 * fu → L.length ≤ 2 * f → acc.length + L.length ≤ 8000 → At0 b at_ e1 L →
   (∃ s, stsO f L = some s ∧ rest0 = [] ∧ ∃ x y, nSteps_l1 n b fu (at_ : Int) ([(e : Int)] ++ [(e1 : Int)]) acc = some (x, y, acc ++ s, none)) ∨
   ((stsO f L = none ∨ rest0 ≠ []) ∧ ∃ r c, nSteps_l1 n b fu (at_ : Int) ([(e : Int)] ++ [(e1 : Int)]) acc = some r ∧ r.2.2.2 = some c)
 | 0, f, L, at_, acc, h1, h2, h3, h => by omega
 | fu + 1, f, L, at_, acc, h1, h2, h3, h => by
  rw [nSteps_l1, tNext_at n h _ (by simp) (by omega), Option.bind_some]
  by_cases hL : L = []
  ·have hat : at_ = e1 := by have := h.fin; rw [hL] at this; simpa using this.symm
   rw [if_pos hL, show (!(((0 : UInt8), false)).2) = true from rfl, cond_true]
   unfold nSteps_j1
   rw [tLeave_at n h _ (by simp) (by simp) (by omega), Option.bind_some, if_pos hL, ite_f (by rfl)]
   simp only []
   rw [hat, tEnd_at n hrest (by omega), Option.bind_some]
   by_cases hr : rest0 = []
   ·rw [if_pos hr]
    exact .inl ⟨[], by cases f <;> simp [stsO, hL], hr, _, _, by rw [List.append_nil]⟩
   ·rw [if_neg hr]
    exact .inr ⟨.inr hr, _, 3, rfl, rfl⟩
  ·rw [if_neg hL, show (!((L.getD 0 0, true)).2) = false from rfl, cond_false]
   obtain ⟨f, rfl⟩ : ∃ f', f = f' + 1 := ⟨f - 1, by have := List.length_pos_iff.2 hL; omega⟩
   rcases tEnter_at (n := n) (by omega) h [(e : Int)] (by simp) (by omega) 49 with ⟨body, rs, he, _, hr⟩ | ⟨⟨c, hr⟩, hno⟩
   ·rw [hr, Option.bind_some, ite_f (by rfl)]
    simp only []
    obtain ⟨k1, _, _, _, _, _, _⟩ := elO_some he
    have k2 := elF_two 49 body
    have hlen : L.length = (elF 49 body).length + rs.length := (congrArg List.length k1).trans List.length_append
    have hbl : body.length ≤ L.length := by
     have : body.length ≤ (elF 49 body).length := by unfold elF; rw [List.length_append]; omega
     omega
    rw [k1] at h
    have hel : elF 49 body = hdF 49 (body.length : Int) ++ body := rfl
    have h4 : At0 b (at_ + (hdF 49 (body.length : Int)).length) (at_ + (elF 49 body).length) body := by
     have := h.into; rw [hel] at this ⊢; exact this.step
    have h5 : At0 b (at_ + (elF 49 body).length) e1 rs := h.step
    rcases steps_l2 hn hb hb2 (nSteps_l1 n b fu) acc (by omega) [(e : Int)] (by simp) rs h5 n F4 body _ [] (by omega) (by rw [F4_eq]; omega) (by simp; omega) h4 with ⟨s, hs, hk⟩ | ⟨hs, hk⟩
    ·rw [hk, List.nil_append]
     rcases steps_l1 hn hb hb2 hfin hrest fu f rs (at_ + (elF 49 body).length) (acc ++ [s]) (by omega) (by omega) (by simp; omega) h5 with ⟨s2, hs2, hr2, x, y, hk2⟩ | ⟨hs2, hk2⟩
     ·refine .inl ⟨s :: s2, ?_, hr2, x, y, ?_⟩
      ·rw [stsO, if_neg hL, he]; simp only [if_true]; rw [hs]; simp only []; rw [hs2]; rfl
      ·rw [hk2, List.append_assoc]; rfl
     ·refine .inr ⟨?_, hk2⟩
      rcases hs2 with hs2 | hs2
      ·left; rw [stsO, if_neg hL, he]; simp only [if_true]; rw [hs]; simp only []; rw [hs2]; rfl
      ·exact .inr hs2
    ·refine .inr ⟨.inl ?_, hk⟩
     rw [stsO, if_neg hL, he]; simp only [if_true]; rw [hs]
   ·rw [hr, Option.bind_some, ite_t (by rfl)]
    refine .inr ⟨.inl ?_, _, c, rfl, rfl⟩
    rw [stsO, if_neg hL]
    cases he : elO L with
    | none => rfl
    | some q =>
     obtain ⟨m, body, rest⟩ := q
     simp only []
     rw [if_neg]
     rintro rfl
     have := hno body rest he
     exact absurd this (by decide)
theorem At0.all (b : List UInt8) : At0 b 0 b.length b := ⟨⟨[], by simp⟩, by simp, Nat.le_refl _⟩
theorem nSteps_is {n : Nat} (hn : 8000 < n + 3901) {b : List UInt8} (hb : b.length < n) (hb2 : b.length ≤ 8000) :
  (∃ s x y, nmO b = some s ∧ nSteps n b 0 [(b.length : Int)] = some (x, y, s, none)) ∨ (nmO b = none ∧ ∃ r c, nSteps n b 0 [(b.length : Int)] = some r ∧ r.2.2.2 = some c) := by
 have h := At0.all b
 unfold nSteps
 rcases tEnter_at (n := n) (by omega) h [] (by simp) (by omega) 48 with ⟨body, rs, he, _, hr⟩ | ⟨⟨c, hr⟩, hno⟩
 ·rw [show ((0 : Nat) : Int) = 0 from rfl, List.nil_append] at hr
  rw [hr, Option.bind_some, ite_f (by rfl)]
  simp only []
  obtain ⟨k1, _, _, _, _, _, _⟩ := elO_some he
  have hlen : b.length = (elF 48 body).length + rs.length := (congrArg List.length k1).trans List.length_append
  have hbl : body.length ≤ b.length := by
   have : body.length ≤ (elF 48 body).length := by unfold elF; rw [List.length_append]; omega
   omega
  have h' : At0 b 0 b.length (elF 48 body ++ rs) := by rw [← k1]; exact h
  have hel : elF 48 body = hdF 48 (body.length : Int) ++ body := rfl
  have h4 : At0 b (0 + (hdF 48 (body.length : Int)).length) (0 + (elF 48 body).length) body := by
   have := h'.into; rw [hel] at this ⊢; exact this.step
  have h5 : At0 b (0 + (elF 48 body).length) b.length rs := h'.step
  rcases steps_l1 hn hb hb2 ⟨rs, h5⟩ h5 n F4 body _ [] (by omega) (by rw [F4_eq]; omega) (by simp; omega) h4 with ⟨s, hs, hr2, x, y, hk⟩ | ⟨hs, hk⟩
  ·exact .inl ⟨s, x, y, by unfold nmO; rw [he]; simp only [hr2, and_self, if_true]; exact hs, by rw [hk]; rfl⟩
  ·refine .inr ⟨?_, hk⟩
   unfold nmO; rw [he]
   rcases hs with hs | hs
   ·simp only [true_and]; rw [hs]; split <;> rfl
   ·simp only [hs, and_false, if_false]
 ·rw [show ((0 : Nat) : Int) = 0 from rfl, List.nil_append] at hr
  rw [hr, Option.bind_some, ite_t (by rfl)]
  refine .inr ⟨?_, _, c, rfl, rfl⟩
  unfold nmO
  cases he : elO b with
  | none => rfl
  | some q =>
   obtain ⟨m, body, rest⟩ := q
   simp only []
   rw [if_neg]
   rintro ⟨rfl, _⟩
   have := hno body rest he
   exact absurd this (by decide)
end Go.Sx
end
section
namespace Go.Sx
open Go Go.RowKit Go.Ch Go.Proofs.Ytobfglafchoipaa
attribute [local irreducible] pAll elO hR hdF pRd
theorem pAll_body {l : List UInt32} (h : oidOk l = true) : pAll (bodyOf l) = (l, none) := by
 obtain ⟨h2, h16⟩ := oidOk_len h
 have e : bodyOf l = grps ((40 * l.getD 0 0 + l.getD 1 0) :: l.drop 2) := rfl
 unfold pAll
 rw [e, pRd_grps _ [] (by simp; omega)]
 show pFin _ = _
 unfold pFin
 rw [List.nil_append, lOf_self h, if_pos ⟨by simp, h⟩]
theorem pAll_back {o : List UInt8} (h : (pAll o).2 = none) : bodyOf (pAll o).1 = o := by
 rcases all_eq o with ⟨l, h1, h2, h3, _⟩ | ⟨h3, _⟩
 ·rw [h3]; exact h2
 ·rw [h3] at h; cases h
theorem elF_ne (m : UInt8) (b r : List UInt8) : elF m b ++ r ≠ [] := fun h => by
 have := elF_two m b
 have h2 := congrArg List.length h
 rw [List.length_append, List.length_nil] at h2; omega
theorem onO_atF {x : AttrT} (h : atOk x = true) (rest : List UInt8) : onO (atF x ++ rest) = some (x, rest) := by
 obtain ⟨h1, h2, h3, h4, h5⟩ := atOk_parts h
 have e1 := elF_len 6 (bodyOf x.1)
 have e2 := elF_len x.2.1 x.2.2
 have e3 := bodyOf_len h4
 have hm : mkV x.2.1 = true ∧ whV x.2.1 = false := by rcases mkOk_or h1 with e | e <;> rw [e] <;> exact ⟨rfl, rfl⟩
 unfold onO atF
 rw [elO_el (m := 48) rfl (by rw [List.length_append]; omega)]
 simp only [if_true]
 rw [elO_el (m := 6) rfl (by omega)]
 simp only [pAll_body h4, and_self, if_true]
 have := elO_el (m := x.2.1) (body := x.2.2) (rest := []) hm.1 (by omega)
 rw [List.append_nil] at this
 rw [this]
 simp only [hm.2, and_self, if_true]
theorem atF_ne (x : AttrT) (r : List UInt8) : atF x ++ r ≠ [] := elF_ne _ _ _
theorem atsO_stp : ∀ (l : List AttrT) (f : Bool) (last y : List UInt8) (F : Nat), stpF l f last = some y → l.length ≤ F → atsO F y = some l
 | [], f, last, y, F, h, hF => by injection h with h; subst h; cases F <;> simp [atsO]
 | x :: t, f, last, y, F, h, hF => by
  rw [stpF] at h
  split at h
  ·rename_i hc
   obtain ⟨z, hz, rfl⟩ := Option.map_eq_some_iff.1 h
   obtain ⟨F, rfl⟩ : ∃ F', F = F' + 1 := ⟨F - 1, by rw [List.length_cons] at hF; omega⟩
   have ho : atOk x = true := by simp at hc; exact hc.1
   rw [atsO, if_neg (atF_ne x z), onO_atF ho]
   simp only []
   rw [atsO_stp t false (atF x) z F hz (by rw [List.length_cons] at hF; omega)]
   rfl
  ·cases h
theorem stsO_nm : ∀ (a : nmT) (y : List UInt8) (F : Nat), nm a = some y → a.length ≤ F → stsO F y = some a
 | [], y, F, h, hF => by injection h with h; subst h; cases F <;> simp [stsO]
 | s :: t, y, F, h, hF => by
  rw [nm] at h
  split at h
  ·rename_i hc
   split at h
   ·cases h
   ·rename_i z hz
    obtain ⟨q, hq, rfl⟩ := Option.map_eq_some_iff.1 h
    have h2 := stpF_len s true [] z hz
    obtain ⟨F, rfl⟩ : ∃ F', F = F' + 1 := ⟨F - 1, by rw [List.length_cons] at hF; omega⟩
    rw [stsO, if_neg (elF_ne 49 z q), elO_el (m := 49) rfl (by omega)]
    simp only [if_true]
    rw [atsO_stp s true [] z F4 hz (by rw [F4_eq]; omega)]
    simp only []
    rw [stsO_nm t q F hq (by rw [List.length_cons] at hF; omega)]
    rfl
  ·cases h
theorem nmA_len {a : nmT} {y : List UInt8} (h : nmA a = some y) : a.length ≤ 8 ∧ y.length ≤ 6440 := by
 unfold nmA at h
 split at h
 ·rename_i h8
  obtain ⟨z, hz, rfl⟩ := Option.map_eq_some_iff.1 h
  have h1 := nm_len a z hz
  have h2 := elF_len 48 z
  exact ⟨h8, by omega⟩
 ·cases h
theorem nmO_nmA {a : nmT} {y : List UInt8} (h : nmA a = some y) : nmO y = some a ∧ nmO (y ++ [0]) = none := by
 unfold nmA at h
 split at h
 ·rename_i h8
  obtain ⟨z, hz, rfl⟩ := Option.map_eq_some_iff.1 h
  have h1 := nm_len a z hz
  constructor
  ·have e := elO_el (m := 48) (body := z) (rest := []) rfl (by omega)
   rw [List.append_nil] at e
   unfold nmO
   rw [e]
   simp only [and_self, if_true]
   exact stsO_nm a z F4 hz (by rw [F4_eq]; omega)
  ·unfold nmO
   rw [elO_el (m := 48) (rest := [0]) rfl (by omega)]
   simp
 ·cases h
theorem onO_back {L rest : List UInt8} {a : AttrT} (h : onO L = some (a, rest)) : L = atF a ++ rest := by
 unfold onO at h
 split at h
 ·rename_i m body r he
  split at h
  ·rename_i hm; subst hm
   split at h
   ·rename_i o6 o r1 he1
    split at h
    ·rename_i hc
     obtain ⟨rfl, ho⟩ := hc
     split at h
     ·rename_i mk t r2 he2
      split at h
      ·rename_i hd
       obtain ⟨hw, rfl⟩ := hd
       injection h with h; injection h with h1 h2; subst h1; subst h2
       have k1 := (elO_some he).1
       have k2 := (elO_some he1).1
       have k3 := (elO_some he2).1
       rw [List.append_nil] at k3
       unfold atF
       rw [pAll_back ho, ← k3, ← k2]
       exact k1
      ·cases h
     ·cases h
    ·cases h
   ·cases h
  ·cases h
 ·cases h
theorem atsO_back : ∀ (F : Nat) (L : List UInt8) (s : List AttrT) (f : Bool) (last y : List UInt8), atsO F L = some s → stpF s f last = some y → y = L
 | 0, L, s, f, last, y, h, hs => by
  rw [atsO] at h
  split at h
  ·rename_i hL; injection h with h; subst h; injection hs with hs; rw [hL, hs]
  ·cases h
 | F + 1, L, s, f, last, y, h, hs => by
  rw [atsO] at h
  split at h
  ·rename_i hL; injection h with h; subst h; injection hs with hs; rw [hL, hs]
  ·split at h
   ·rename_i a rest ho
    obtain ⟨t, ht, rfl⟩ := Option.map_eq_some_iff.1 h
    rw [stpF] at hs
    split at hs
    ·obtain ⟨z, hz, rfl⟩ := Option.map_eq_some_iff.1 hs
     rw [atsO_back F rest t false (atF a) z ht hz]
     exact (onO_back ho).symm
    ·cases hs
   ·cases h
theorem stsO_back : ∀ (F : Nat) (L : List UInt8) (a : nmT) (y : List UInt8), stsO F L = some a → nm a = some y → y = L
 | 0, L, a, y, h, hs => by
  rw [stsO] at h
  split at h
  ·rename_i hL; injection h with h; subst h; injection hs with hs; rw [hL, hs]
  ·cases h
 | F + 1, L, a, y, h, hs => by
  rw [stsO] at h
  split at h
  ·rename_i hL; injection h with h; subst h; injection hs with hs; rw [hL, hs]
  ·split at h
   ·rename_i m body rest he
    split at h
    ·rename_i hm; subst hm
     split at h
     ·rename_i s hs1
      obtain ⟨t, ht, rfl⟩ := Option.map_eq_some_iff.1 h
      rw [nm] at hs
      split at hs
      ·split at hs
       ·cases hs
       ·rename_i z hz
        obtain ⟨q, hq, rfl⟩ := Option.map_eq_some_iff.1 hs
        rw [stsO_back F rest t q ht hq, atsO_back F4 body s true [] z hs1 hz]
        exact (elO_some he).1.symm
      ·cases hs
     ·cases h
    ·cases h
   ·cases h
theorem nmO_back {b y : List UInt8} {m : nmT} (h : nmO b = some m) (hy : nmA m = some y) : y = b := by
 unfold nmO at h
 split at h
 ·rename_i mk body rest he
  split at h
  ·rename_i hc
   obtain ⟨rfl, rfl⟩ := hc
   unfold nmA at hy
   split at hy
   ·obtain ⟨z, hz, rfl⟩ := Option.map_eq_some_iff.1 hy
    rw [stsO_back F4 body m z h hz]
    have := (elO_some he).1
    rw [List.append_nil] at this
    exact this.symm
   ·cases hy
  ·cases h
 ·cases h
def rdF (b : List UInt8) : nmT × Option Int := match nmO b with
 | some s => (match nmA s with | some _ => (s, none) | none => ([], some 2))
 | none => ([], some 2)
theorem tNewR_is (n : Nat) {b : List UInt8} (h : b.length ≤ 1000000) : tNewR n b = some (b, [(b.length : Int)]) := by unfold tNewR; rw [gd_pos (by omega)]
theorem nRead_is {n : Nat} (hn : 8000 ≤ n) {b : List UInt8} (hb : b.length ≤ 7000) : nRead n b = some (rdF b) := by
 unfold nRead rdF
 rw [tNewR_is n (by omega), Option.bind_some]
 simp only []
 rcases nSteps_is (n := n) (by omega) (b := b) (by omega) (by omega) with ⟨s, x, y, h1, h2⟩ | ⟨h1, r, c, h2, h3⟩
 ·rw [h2, Option.bind_some, h1, ite_f (by rfl)]
  unfold nCheck
  rw [nWrite_is (by omega), Option.bind_some, Option.bind_some]
  simp only []
  cases nmA s <;> rfl
 ·rw [h2, Option.bind_some, h1, h3, ite_t (by rfl)]
theorem rdF_self {a : nmT} {y : List UInt8} (h : nmA a = some y) : rdF y = (a, none) ∧ rdF (y ++ [0]) = ([], some 2) := by
 unfold rdF
 rw [(nmO_nmA h).1, (nmO_nmA h).2]
 simp only [h, and_self]
theorem rdF_back {b : List UInt8} (h : (rdF b).2 = none) : nmA (rdF b).1 = some b := by
 unfold rdF at h ⊢
 split at h
 ·rename_i s hs
  split at h
  ·rename_i y hy
   show nmA s = some b
   rw [hy, nmO_back hs hy]
  ·cases h
 ·cases h
def smN (a : nmT) : Prop := a.length ≤ 1000 ∧ ∀ s ∈ a, s.length ≤ 1000 ∧ ∀ x ∈ s, x.1.length ≤ 1000
theorem smN_nil : smN [] := ⟨by simp, by simp⟩
theorem rSame_l2_self {n : Nat} (hn : 2000 ≤ n) {a : nmT} (h : smN a) {j : Nat} (hj : j < a.length) (K : Int → Option Bool) :
  ∀ (fu i : Nat), (a.getD j []).length < i + fu → i ≤ (a.getD j []).length → rSame_l2 n a a (j : Int) K fu (i : Int) = K ((j : Int) + 1)
 | 0, i, h1, h2 => by omega
 | fu + 1, i, h1, h2 => by
  have hs := h.2 _ (getD_in (z := []) hj)
  have hl := h.1
  rw [rSame_l2]
  simp only [Int.toNat_natCast]
  rw [gd_pos (by omega), gd_pos (by omega)]
  by_cases hi : i < (a.getD j []).length
  ·have ht := hs.2 _ (getD_in (z := ([], (0, []))) hi)
   rw [ite_t (decide_eq_true (by omega)), gd_pos (by omega), gd_pos (by omega), gd_pos (by omega), gd_pos (by omega), gd_pos (by omega), gd_pos (by omega), gd_pos (by omega), gd_pos (by omega)]
   rw [sameTy_is _ (by omega) (by omega), Option.bind_some, beq_self_eq_true, ite_f (by rfl)]
   rw [gd_pos (by omega), gd_pos (by omega), gd_pos (by omega), gd_pos (by omega), gd_pos (by omega), gd_pos (by omega), gd_pos (by omega), gd_pos (by omega), ite_f (by simp)]
   rw [gd_pos (by omega), gd_pos (by omega), gd_pos (by omega), gd_pos (by omega), gd_pos (by omega), gd_pos (by omega), gd_pos (by omega), gd_pos (by omega), ite_f (by simp), gd_pos (okI64 (by omega) (by omega))]
   exact rSame_l2_self hn h hj K fu (i + 1) (by omega) hi
  ·rw [ite_f (decide_eq_false (by omega)), gd_pos (okI64 (by omega) (by omega))]
theorem rSame_l1_self {n : Nat} (hn : 2000 ≤ n) {a : nmT} (h : smN a) :
  ∀ (fu j : Nat), a.length < j + fu → j ≤ a.length → rSame_l1 n a a fu (j : Int) = some true
 | 0, j, h1, h2 => by omega
 | fu + 1, j, h1, h2 => by
  rw [rSame_l1]
  simp only [Int.toNat_natCast]
  by_cases hj : j < a.length
  ·have hs := h.2 _ (getD_in (z := []) hj)
   rw [ite_t (decide_eq_true (by omega)), gd_pos (by omega), gd_pos (by omega), gd_pos (by omega), gd_pos (by omega), ite_f (by simp)]
   rw [show (0 : Int) = ((0 : Nat) : Int) from rfl, rSame_l2_self hn h hj _ n 0 (by omega) (by omega)]
   exact rSame_l1_self hn h fu (j + 1) (by omega) hj
  ·rw [ite_f (decide_eq_false (by omega))]
theorem rSame_self {n : Nat} (hn : 2000 ≤ n) {a : nmT} (h : smN a) : rSame n a a = some true := by
 have := h.1
 unfold rSame
 rw [ite_f (by simp), show (0 : Int) = ((0 : Nat) : Int) from rfl]
 exact rSame_l1_self hn h n 0 (by omega) (by omega)
theorem stpF_sm : ∀ (l : List AttrT) (f : Bool) (last y : List UInt8), stpF l f last = some y → ∀ x ∈ l, x.1.length ≤ 1000
 | [], _, _, _, _ => by simp
 | x :: t, f, last, y, h => by
  rw [stpF] at h
  split at h
  ·rename_i hc
   obtain ⟨z, hz, _⟩ := Option.map_eq_some_iff.1 h
   have ho : atOk x = true := by simp at hc; exact hc.1
   have := oidOk_len (atOk_parts ho).2.2.2.1
   intro w hw
   rcases List.mem_cons.1 hw with rfl | hw
   ·omega
   ·exact stpF_sm t false (atF x) z hz w hw
  ·cases h
theorem nm_sm : ∀ (a : nmT) (y : List UInt8), nm a = some y → ∀ s ∈ a, s.length ≤ 1000 ∧ ∀ x ∈ s, x.1.length ≤ 1000
 | [], _, _ => by simp
 | s :: t, y, h => by
  rw [nm] at h
  split at h
  ·rename_i hc
   split at h
   ·cases h
   ·rename_i z hz
    obtain ⟨q, hq, _⟩ := Option.map_eq_some_iff.1 h
    intro w hw
    rcases List.mem_cons.1 hw with rfl | hw
    ·exact ⟨by omega, stpF_sm _ _ _ z hz⟩
    ·exact nm_sm t q hq w hw
  ·cases h
theorem nmA_sm {a : nmT} {y : List UInt8} (h : nmA a = some y) : smN a := by
 have h8 := nmA_len h
 unfold nmA at h
 split at h
 ·obtain ⟨z, hz, _⟩ := Option.map_eq_some_iff.1 h
  exact ⟨by omega, nm_sm a z hz⟩
 ·cases h
theorem rdF_sm (b : List UInt8) : smN (rdF b).1 := by
 unfold rdF
 split
 ·split
  ·rename_i hy; exact nmA_sm hy
  ·exact smN_nil
 ·exact smN_nil
theorem lup8 : lup 8000 = some true := by decide +kernel
end Go.Sx
end
section
namespace Go.Proofs.Ytobfglafchoipaa
open Go.RowKit Go.Ch Go.Sx
def tabL_nfa : List (TypeId × Ti) := [(3, ⟨.int .i64, 1, 8, true, some [.int .i64]⟩),
 (5, ⟨.int .u8, 1, 1, true, some [.int .u8]⟩),
 (9, ⟨.str, 1, 16, true, some [.str]⟩),
 (22, ⟨.sl 5, 1, 24, false, some [.nils]⟩),
 (44, ⟨.sl 92, 1, 24, false, some [.nils]⟩),
 (92, ⟨.int .u32, 1, 4, true, some [.int .u32]⟩)]
def tab_nfa : Tab := fun t => (tabL_nfa).lookup t
theorem tabE_nfa : (tabL_nfa.map fun p => tiOf Try.prog p.1) = tabL_nfa.map fun p => some p.2 := by kernel_rfl
theorem tabO_nfa : TabOk Try.prog tab_nfa := tab_of tabE_nfa
def rFirst_j1 (n : Nat) (a0 : List UInt8) (i5_1 : Int) (i6_1 : Int) : Option (Int × Int × Bool) :=
 gd (0 ≤ (0 : Int)) <|
 gd ((0 : Int) < ((a0.length : Nat) : Int)) <|
 (rHead n (a0.getD 0 0) i5_1).bind fun r54_1 =>
 bif (((r54_1.length : Nat) : Int) != i6_1) then
  some (0, 0, false)
 else
  gd (0 ≤ i6_1) <|
  gd (i6_1 ≤ ((a0.length : Nat) : Int)) <|
  bif (r54_1 != ((a0.drop 0).take i6_1.toNat)) then
   some (0, 0, false)
  else
   gd (okI .i64 (((a0.length : Nat) : Int) - i6_1)) <|
   bif (decide ((((a0.length : Nat) : Int) - i6_1) < i5_1)) then
    some (0, 0, false)
   else
    some (i6_1, i5_1, true)
def rFirst (n : Nat) (a0 : List UInt8) : Option (Int × Int × Bool) :=
 bif (decide (((a0.length : Nat) : Int) < (2 : Int))) then
  some (0, 0, false)
 else
  gd (0 ≤ (0 : Int)) <|
  gd ((0 : Int) < ((a0.length : Nat) : Int)) <|
  (rMark n (a0.getD 0 0)).bind fun r15 =>
  bif (!r15) then
   some (0, 0, false)
  else
   gd (0 ≤ (1 : Int)) <|
   gd ((1 : Int) < ((a0.length : Nat) : Int)) <|
   bif ((((a0.getD 1 0).toNat : Nat) : Int) == 129) then
    bif (decide ((3 : Int) ≤ ((a0.length : Nat) : Int))) then
     gd (0 ≤ (2 : Int)) <|
     gd ((2 : Int) < ((a0.length : Nat) : Int)) <|
     rFirst_j1 n a0 (((a0.getD 2 0).toNat : Nat) : Int) 3
    else
     bif ((((a0.getD 1 0).toNat : Nat) : Int) == 130) then
      bif (decide ((4 : Int) ≤ ((a0.length : Nat) : Int))) then
       gd (0 ≤ (2 : Int)) <|
       gd ((2 : Int) < ((a0.length : Nat) : Int)) <|
       gd (okI .i64 ((((a0.getD 2 0).toNat : Nat) : Int) * 256)) <|
       gd (0 ≤ (3 : Int)) <|
       gd ((3 : Int) < ((a0.length : Nat) : Int)) <|
       gd (okI .i64 (((((a0.getD 2 0).toNat : Nat) : Int) * 256) + (((a0.getD 3 0).toNat : Nat) : Int))) <|
       rFirst_j1 n a0 (((((a0.getD 2 0).toNat : Nat) : Int) * 256) + (((a0.getD 3 0).toNat : Nat) : Int)) 4
      else
       rFirst_j1 n a0 (((a0.getD 1 0).toNat : Nat) : Int) 2
     else
      rFirst_j1 n a0 (((a0.getD 1 0).toNat : Nat) : Int) 2
   else
    bif ((((a0.getD 1 0).toNat : Nat) : Int) == 130) then
     bif (decide ((4 : Int) ≤ ((a0.length : Nat) : Int))) then
      gd (0 ≤ (2 : Int)) <|
      gd ((2 : Int) < ((a0.length : Nat) : Int)) <|
      gd (okI .i64 ((((a0.getD 2 0).toNat : Nat) : Int) * 256)) <|
      gd (0 ≤ (3 : Int)) <|
      gd ((3 : Int) < ((a0.length : Nat) : Int)) <|
      gd (okI .i64 (((((a0.getD 2 0).toNat : Nat) : Int) * 256) + (((a0.getD 3 0).toNat : Nat) : Int))) <|
      rFirst_j1 n a0 (((((a0.getD 2 0).toNat : Nat) : Int) * 256) + (((a0.getD 3 0).toNat : Nat) : Int)) 4
     else
      rFirst_j1 n a0 (((a0.getD 1 0).toNat : Nat) : Int) 2
    else
     rFirst_j1 n a0 (((a0.getD 1 0).toNat : Nat) : Int) 2
def rReadOid_j1 (n : Nat) (a0 : List UInt8) (i6_1 : Int) (k_l1 : (List UInt32) → UInt32 → Int → Option (List UInt32 × Bool)) (w4_7 : List UInt32) (x5_7 : UInt32) : Option (List UInt32 × Bool) :=
 gd (okI .i64 (i6_1 + 1)) <|
 k_l1 w4_7 x5_7 (i6_1 + 1)
def rReadOid_j2 (n : Nat) (a0 : List UInt8) (w4_5 : List UInt32) (x7_1 : UInt32) : Option (List UInt32 × Bool) :=
 gd (0 ≤ (0 : Int)) <|
 gd ((0 : Int) < ((w4_5.length : Nat) : Int)) <|
 gd (0 ≤ (1 : Int)) <|
 gd ((1 : Int) ≤ ((w4_5.length : Nat) : Int)) <|
 gd (rmB (2 + (w4_5.length - 1)) 4) <|
 (rOid n ([x7_1, ((w4_5.getD 0 0) - ((40 : UInt32) * x7_1))] ++ ((w4_5.drop 1).take (w4_5.length - 1)))).bind fun r58_1 =>
 bif (!r58_1) then
  some ([], false)
 else
  (rOidBody n ([x7_1, ((w4_5.getD 0 0) - ((40 : UInt32) * x7_1))] ++ ((w4_5.drop 1).take (w4_5.length - 1)))).bind fun r63_1 =>
  bif (r63_1 != a0) then
   some ([], false)
  else
   some (([x7_1, ((w4_5.getD 0 0) - ((40 : UInt32) * x7_1))] ++ ((w4_5.drop 1).take (w4_5.length - 1))), true)
def rReadOid_l1 (n : Nat) (a0 : List UInt8) : Nat → List UInt32 → UInt32 → Int → Option (List UInt32 × Bool)
 | 0, _, _, _ => none
 | fu_l1 + 1, w4_5, x5_5, i6_1 =>
 bif (decide (i6_1 < ((a0.length : Nat) : Int))) then
 gd (0 ≤ i6_1) <|
 gd (i6_1 < ((a0.length : Nat) : Int)) <|
 gd ((128 : UInt8) ≠ 0) <|
 gd (0 ≤ i6_1) <|
 gd (i6_1 < ((a0.length : Nat) : Int)) <|
 bif (decide ((a0.getD i6_1.toNat 0) < (128 : UInt8))) then
 gd (rmB (w4_5.length + 1) 4) <|
 rReadOid_j1 n a0 i6_1 (rReadOid_l1 n a0 fu_l1) (w4_5 ++ [((x5_5 * (128 : UInt32)) + (((a0.getD i6_1.toNat 0) % (128 : UInt8)).toUInt32))]) 0
 else
 rReadOid_j1 n a0 i6_1 (rReadOid_l1 n a0 fu_l1) w4_5 ((x5_5 * (128 : UInt32)) + (((a0.getD i6_1.toNat 0) % (128 : UInt8)).toUInt32))
 else
 bif (((w4_5.length : Nat) : Int) == 0) then
 some ([], false)
 else
 gd (0 ≤ (0 : Int)) <|
 gd ((0 : Int) < ((w4_5.length : Nat) : Int)) <|
 gd ((40 : UInt32) ≠ 0) <|
 bif (decide ((2 : UInt32) < ((w4_5.getD 0 0) / (40 : UInt32)))) then
 rReadOid_j2 n a0 w4_5 2
 else
 rReadOid_j2 n a0 w4_5 ((w4_5.getD 0 0) / (40 : UInt32))
def rReadOid (n : Nat) (a0 : List UInt8) : Option (List UInt32 × Bool) :=
 bif (decide ((100 : Int) < ((a0.length : Nat) : Int))) then
 some ([], false)
 else
 rReadOid_l1 n a0 n [] 0 0
def rFirst_j1_E (a0 : List UInt8) (i5_1 : Int) (i6_1 : Int) : S := ⟨[(0, kH 0), (5, kI i5_1), (6, kI i6_1)], [], [ob 5 a0]⟩
abbrev rFirst_j1_P (n : Nat) (a0 : List UInt8) (r : Int × Int × Bool) : S → Prop := fun s => ∃ (i5_1 : Int), ∃ (i6_1 : Int), s = rFirst_j1_E a0 i5_1 i6_1 ∧ rFirst_j1 n a0 i5_1 i6_1 = some r
def rFirst_R (r : Int × Int × Bool) : S := ⟨[(2, kI r.1), (3, kI r.2.1), (4, kB r.2.2)], [], []⟩
def rFirst_ct (n : Nat) (r : Int × Int × Bool) : Ct := ctc (rB 5).rd fun _ l0 => ct0 fun H => ([rFirst n l0 = some r], shA H.length (.t [.c (.s (.k .i64 r.1)), .c (.s (.k .i64 r.2.1)), .c (.s (.b r.2.2))]), shH H.length [])
theorem rFirst_ok (n : Nat) (r : Int × Int × Bool) : FnOk Try.prog Tr 59 (rFirst_ct n r) := by
 refine fnok Try.func59 ?_
 refine HO_c (rB 5) fun l0 _ => HO_0 tabO_nfa (rFirst_R r) [.tmp 2, .tmp 3, .tmp 4] [] 78 Try.func59 fun w hG h => ?_
 unfold rFirst at h
 have hT := tabO_nfa
 refine Vrs hT [0] ⟨[(0, kH 0)], [], [ob 5 l0]⟩ ?_
 refine W_seq ?_
 refine W_seq ?_
 rcases Bool.eq_false_or_eq_true (decide (((l0.length : Nat) : Int) < (2 : Int))) with g1 | g1
 ·replace h := bif_t h g1
  refine Vg hT fN [(3, true)] [] [0] ⟨[(0, kH 0), (17, kB true)], [], [ob 5 l0]⟩ (aP g1 aN) ?_
  refine Vi (true) (fun _ => ?_) (fun hb => by cases hb)
  refine Vrs hT [] ⟨[(2, kI 0), (3, kI 0), (4, kB false)], [], []⟩ ?_
  refine Vc [] [] (rFirst_R (0, 0, false)) (W_ret ?_)
  exact ⟨.inl rfl, by cases h; rfl⟩
 ·replace h := bif_f h g1
  obtain ⟨g2, g3, h⟩ := gd2 h
  obtain ⟨r15, g4, h⟩ := bind_some' h
  refine Vg hT (fT 7 (rMark_ok n r15) fN) [(3, false)] [] [0] ⟨[(0, kH 0), (17, kB (!r15))], [], [ob 5 l0]⟩ (aP g1 (aP g2 (aP g3 (aP g4 aN)))) ?_
  refine Vi ((!r15)) (fun g36 => ?_) (fun g36 => ?_)
  ·replace h := bif_t h g36
   refine Vrs hT [] ⟨[(2, kI 0), (3, kI 0), (4, kB false)], [], []⟩ ?_
   refine Vc [] [] (rFirst_R (0, 0, false)) (W_ret ?_)
   exact ⟨.inl rfl, by cases h; rfl⟩
  ·replace h := bif_f h g36
   refine W_skip ?_
   obtain ⟨g5, g6, h⟩ := gd2 h
   refine Vgs hT fN [] [] [0] ⟨[(0, kH 0), (5, kI (((l0.getD 1 0).toNat : Nat) : Int))], [], [ob 5 l0]⟩ (aP g5 (aP g6 aN)) ?_
   refine Vrs hT [0] ⟨[(0, kH 0), (5, kI (((l0.getD 1 0).toNat : Nat) : Int)), (6, kI 2)], [], [ob 5 l0]⟩ ?_
   refine W_join (rFirst_j1_P n l0 r) ?_ ?_
   ·rintro _ ⟨i5_1, i6_1, rfl, h⟩
    unfold rFirst_j1 at h
    obtain ⟨g7, g8, h⟩ := gd2 h
    obtain ⟨r54_1, g9, h⟩ := bind_some' h
    refine Vgs hT (fT 4 (rHead_ok n r54_1) fN) [] [] [0, 1] ⟨[(0, kH 0), (5, kI i5_1), (6, kI i6_1), (7, kH 1)], [], [ob 5 l0, nb 5 r54_1]⟩ (aP g7 (aP g8 (aP g9 aN))) ?_
    refine W_seq ?_
    refine W_seq ?_
    rcases Bool.eq_false_or_eq_true (((r54_1.length : Nat) : Int) != i6_1) with g10 | g10
    ·replace h := bif_t h g10
     refine Vd hT fN 19 [(4, true)] [(5, false), (6, false), (68, false), (69, false), (73, false)] [] [] ⟨[(5, kI i5_1), (6, kI i6_1), (75, kB true)], [], []⟩ (aP g10 aN) ?_
     refine Vi (true) (fun _ => ?_) (fun hb => by cases hb)
     refine Vrs hT [] ⟨[(2, kI 0), (3, kI 0), (4, kB false)], [], []⟩ ?_
     refine Vc [] [] (rFirst_R (0, 0, false)) (W_ret ?_)
     exact ⟨.inl rfl, by cases h; rfl⟩
    ·replace h := bif_f h g10
     obtain ⟨g11, g12, h⟩ := gd2 h
     rcases Bool.eq_false_or_eq_true (r54_1 != ((l0.drop 0).take i6_1.toNat)) with g13 | g13
     ·replace h := bif_t h g13
      refine Vd hT fN 19 [(4, false), (13, true)] [(5, false), (6, false), (68, false), (69, false), (73, false)] [] [] ⟨[(5, kI i5_1), (6, kI i6_1), (75, kB true)], [], []⟩ (aP g10 (aP g11 (aP g12 (aP g13 aN)))) ?_
      refine Vi (true) (fun _ => ?_) (fun hb => by cases hb)
      refine Vrs hT [] ⟨[(2, kI 0), (3, kI 0), (4, kB false)], [], []⟩ ?_
      refine Vc [] [] (rFirst_R (0, 0, false)) (W_ret ?_)
      exact ⟨.inl rfl, by cases h; rfl⟩
     ·replace h := bif_f h g13
      obtain ⟨g14, h⟩ := gd_some h
      refine Vd hT fN 19 [(4, false), (13, false)] [(5, false), (6, false), (68, false), (69, false), (73, false)] [] [] ⟨[(5, kI i5_1), (6, kI i6_1), (75, kB (decide ((((l0.length : Nat) : Int) - i6_1) < i5_1)))], [], []⟩ (aP g10 (aP g11 (aP g12 (aP g13 (aP g14 aN))))) ?_
      refine Vi ((decide ((((l0.length : Nat) : Int) - i6_1) < i5_1))) (fun g15 => ?_) (fun g15 => ?_)
      ·replace h := bif_t h g15
       refine Vrs hT [] ⟨[(2, kI 0), (3, kI 0), (4, kB false)], [], []⟩ ?_
       refine Vc [] [] (rFirst_R (0, 0, false)) (W_ret ?_)
       exact ⟨.inl rfl, by cases h; rfl⟩
      ·replace h := bif_f h g15
       refine W_skip ?_
       refine Vrs hT [] ⟨[(2, kI i6_1), (3, kI i5_1), (4, kB true)], [], []⟩ ?_
       refine Vc [] [] (rFirst_R (i6_1, i5_1, true)) (W_ret ?_)
       exact ⟨.inl rfl, by cases h; rfl⟩
   ·refine W_seq ?_
    rcases Bool.eq_false_or_eq_true ((((l0.getD 1 0).toNat : Nat) : Int) == 129) with g16 | g16
    ·replace h := bif_t h g16
     refine Vg hT fN [(2, true)] [] [0] ⟨[(0, kH 0), (5, kI (((l0.getD 1 0).toNat : Nat) : Int)), (6, kI 2), (28, kB (decide ((3 : Int) ≤ ((l0.length : Nat) : Int))))], [], [ob 5 l0]⟩ (aP g16 aN) ?_
     refine Vi ((decide ((3 : Int) ≤ ((l0.length : Nat) : Int)))) (fun g27 => ?_) (fun g27 => ?_)
     ·replace h := bif_t h g27
      obtain ⟨g17, g18, h⟩ := gd2 h
      refine Vgs hT fN [] [] [0] ⟨[(0, kH 0), (5, kI (((l0.getD 2 0).toNat : Nat) : Int))], [], [ob 5 l0]⟩ (aP g17 (aP g18 aN)) ?_
      refine Vr hT [0] (rFirst_j1_E l0 (((l0.getD 2 0).toNat : Nat) : Int) 3) ?_
      exact ⟨_, _, rfl, h⟩
     ·replace h := bif_f h g27
      refine W_seq ?_
      rcases Bool.eq_false_or_eq_true ((((l0.getD 1 0).toNat : Nat) : Int) == 130) with g19 | g19
      ·replace h := bif_t h g19
       refine Vg hT fN [(2, true)] [] [0] ⟨[(0, kH 0), (5, kI (((l0.getD 1 0).toNat : Nat) : Int)), (6, kI 2), (39, kB (decide ((4 : Int) ≤ ((l0.length : Nat) : Int))))], [], [ob 5 l0]⟩ (aP g19 aN) ?_
       refine Vi ((decide ((4 : Int) ≤ ((l0.length : Nat) : Int)))) (fun g26 => ?_) (fun g26 => ?_)
       ·replace h := bif_t h g26
        obtain ⟨g20, g21, g22, g23, g24, h⟩ := gd5 h
        obtain ⟨g25, h⟩ := gd_some h
        refine Vds hT fN 9 [] [(0, false), (5, false), (44, false), (48, false)] [] [0] ⟨[(0, kH 0), (5, kI (((((l0.getD 2 0).toNat : Nat) : Int) * 256) + (((l0.getD 3 0).toNat : Nat) : Int)))], [], [ob 5 l0]⟩ (aP g20 (aP g21 (aP g22 (aP g23 (aP g24 (aP g25 aN)))))) ?_
        refine Vr hT [0] (rFirst_j1_E l0 (((((l0.getD 2 0).toNat : Nat) : Int) * 256) + (((l0.getD 3 0).toNat : Nat) : Int)) 4) ?_
        exact ⟨_, _, rfl, h⟩
       ·replace h := bif_f h g26
        refine Vc [] [0] (rFirst_j1_E l0 (((l0.getD 1 0).toNat : Nat) : Int) 2) (W_skip ?_)
        exact ⟨_, _, rfl, h⟩
      ·replace h := bif_f h g19
       refine Vg hT fN [(2, false)] [] [0] ⟨[(0, kH 0), (5, kI (((l0.getD 1 0).toNat : Nat) : Int)), (6, kI 2), (39, kB false)], [], [ob 5 l0]⟩ (aP g19 aN) ?_
       refine Vi (false) (fun hb => by cases hb) (fun _ => ?_)
       refine Vc [] [0] (rFirst_j1_E l0 (((l0.getD 1 0).toNat : Nat) : Int) 2) (W_skip ?_)
       exact ⟨_, _, rfl, h⟩
    ·replace h := bif_f h g16
     refine Vg hT fN [(2, false)] [] [0] ⟨[(0, kH 0), (5, kI (((l0.getD 1 0).toNat : Nat) : Int)), (6, kI 2), (28, kB false)], [], [ob 5 l0]⟩ (aP g16 aN) ?_
     refine Vi (false) (fun hb => by cases hb) (fun _ => ?_)
     refine W_seq ?_
     rcases Bool.eq_false_or_eq_true ((((l0.getD 1 0).toNat : Nat) : Int) == 130) with g28 | g28
     ·replace h := bif_t h g28
      refine Vg hT fN [(2, true)] [] [0] ⟨[(0, kH 0), (5, kI (((l0.getD 1 0).toNat : Nat) : Int)), (6, kI 2), (39, kB (decide ((4 : Int) ≤ ((l0.length : Nat) : Int))))], [], [ob 5 l0]⟩ (aP g28 aN) ?_
      refine Vi ((decide ((4 : Int) ≤ ((l0.length : Nat) : Int)))) (fun g35 => ?_) (fun g35 => ?_)
      ·replace h := bif_t h g35
       obtain ⟨g29, g30, g31, g32, g33, h⟩ := gd5 h
       obtain ⟨g34, h⟩ := gd_some h
       refine Vds hT fN 9 [] [(0, false), (5, false), (44, false), (48, false)] [] [0] ⟨[(0, kH 0), (5, kI (((((l0.getD 2 0).toNat : Nat) : Int) * 256) + (((l0.getD 3 0).toNat : Nat) : Int)))], [], [ob 5 l0]⟩ (aP g29 (aP g30 (aP g31 (aP g32 (aP g33 (aP g34 aN)))))) ?_
       refine Vr hT [0] (rFirst_j1_E l0 (((((l0.getD 2 0).toNat : Nat) : Int) * 256) + (((l0.getD 3 0).toNat : Nat) : Int)) 4) ?_
       exact ⟨_, _, rfl, h⟩
      ·replace h := bif_f h g35
       refine Vc [] [0] (rFirst_j1_E l0 (((l0.getD 1 0).toNat : Nat) : Int) 2) (W_skip ?_)
       exact ⟨_, _, rfl, h⟩
     ·replace h := bif_f h g28
      refine Vg hT fN [(2, false)] [] [0] ⟨[(0, kH 0), (5, kI (((l0.getD 1 0).toNat : Nat) : Int)), (6, kI 2), (39, kB false)], [], [ob 5 l0]⟩ (aP g28 aN) ?_
      refine Vi (false) (fun hb => by cases hb) (fun _ => ?_)
      refine Vc [] [0] (rFirst_j1_E l0 (((l0.getD 1 0).toNat : Nat) : Int) 2) (W_skip ?_)
      exact ⟨_, _, rfl, h⟩
def rReadOid_j1_E (a0 : List UInt8) (i6_1 : Int) (w4_7 : List UInt32) (x5_7 : UInt32) : S := ⟨[(0, kH 0), (4, kH 1), (5, kX x5_7), (6, kI i6_1)], [], [ob 5 a0, nw 92 w4_7]⟩
abbrev rReadOid_j1_P (n : Nat) (a0 : List UInt8) (i6_1 : Int) (k_l1 : (List UInt32) → UInt32 → Int → Option (List UInt32 × Bool)) (r : List UInt32 × Bool) : S → Prop := fun s => ∃ (w4_7 : List UInt32), ∃ (x5_7 : UInt32), s = rReadOid_j1_E a0 i6_1 w4_7 x5_7 ∧ rReadOid_j1 n a0 i6_1 k_l1 w4_7 x5_7 = some r
def rReadOid_j2_E (a0 : List UInt8) (w4_5 : List UInt32) (x7_1 : UInt32) : S := ⟨[(0, kH 0), (4, kH 1), (7, kX x7_1)], [], [ob 5 a0, nw 92 w4_5]⟩
abbrev rReadOid_j2_P (n : Nat) (a0 : List UInt8) (w4_5 : List UInt32) (r : List UInt32 × Bool) : S → Prop := fun s => ∃ (x7_1 : UInt32), s = rReadOid_j2_E a0 w4_5 x7_1 ∧ rReadOid_j2 n a0 w4_5 x7_1 = some r
def rReadOid_l1_E (a0 : List UInt8) (w4_5 : List UInt32) (x5_5 : UInt32) (i6_1 : Int) : S := ⟨[(0, kH 0), (4, kH 1), (5, kX x5_5), (6, kI i6_1)], [], [ob 5 a0, nw 92 w4_5]⟩
abbrev rReadOid_l1_P (n : Nat) (a0 : List UInt8) (r : List UInt32 × Bool) (fu : Nat) : S → Prop := fun s => ∃ (w4_5 : List UInt32), ∃ (x5_5 : UInt32), ∃ (i6_1 : Int), s = rReadOid_l1_E a0 w4_5 x5_5 i6_1 ∧ rReadOid_l1 n a0 fu w4_5 x5_5 i6_1 = some r
def rReadOid_R (r : List UInt32 × Bool) : S := ⟨[(2, kH 0), (3, kB r.2)], [], [nw 92 r.1]⟩
def rReadOid_ct (n : Nat) (r : List UInt32 × Bool) : Ct := ctc (rB 5).rd fun _ l0 => ct0 fun H => ([rReadOid n l0 = some r], shA H.length (.t [.c (.wh 0), .c (.s (.b r.2))]), shH H.length [nw 92 r.1])
theorem rReadOid_ok (n : Nat) (r : List UInt32 × Bool) : FnOk Try.prog Tr 35 (rReadOid_ct n r) := by
 refine fnok Try.func35 ?_
 refine HO_c (rB 5) fun l0 _ => HO_0 tabO_nfa (rReadOid_R r) [.tmp 2, .tmp 3] [0] 70 Try.func35 fun w hG h => ?_
 unfold rReadOid at h
 have hT := tabO_nfa
 refine Vrs hT [0] ⟨[(0, kH 0)], [], [ob 5 l0]⟩ ?_
 refine W_seq ?_
 refine Vrs hT [0] ⟨[(0, kH 0), (12, kB (decide ((100 : Int) < ((l0.length : Nat) : Int))))], [], [ob 5 l0]⟩ ?_
 refine Vi ((decide ((100 : Int) < ((l0.length : Nat) : Int)))) (fun g24 => ?_) (fun g24 => ?_)
 ·replace h := bif_t h g24
  refine Vrs hT [] ⟨[(2, .c (.nils)), (3, kB false)], [], []⟩ ?_
  refine Vc [.nil 2 92 1 (.w [])] [0] (rReadOid_R ([], false)) (W_ret ?_)
  exact ⟨.inl rfl, by cases h; rfl⟩
 ·replace h := bif_f h g24
  refine W_skip ?_
  refine Vrs hT [0] ⟨[(0, kH 0), (4, .c (.nils))], [], [ob 5 l0]⟩ ?_
  refine Vrs hT [0] ⟨[(0, kH 0), (4, .c (.nils)), (5, kX 0)], [], [ob 5 l0]⟩ ?_
  refine W_seq ?_
  refine Vrs hT [0] ⟨[(0, kH 0), (4, .c (.nils)), (5, kX 0), (6, kI 0)], [], [ob 5 l0]⟩ ?_
  refine W_block ?_
  refine Vc [.nil 4 92 1 (.w [])] [0, 1] (rReadOid_l1_E l0 [] 0 0) (W_lp ((rReadOid_l1_P n l0 r)) n ⟨_, _, _, rfl, h⟩ ?_)
  rintro fu_l1 _ ⟨w4_5, x5_5, i6_1, rfl, h⟩
  cases fu_l1 with
  | zero => cases h
  | succ fu_l1 =>
   refine ⟨fu_l1, rfl, ?_⟩
   rw [rReadOid_l1] at h
   refine W_seq ?_
   refine Vrs hT [0, 1] ⟨[(0, kH 0), (4, kH 1), (5, kX x5_5), (6, kI i6_1), (16, kB (decide (i6_1 < ((l0.length : Nat) : Int))))], [], [ob 5 l0, nw 92 w4_5]⟩ ?_
   refine Vi ((decide (i6_1 < ((l0.length : Nat) : Int)))) (fun g23 => ?_) (fun g23 => ?_)
   ·replace h := bif_t h g23
    refine Vc [] [0, 1] ⟨[(0, kH 0), (4, kH 1), (5, kX x5_5), (6, kI i6_1)], [], [ob 5 l0, nw 92 w4_5]⟩ (W_skip ?_)
    refine W_join (rReadOid_j1_P n l0 i6_1 (rReadOid_l1 n l0 fu_l1) r) ?_ ?_
    ·rintro _ ⟨w4_7, x5_7, rfl, h⟩
     unfold rReadOid_j1 at h
     obtain ⟨g1, h⟩ := gd_some h
     refine Vg hT fN [] [] [0, 1] (rReadOid_l1_E l0 w4_7 x5_7 (i6_1 + 1)) (aP g1 aN) ?_
     exact ⟨_, _, _, rfl, h⟩
    ·refine W_block ?_
     obtain ⟨g2, g3, g4, h⟩ := gd3 h
     refine Vgs hT fN [] [] [0, 1] ⟨[(0, kH 0), (4, kH 1), (5, kX ((x5_5 * (128 : UInt32)) + (((l0.getD i6_1.toNat 0) % (128 : UInt8)).toUInt32))), (6, kI i6_1)], [], [ob 5 l0, nw 92 w4_5]⟩ (aP g2 (aP g3 (aP g4 aN))) ?_
     obtain ⟨g5, g6, h⟩ := gd2 h
     refine Vgs hT fN [] [] [0, 1] ⟨[(0, kH 0), (4, kH 1), (5, kX ((x5_5 * (128 : UInt32)) + (((l0.getD i6_1.toNat 0) % (128 : UInt8)).toUInt32))), (6, kI i6_1), (32, kB (decide ((l0.getD i6_1.toNat 0) < (128 : UInt8))))], [], [ob 5 l0, nw 92 w4_5]⟩ (aP g5 (aP g6 aN)) ?_
     refine Vi ((decide ((l0.getD i6_1.toNat 0) < (128 : UInt8)))) (fun g8 => ?_) (fun g8 => ?_)
     ·replace h := bif_t h g8
      obtain ⟨g7, h⟩ := gd_some h
      refine Vgs hT fN [] [] [0, 3] ⟨[(0, kH 0), (4, kH 1), (6, kI i6_1)], [], [ob 5 l0, nw 92 (w4_5 ++ [((x5_5 * (128 : UInt32)) + (((l0.getD i6_1.toNat 0) % (128 : UInt8)).toUInt32))])]⟩ (aP g7 aN) ?_
      refine Vr hT [0, 1] (rReadOid_j1_E l0 i6_1 (w4_5 ++ [((x5_5 * (128 : UInt32)) + (((l0.getD i6_1.toNat 0) % (128 : UInt8)).toUInt32))]) 0) ?_
      exact ⟨_, _, rfl, h⟩
     ·replace h := bif_f h g8
      refine Vc [] [0, 1] (rReadOid_j1_E l0 i6_1 w4_5 ((x5_5 * (128 : UInt32)) + (((l0.getD i6_1.toNat 0) % (128 : UInt8)).toUInt32))) (W_skip ?_)
      exact ⟨_, _, rfl, h⟩
   ·replace h := bif_f h g23
    refine Vc [] [0, 1] ⟨[(0, kH 0), (4, kH 1)], [], [ob 5 l0, nw 92 w4_5]⟩ (W_exit ?_)
    refine W_seq ?_
    refine Vrs hT [0, 1] ⟨[(0, kH 0), (4, kH 1), (39, kB (((w4_5.length : Nat) : Int) == 0))], [], [ob 5 l0, nw 92 w4_5]⟩ ?_
    refine Vi ((((w4_5.length : Nat) : Int) == 0)) (fun g22 => ?_) (fun g22 => ?_)
    ·replace h := bif_t h g22
     refine Vrs hT [] ⟨[(2, .c (.nils)), (3, kB false)], [], []⟩ ?_
     refine Vc [.nil 2 92 1 (.w [])] [0] (rReadOid_R ([], false)) (W_ret ?_)
     exact ⟨.inl rfl, by cases h; rfl⟩
    ·replace h := bif_f h g22
     refine W_skip ?_
     obtain ⟨g9, g10, g11, h⟩ := gd3 h
     refine Vgs hT fN [] [] [0, 1] ⟨[(0, kH 0), (4, kH 1), (7, kX ((w4_5.getD 0 0) / (40 : UInt32)))], [], [ob 5 l0, nw 92 w4_5]⟩ (aP g9 (aP g10 (aP g11 aN))) ?_
     refine W_join (rReadOid_j2_P n l0 w4_5 r) ?_ ?_
     ·rintro _ ⟨x7_1, rfl, h⟩
      unfold rReadOid_j2 at h
      obtain ⟨g12, g13, g14, g15, g16, h⟩ := gd5 h
      refine Vds hT fN 10 [] [(0, false), (53, false), (55, false)] [] [0, 3] ⟨[(0, kH 0), (8, kH 1)], [], [ob 5 l0, nw 92 ([x7_1, ((w4_5.getD 0 0) - ((40 : UInt32) * x7_1))] ++ ((w4_5.drop 1).take (w4_5.length - 1)))]⟩ (aP g12 (aP g13 (aP g14 (aP g15 (aP g16 aN))))) ?_
      obtain ⟨r58_1, g17, h⟩ := bind_some' h
      refine Vgs hT (fT 1 (rOid_ok n r58_1) fN) [] [] [0, 1] ⟨[(0, kH 0), (8, kH 1), (9, kB r58_1)], [], [ob 5 l0, nw 92 ([x7_1, ((w4_5.getD 0 0) - ((40 : UInt32) * x7_1))] ++ ((w4_5.drop 1).take (w4_5.length - 1)))]⟩ (aP g17 aN) ?_
      refine W_seq ?_
      refine W_seq ?_
      rcases Bool.eq_false_or_eq_true (!r58_1) with g18 | g18
      ·replace h := bif_t h g18
       refine Vd hT fN 8 [(2, true)] [(8, false), (61, false), (64, false), (66, false)] [] [1] ⟨[(8, kH 0), (68, kB true)], [], [nw 92 ([x7_1, ((w4_5.getD 0 0) - ((40 : UInt32) * x7_1))] ++ ((w4_5.drop 1).take (w4_5.length - 1)))]⟩ (aP g18 aN) ?_
       refine Vi (true) (fun _ => ?_) (fun hb => by cases hb)
       refine Vrs hT [] ⟨[(2, .c (.nils)), (3, kB false)], [], []⟩ ?_
       refine Vc [.nil 2 92 1 (.w [])] [0] (rReadOid_R ([], false)) (W_ret ?_)
       exact ⟨.inl rfl, by cases h; rfl⟩
      ·replace h := bif_f h g18
       obtain ⟨r63_1, g19, h⟩ := bind_some' h
       refine Vd hT (fT 4 (rOidBody_ok n r63_1) fN) 8 [(2, false)] [(8, false), (61, false), (64, false), (66, false)] [] [1] ⟨[(8, kH 0), (68, kB (r63_1 != l0))], [], [nw 92 ([x7_1, ((w4_5.getD 0 0) - ((40 : UInt32) * x7_1))] ++ ((w4_5.drop 1).take (w4_5.length - 1)))]⟩ (aP g18 (aP g19 aN)) ?_
       refine Vi ((r63_1 != l0)) (fun g20 => ?_) (fun g20 => ?_)
       ·replace h := bif_t h g20
        refine Vrs hT [] ⟨[(2, .c (.nils)), (3, kB false)], [], []⟩ ?_
        refine Vc [.nil 2 92 1 (.w [])] [0] (rReadOid_R ([], false)) (W_ret ?_)
        exact ⟨.inl rfl, by cases h; rfl⟩
       ·replace h := bif_f h g20
        refine W_skip ?_
        refine Vrs hT [0] ⟨[(2, kH 0), (3, kB true)], [], [nw 92 ([x7_1, ((w4_5.getD 0 0) - ((40 : UInt32) * x7_1))] ++ ((w4_5.drop 1).take (w4_5.length - 1)))]⟩ ?_
        refine Vc [] [0] (rReadOid_R (([x7_1, ((w4_5.getD 0 0) - ((40 : UInt32) * x7_1))] ++ ((w4_5.drop 1).take (w4_5.length - 1))), true)) (W_ret ?_)
        exact ⟨.inl rfl, by cases h; rfl⟩
     ·refine W_seq ?_
      refine Vr hT [0, 1] ⟨[(0, kH 0), (4, kH 1), (7, kX ((w4_5.getD 0 0) / (40 : UInt32))), (45, kB (decide ((2 : UInt32) < ((w4_5.getD 0 0) / (40 : UInt32)))))], [], [ob 5 l0, nw 92 w4_5]⟩ ?_
      refine Vi ((decide ((2 : UInt32) < ((w4_5.getD 0 0) / (40 : UInt32))))) (fun g21 => ?_) (fun g21 => ?_)
      ·replace h := bif_t h g21
       refine Vr hT [0, 1] (rReadOid_j2_E l0 w4_5 2) ?_
       exact ⟨_, rfl, h⟩
      ·replace h := bif_f h g21
       refine Vc [] [0, 1] (rReadOid_j2_E l0 w4_5 ((w4_5.getD 0 0) / (40 : UInt32))) (W_skip ?_)
       exact ⟨_, rfl, h⟩
end Go.Proofs.Ytobfglafchoipaa
end
section
namespace Go.Sx
open Go Go.RowKit Go.Ch Go.Proofs.Ytobfglafchoipaa
theorem rMark_v (n : Nat) (m : UInt8) : rMark n m = some (mkV m) := rfl
def chF (L : List UInt8) : Nat × Nat := if bN L 1 = 129 ∧ 3 ≤ L.length then (bN L 2, 3) else if bN L 1 = 130 ∧ 4 ≤ L.length then (bN L 2 * 256 + bN L 3, 4) else (bN L 1, 2)
def jF (L : List UInt8) (v s : Nat) : Int × Int × Bool := if hdF (L.getD 0 0) (v : Int) = L.take s ∧ s + v ≤ L.length then ((s : Int), (v : Int), true) else (0, 0, false)
theorem rFirst_j1_is (n : Nat) {L : List UInt8} (hL : L.length ≤ 1000000) {v s : Nat} (hv : v ≤ 65535) (h0 : 0 < L.length) (hs : s ≤ L.length) : rFirst_j1 n L (v : Int) (s : Int) = some (jF L v s) := by
 unfold rFirst_j1 jF
 rw [gd_pos (by decide), gd_pos (by omega), rHead_is n (by omega) (by omega), Option.bind_some]
 by_cases h1 : (hdF (L.getD 0 0) (v : Int)).length = s
 ·rw [ite_f (by rw [h1]; simp), gd_pos (by omega), gd_pos (by omega)]
  simp only [Int.toNat_natCast, List.drop_zero]
  by_cases h3 : hdF (L.getD 0 0) (v : Int) = L.take s
  ·rw [ite_f (by rw [h3]; exact bne_self_eq_false _), gd_pos (okI64 (by omega) (by omega))]
   by_cases h5 : s + v ≤ L.length
   ·rw [ite_f (decide_eq_false (by omega)), if_pos ⟨h3, h5⟩]
   ·rw [ite_t (decide_eq_true (by omega)), if_neg (fun h => h5 h.2)]
  ·rw [ite_t (by simpa using h3), if_neg (fun h => h3 h.1)]
 ·rw [ite_t (by simp only [bne_iff_ne, ne_eq]; omega), if_neg]
  rintro ⟨h, _⟩
  have := congrArg List.length h
  rw [List.length_take] at this; omega
theorem rFirst_ch (n : Nat) {L : List UInt8} (hL : L.length ≤ 1000000) : rFirst n L = some (if L.length < 2 ∨ mkV (L.getD 0 0) = false then (0, 0, false) else jF L (chF L).1 (chF L).2) := by
 unfold rFirst
 by_cases h2 : L.length < 2
 ·rw [ite_t (decide_eq_true (by omega)), if_pos (.inl h2)]
 ·rw [ite_f (decide_eq_false (by omega)), gd_pos (by decide), gd_pos (by omega), rMark_v, Option.bind_some]
  cases hm : mkV (L.getD 0 0) with
  | false => rw [if_pos (.inr rfl)]; rfl
  | true =>
   rw [ite_f (by rfl), if_neg (by rintro (h | h); exact h2 h; cases h), gd_pos (by decide), gd_pos (by omega)]
   have hx1 := bN_lt L 1
   have hx2 := bN_lt L 2
   have hx3 := bN_lt L 3
   have e1 : (((L.getD 1 0).toNat : Nat) : Int) = ((bN L 1 : Nat) : Int) := rfl
   have e2 : (((L.getD 2 0).toNat : Nat) : Int) = ((bN L 2 : Nat) : Int) := rfl
   have e3 : (((L.getD 3 0).toNat : Nat) : Int) = ((bN L 3 : Nat) : Int) := rfl
   rw [e1, e2, e3]
   have b3 := fun (h3 : bN L 1 ≠ 130) => rFirst_j1_is n hL (v := bN L 1) (s := 2) (by omega) (by omega) (by omega)
   unfold chF
   by_cases h9 : bN L 1 = 129
   ·rw [ite_t (by rw [h9]; rfl)]
    by_cases h3 : 3 ≤ L.length
    ·rw [ite_t (decide_eq_true (by omega)), gd_pos (by decide), gd_pos (by omega), if_pos ⟨h9, h3⟩]
     exact rFirst_j1_is n hL (by omega) (by omega) h3
    ·rw [ite_f (decide_eq_false (by omega)), ite_f (by rw [h9]; rfl), if_neg (fun h => h3 h.2), if_neg (fun h => by omega)]
     exact rFirst_j1_is n hL (s := 2) (by omega) (by omega) (by omega)
   ·rw [ite_f (by simp only [beq_eq_false_iff_ne, ne_eq]; omega), if_neg (fun h => h9 h.1)]
    by_cases h10 : bN L 1 = 130
    ·rw [ite_t (by rw [h10]; rfl)]
     by_cases h4 : 4 ≤ L.length
     ·rw [ite_t (decide_eq_true (by omega)), gd_pos (by decide), gd_pos (by omega), gd_pos (okI64 (by omega) (by omega)), gd_pos (by decide), gd_pos (by omega), gd_pos (okI64 (by omega) (by omega)), if_pos ⟨h10, h4⟩]
      have := rFirst_j1_is n hL (v := bN L 2 * 256 + bN L 3) (s := 4) (by omega) (by omega) h4
      rw [show (((bN L 2 * 256 + bN L 3 : Nat)) : Int) = ((bN L 2 : Nat) : Int) * 256 + ((bN L 3 : Nat) : Int) by omega] at this
      exact this
     ·rw [ite_f (decide_eq_false (by omega)), if_neg (fun h => h4 h.2)]
      exact rFirst_j1_is n hL (s := 2) (by omega) (by omega) (by omega)
    ·rw [ite_f (by simp only [beq_eq_false_iff_ne, ne_eq]; omega), if_neg (fun h => h10 h.1)]
     exact rFirst_j1_is n hL (s := 2) (by omega) (by omega) (by omega)
def fiF (L : List UInt8) : Int × Int × Bool := match elO L with
 | some (m, body, _) => ((((hdF m (body.length : Int)).length : Nat) : Int), ((body.length : Nat) : Int), true)
 | none => (0, 0, false)
theorem chF_of {m : UInt8} {k : Nat} {t : List UInt8} (hk : k ≤ 65535) : chF (hdF m (k : Int) ++ t) = (k, (hdF m (k : Int)).length) ∧ (hdF m (k : Int) ++ t).getD 0 0 = m ∧ 2 ≤ (hdF m (k : Int)).length := by
 unfold hdF
 by_cases h1 : k < 128
 ·rw [ite_t (decide_eq_true (by omega))]
  have hb : bN ([m, UInt8.ofInt (k : Int)] ++ t) 1 = k := ofInt_lt (by omega)
  refine ⟨?_, rfl, by simp⟩
  unfold chF
  rw [hb, if_neg (by omega), if_neg (by omega)]; rfl
 ·rw [ite_f (decide_eq_false (by omega))]
  by_cases h2 : k < 256
  ·rw [ite_t (decide_eq_true (by omega))]
   have hb : bN ([m, 129, UInt8.ofInt (k : Int)] ++ t) 1 = 129 := rfl
   have hb2 : bN ([m, 129, UInt8.ofInt (k : Int)] ++ t) 2 = k := ofInt_lt h2
   refine ⟨?_, rfl, by simp⟩
   unfold chF
   rw [hb, hb2, if_pos ⟨rfl, by simp⟩]; rfl
  ·rw [ite_f (decide_eq_false (by omega))]
   have hb : bN ([m, 130, UInt8.ofInt ((k : Int) / 256), UInt8.ofInt (k : Int)] ++ t) 1 = 130 := rfl
   have hb2 : bN ([m, 130, UInt8.ofInt ((k : Int) / 256), UInt8.ofInt (k : Int)] ++ t) 2 = k / 256 := by
    show (UInt8.ofInt ((k : Int) / 256)).toNat = _
    rw [show (k : Int) / 256 = ((k / 256 : Nat) : Int) by omega]; exact ofInt_lt (by omega)
   have hb3 : bN ([m, 130, UInt8.ofInt ((k : Int) / 256), UInt8.ofInt (k : Int)] ++ t) 3 = k % 256 := by
    show (UInt8.ofInt (k : Int)).toNat = _
    rw [← ofInt_mod, show (k : Int) % 256 = ((k % 256 : Nat) : Int) by omega]; exact ofInt_lt (by omega)
   refine ⟨?_, rfl, by simp⟩
   unfold chF
   rw [hb, hb2, hb3, if_neg (by omega), if_pos ⟨rfl, by simp⟩, show k / 256 * 256 + k % 256 = k by omega]; rfl
theorem rFirst_is (n : Nat) {L : List UInt8} (hL : L.length ≤ 1000000) : rFirst n L = some (fiF L) := by
 rw [rFirst_ch n hL]
 refine congrArg some ?_
 cases he : elO L with
 | some q =>
  obtain ⟨m, body, rest⟩ := q
  obtain ⟨k1, k2, k3, _, _, _, k7⟩ := elO_some he
  have e : L = hdF m (body.length : Int) ++ (body ++ rest) := by rw [k1]; unfold elF; rw [List.append_assoc]
  obtain ⟨c1, c2, c3⟩ := chF_of (m := m) (t := body ++ rest) k3
  have hfi : fiF L = ((((hdF m (body.length : Int)).length : Nat) : Int), ((body.length : Nat) : Int), true) := by unfold fiF; rw [he]
  have hlen : L.length = (hdF m (body.length : Int)).length + (body.length + rest.length) := by rw [e]; simp
  rw [if_neg (by rintro (h | h); omega; rw [k7, k2] at h; cases h), hfi]
  unfold jF
  rw [k7, show chF L = (body.length, (hdF m (body.length : Int)).length) by rw [← c1, ← e]]
  have et : hdF m (body.length : Int) = L.take (hdF m (body.length : Int)).length := by
   have h9 : (hdF m (body.length : Int) ++ (body ++ rest)).take (hdF m (body.length : Int)).length = hdF m (body.length : Int) := List.take_left
   rw [← e] at h9; exact h9.symm
  dsimp only
  rw [if_pos ⟨et, by omega⟩]
 | none =>
  have hfi : fiF L = (0, 0, false) := by unfold fiF; rw [he]
  rw [hfi]
  split
  ·rfl
  ·rename_i hn
   unfold jF
   rw [if_neg]
   rintro ⟨h1, h2⟩
   have hv : (chF L).1 ≤ 65535 := by
    have hx1 := bN_lt L 1
    have hx2 := bN_lt L 2
    have hx3 := bN_lt L 3
    unfold chF; split
    ·simp only; omega
    ·split <;> simp only <;> omega
   have hm : mkV (L.getD 0 0) = true := by
    cases hm : mkV (L.getD 0 0) with
    | true => rfl
    | false => exact absurd (.inr hm) hn
   generalize (chF L).1 = v at *
   generalize (chF L).2 = s at *
   have hbl : ((L.drop s).take v).length = v := by rw [List.length_take, List.length_drop]; omega
   have e : elF (L.getD 0 0) ((L.drop s).take v) ++ L.drop (s + v) = L := by
    unfold elF
    rw [hbl, h1, List.append_assoc]
    rw [← List.drop_drop, List.take_append_drop, List.take_append_drop]
   have h5 := elO_el (rest := L.drop (s + v)) (body := (L.drop s).take v) hm (by omega)
   rw [e, he] at h5; cases h5
def prO : Nat → List UInt8 → Option (List (List UInt8))
 | 0, L => if L = [] then some [] else none
 | f + 1, L => if L = [] then some [] else match elO L with | some (m, body, rest) => (prO f rest).map (elF m body :: ·) | none => none
theorem elO_less {L : List UInt8} {m : UInt8} {body rest : List UInt8} (h : elO L = some (m, body, rest)) : rest.length + 2 ≤ L.length := by
 have k1 := (elO_some h).1
 have k2 := elF_two m body
 have := congrArg List.length k1
 rw [List.length_append] at this; omega
theorem prO_fuel : ∀ (f g : Nat) (L : List UInt8), L.length ≤ f → L.length ≤ g → prO f L = prO g L
 | f, g, [], _, _ => by cases f <;> cases g <;> rfl
 | 0, g, x :: t, h, _ => by simp at h
 | f, 0, x :: t, _, h => by simp at h
 | f + 1, g + 1, x :: t, h1, h2 => by
  rw [prO, prO]
  simp only [reduceCtorEq, if_false]
  cases he : elO (x :: t) with
  | none => rfl
  | some q =>
   obtain ⟨m, body, rest⟩ := q
   have := elO_less he
   simp only []
   rw [prO_fuel f g rest (by omega) (by omega)]
def prA (L : List UInt8) : Option (List (List UInt8)) := prO L.length L
theorem prA_nil : prA [] = some [] := rfl
theorem prA_some {L : List UInt8} {m : UInt8} {body rest : List UInt8} (h : elO L = some (m, body, rest)) : prA L = (prA rest).map (elF m body :: ·) := by
 have hl := elO_less h
 unfold prA
 obtain ⟨f, hf⟩ : ∃ f, L.length = f + 1 := ⟨L.length - 1, by omega⟩
 rw [hf, prO, if_neg (by rintro rfl; simp at hl), h]
 simp only []
 rw [prO_fuel f rest.length rest (by omega) (Nat.le_refl _)]
theorem prA_none {L : List UInt8} (h : elO L = none) (hL : L ≠ []) : prA L = none := by
 have := List.length_pos_iff.2 hL
 unfold prA
 obtain ⟨f, hf⟩ : ∃ f, L.length = f + 1 := ⟨L.length - 1, by omega⟩
 rw [hf, prO, if_neg hL, h]
def bodO (L : List UInt8) (m : UInt8) : Option (List UInt8) := match elO L with
 | some (m', body, rest) => if m' = m ∧ rest = [] then some body else none
 | none => none
end Go.Sx
end
section
namespace Go.Proofs.Ytobfglafchoipaa
open Go.RowKit Go.Ch Go.Sx
def tabL_nfc : List (TypeId × Ti) := [(5, ⟨.int .u8, 1, 1, true, some [.int .u8]⟩),
 (22, ⟨.sl 5, 1, 24, false, some [.nils]⟩),
 (59, ⟨.sl 22, 1, 24, false, some [.nils]⟩)]
def tab_nfc : Tab := fun t => (tabL_nfc).lookup t
theorem tabE_nfc : (tabL_nfc.map fun p => tiOf Try.prog p.1) = tabL_nfc.map fun p => some p.2 := by kernel_rfl
theorem tabO_nfc : TabOk Try.prog tab_nfc := tab_of tabE_nfc
def rBody (n : Nat) (a0 : List UInt8) (a1 : UInt8) : Option (List UInt8 × Nat × Bool) :=
 (rFirst n a0).bind fun r11 =>
 bif (!r11.2.2) then
  some ([], 0, false)
 else
  gd (0 ≤ (0 : Int)) <|
  gd ((0 : Int) < ((a0.length : Nat) : Int)) <|
  bif ((a0.getD 0 0) != a1) then
   some ([], 0, false)
  else
   gd (okI .i64 (r11.1 + r11.2.1)) <|
   bif ((r11.1 + r11.2.1) != ((a0.length : Nat) : Int)) then
    some ([], 0, false)
   else
    gd (0 ≤ r11.1) <|
    gd (r11.1 ≤ ((a0.length : Nat) : Int)) <|
    some (((a0.drop r11.1.toNat).take (a0.length - r11.1.toNat)), (a0.length - r11.1.toNat), true)
def rParts_l1 (n : Nat) (a0 : List UInt8) : Nat → List (List UInt8) → Int → Option (List (List UInt8) × Bool)
 | 0, _, _ => none
 | fu_l1 + 1, d4_1, i5_1 =>
  bif (decide (i5_1 < ((a0.length : Nat) : Int))) then
   gd (0 ≤ i5_1) <|
   gd (i5_1 ≤ ((a0.length : Nat) : Int)) <|
   (rFirst n ((a0.drop i5_1.toNat).take (a0.length - i5_1.toNat))).bind fun r17_2 =>
   bif (!r17_2.2.2) then
    some ([], false)
   else
    gd (okI .i64 (i5_1 + r17_2.1)) <|
    gd (okI .i64 ((i5_1 + r17_2.1) + r17_2.2.1)) <|
    gd (0 ≤ i5_1) <|
    gd (i5_1 ≤ ((i5_1 + r17_2.1) + r17_2.2.1)) <|
    gd (((i5_1 + r17_2.1) + r17_2.2.1) ≤ ((a0.length : Nat) : Int)) <|
    gd (rmB (d4_1.length + 1) 24) <|
    gd (okI .i64 (i5_1 + r17_2.1)) <|
    gd (okI .i64 ((i5_1 + r17_2.1) + r17_2.2.1)) <|
    (rParts_l1 n a0 fu_l1) (d4_1 ++ [((a0.drop i5_1.toNat).take ((((i5_1 + r17_2.1) + r17_2.2.1).toNat) - i5_1.toNat))]) ((i5_1 + r17_2.1) + r17_2.2.1)
  else
   some (d4_1, true)
def rParts (n : Nat) (a0 : List UInt8) : Option (List (List UInt8) × Bool) :=
 rParts_l1 n a0 n [] 0
def rBody_R (r : List UInt8 × Nat × Bool) : S := ⟨[(4, kH 0), (5, kB r.2.2)], [], [⟨(.ro true), 5, 1, r.2.1, .b r.1⟩]⟩
def rBody_ct (n : Nat) (r : List UInt8 × Nat × Bool) : Ct := ctv (ctc (vB 5).rd fun _ l0 => ctc vU8.rd fun _ l1 => ct0 fun H => ([rBody n l0 l1 = some r], shA H.length (.t [.c (.wh 0), .c (.s (.b r.2.2))]), vwH (shH H.length [⟨(.ro true), 5, 1, r.2.1, .b r.1⟩])))
theorem rBody_ok (n : Nat) (r : List UInt8 × Nat × Bool) : FnVOk Try.prog Tr 33 (rBody_ct n r) := by
 refine fnokV Try.func33 ?_
 refine HV_c (vB 5) fun l0 _ => HV_c vU8 fun l1 _ => HV_0 tabO_nfc (rBody_R r) [.tmp 4, .tmp 5] [0] 35 Try.func33 fun w bq h => ?_
 unfold rBody at h
 have hT := tabO_nfc
 refine Vrs hT [0] ⟨[(0, kH 0), (1, kU l1)], [], [ub 5 l0]⟩ ?_
 obtain ⟨r11, g1, h⟩ := bind_some' h
 refine Vgs hT (fT 1 (rFirst_ok n r11) fN) [] [] [0] ⟨[(0, kH 0), (1, kU l1), (6, kI r11.1), (7, kI r11.2.1), (8, kB r11.2.2)], [], [ub 5 l0]⟩ (aP g1 aN) ?_
 refine W_seq ?_
 refine W_seq ?_
 rcases Bool.eq_false_or_eq_true (!r11.2.2) with g2 | g2
 ·replace h := bif_t h g2
  refine Vg hT fN [(2, true)] [] [0] ⟨[(0, kH 0), (6, kI r11.1), (31, kB true)], [], [ub 5 l0]⟩ (aP g2 aN) ?_
  refine Vi (true) (fun _ => ?_) (fun hb => by cases hb)
  refine Vrs hT [] ⟨[(4, .c (.nils)), (5, kB false)], [], []⟩ ?_
  refine Vc [.emp 4 5 1 (.b []) true] [0] (rBody_R ([], 0, false)) (W_ret ?_)
  exact ⟨.inl rfl, by cases h; rfl⟩
 ·replace h := bif_f h g2
  obtain ⟨g3, g4, h⟩ := gd2 h
  rcases Bool.eq_false_or_eq_true ((l0.getD 0 0) != l1) with g5 | g5
  ·replace h := bif_t h g5
   refine Vg hT fN [(2, false), (9, true)] [] [0] ⟨[(0, kH 0), (6, kI r11.1), (31, kB true)], [], [ub 5 l0]⟩ (aP g2 (aP g3 (aP g4 (aP g5 aN)))) ?_
   refine Vi (true) (fun _ => ?_) (fun hb => by cases hb)
   refine Vrs hT [] ⟨[(4, .c (.nils)), (5, kB false)], [], []⟩ ?_
   refine Vc [.emp 4 5 1 (.b []) true] [0] (rBody_R ([], 0, false)) (W_ret ?_)
   exact ⟨.inl rfl, by cases h; rfl⟩
  ·replace h := bif_f h g5
   obtain ⟨g6, h⟩ := gd_some h
   refine Vg hT fN [(2, false), (9, false)] [] [0] ⟨[(0, kH 0), (6, kI r11.1), (31, kB ((r11.1 + r11.2.1) != ((l0.length : Nat) : Int)))], [], [ub 5 l0]⟩ (aP g2 (aP g3 (aP g4 (aP g5 (aP g6 aN))))) ?_
   refine Vi (((r11.1 + r11.2.1) != ((l0.length : Nat) : Int))) (fun g9 => ?_) (fun g9 => ?_)
   ·replace h := bif_t h g9
    refine Vrs hT [] ⟨[(4, .c (.nils)), (5, kB false)], [], []⟩ ?_
    refine Vc [.emp 4 5 1 (.b []) true] [0] (rBody_R ([], 0, false)) (W_ret ?_)
    exact ⟨.inl rfl, by cases h; rfl⟩
   ·replace h := bif_f h g9
    refine W_skip ?_
    obtain ⟨g7, g8, h⟩ := gd2 h
    refine Vgs hT fN [] [] [0] ⟨[(4, .c (.sl 0 r11.1.toNat (l0.length - r11.1.toNat))), (5, kB true)], [], [ub 5 l0]⟩ (aP g7 (aP g8 aN)) ?_
    refine Vc [.vw 4 true] [1] (rBody_R (((l0.drop r11.1.toNat).take (l0.length - r11.1.toNat)), (l0.length - r11.1.toNat), true)) (W_ret ?_)
    exact ⟨.inl rfl, by cases h; rfl⟩
def rParts_l1_E (a0 : List UInt8) (d4_1 : List (List UInt8)) (i5_1 : Int) : S := ⟨[(0, kH 0), (4, kH 1), (5, kI i5_1)], [], [ub 5 a0, ⟨.row, 22, 1, d4_1.length, .g 2 d4_1.length 1 []⟩, ⟨(.gs true), 22, 1, d4_1.length, .d (.by 5) d4_1⟩]⟩
abbrev rParts_l1_P (n : Nat) (a0 : List UInt8) (r : List (List UInt8) × Bool) (fu : Nat) : S → Prop := fun s => ∃ (d4_1 : List (List UInt8)), ∃ (i5_1 : Int), s = rParts_l1_E a0 d4_1 i5_1 ∧ rParts_l1 n a0 fu d4_1 i5_1 = some r
def rParts_R (r : List (List UInt8) × Bool) : S := ⟨[(2, kH 0), (3, kB r.2)], [], [⟨(.dp true), 22, 1, r.1.length, .d (.by 5) r.1⟩]⟩
def rParts_ct (n : Nat) (r : List (List UInt8) × Bool) : Ct := ctv (ctc (vB 5).rd fun _ l0 => ct0 fun H => ([rParts n l0 = some r], shA H.length (.t [.c (.wh 0), .c (.s (.b r.2))]), vwH (shH H.length [⟨(.dp true), 22, 1, r.1.length, .d (.by 5) r.1⟩])))
theorem rParts_ok (n : Nat) (r : List (List UInt8) × Bool) : FnVOk Try.prog Tr 34 (rParts_ct n r) := by
 refine fnokV Try.func34 ?_
 refine HV_c (vB 5) fun l0 _ => HV_0 tabO_nfc (rParts_R r) [.tmp 2, .tmp 3] [0] 40 Try.func34 fun w bq h => ?_
 unfold rParts at h
 have hT := tabO_nfc
 refine Vrs hT [0] ⟨[(0, kH 0)], [], [ub 5 l0]⟩ ?_
 refine Vrs hT [0] ⟨[(0, kH 0), (4, .c (.nils))], [], [ub 5 l0]⟩ ?_
 refine Vrs hT [0] ⟨[(0, kH 0), (4, .c (.nils)), (5, kI 0)], [], [ub 5 l0]⟩ ?_
 refine W_seq ?_
 refine W_block ?_
 refine W_cod [.co (.nil 4 22 1 (.c [])), .g0 1 (.by 5)] [] [] [0, 4, 5] [0, 1, 2] (s' := (rParts_l1_E l0 [] 0)) (by kernel_rfl) (W_lp ((rParts_l1_P n l0 r)) n ⟨_, _, rfl, h⟩ ?_)
 rintro fu_l1 _ ⟨d4_1, i5_1, rfl, h⟩
 cases fu_l1 with
 | zero => cases h
 | succ fu_l1 =>
  refine ⟨fu_l1, rfl, ?_⟩
  rw [rParts_l1] at h
  refine W_seq ?_
  refine Vrs hT [0, 1, 2] ⟨[(0, kH 0), (4, kH 1), (5, kI i5_1), (12, kB (decide (i5_1 < ((l0.length : Nat) : Int))))], [], [ub 5 l0, ⟨.row, 22, 1, d4_1.length, .g 2 d4_1.length 1 []⟩, ⟨(.gs true), 22, 1, d4_1.length, .d (.by 5) d4_1⟩]⟩ ?_
  refine Vi ((decide (i5_1 < ((l0.length : Nat) : Int)))) (fun g13 => ?_) (fun g13 => ?_)
  ·replace h := bif_t h g13
   refine W_skip ?_
   refine W_block ?_
   obtain ⟨g1, g2, h⟩ := gd2 h
   obtain ⟨r17_2, g3, h⟩ := bind_some' h
   refine Vgs hT (fT 3 (rFirst_ok n r17_2) fN) [] [] [0, 1, 2] ⟨[(0, kH 0), (4, kH 1), (5, kI i5_1), (6, kI r17_2.1), (7, kI r17_2.2.1), (8, kB r17_2.2.2)], [], [ub 5 l0, ⟨.row, 22, 1, d4_1.length, .g 2 d4_1.length 1 []⟩, ⟨(.gs true), 22, 1, d4_1.length, .d (.by 5) d4_1⟩]⟩ (aP g1 (aP g2 (aP g3 aN))) ?_
   refine W_seq ?_
   refine Vrs hT [0, 1, 2] ⟨[(0, kH 0), (4, kH 1), (5, kI i5_1), (6, kI r17_2.1), (7, kI r17_2.2.1), (22, kB (!r17_2.2.2))], [], [ub 5 l0, ⟨.row, 22, 1, d4_1.length, .g 2 d4_1.length 1 []⟩, ⟨(.gs true), 22, 1, d4_1.length, .d (.by 5) d4_1⟩]⟩ ?_
   refine Vi ((!r17_2.2.2)) (fun g12 => ?_) (fun g12 => ?_)
   ·replace h := bif_t h g12
    refine Vrs hT [] ⟨[(2, .c (.nils)), (3, kB false)], [], []⟩ ?_
    refine W_cod [.dn 2 22 (.by 5)] [] [] [2, 3] [0] (s' := (rParts_R ([], false))) (by kernel_rfl) (W_ret ?_)
    exact ⟨.inl rfl, by cases h; rfl⟩
   ·replace h := bif_f h g12
    refine W_skip ?_
    obtain ⟨g4, g5, g6, g7, g8, h⟩ := gd5 h
    obtain ⟨g9, h⟩ := gd_some h
    refine Vgs hT fN [] [] [0, 4, 2] ⟨[(0, kH 0), (4, kH 1), (5, kI i5_1), (6, kI r17_2.1), (7, kI r17_2.2.1)], [], [ub 5 l0, ⟨.row, 22, 1, (d4_1.length + 1), .g 2 d4_1.length 1 [.sl 0 i5_1.toNat ((((i5_1 + r17_2.1) + r17_2.2.1).toNat) - i5_1.toNat)]⟩, ⟨(.gs true), 22, 1, d4_1.length, .d (.by 5) d4_1⟩]⟩ (aP g4 (aP g5 (aP g6 (aP g7 (aP g8 (aP g9 aN)))))) ?_
    obtain ⟨g10, g11, h⟩ := gd2 h
    refine W_weak ?_
    refine Vg hT fN [] [] [0, 1, 2] ⟨[(0, kH 0), (4, kH 1), (5, kI ((i5_1 + r17_2.1) + r17_2.2.1))], [], [ub 5 l0, ⟨.row, 22, 1, (d4_1.length + 1), .g 2 d4_1.length 1 [.sl 0 i5_1.toNat ((((i5_1 + r17_2.1) + r17_2.2.1).toNat) - i5_1.toNat)]⟩, ⟨(.gs true), 22, 1, d4_1.length, .d (.by 5) d4_1⟩]⟩ (aP g10 (aP g11 aN)) ?_
    refine ⟨[.ab 1 [0]], [d4_1.length], [], [0, 4, 5], [0, 1, 3], (rParts_l1_E l0 (d4_1 ++ [((l0.drop i5_1.toNat).take ((((i5_1 + r17_2.1) + r17_2.2.1).toNat) - i5_1.toNat))]) ((i5_1 + r17_2.1) + r17_2.2.1)), (by kernel_rfl), ?_⟩
    exact ⟨_, _, rfl, h⟩
  ·replace h := bif_f h g13
   refine Vc [] [1, 2] ⟨[(4, kH 0)], [], [⟨.row, 22, 1, d4_1.length, .g 1 d4_1.length 1 []⟩, ⟨(.gs true), 22, 1, d4_1.length, .d (.by 5) d4_1⟩]⟩ (W_exit ?_)
   refine Vrs hT [0, 1] ⟨[(2, kH 0), (3, kB true)], [], [⟨.row, 22, 1, d4_1.length, .g 1 d4_1.length 1 []⟩, ⟨(.gs true), 22, 1, d4_1.length, .d (.by 5) d4_1⟩]⟩ ?_
   refine W_cod [.fz 2] [d4_1.length] [] [2, 3] [2] (s' := (rParts_R (d4_1, true))) (by kernel_rfl) (W_ret ?_)
   exact ⟨.inl rfl, by cases h; rfl⟩
end Go.Proofs.Ytobfglafchoipaa
end
section
namespace Go.Proofs.Ytobfglafchoipaa
open Go.RowKit Go.Ch Go.Sx
def tabL_nrb : List (TypeId × Ti) := [(5, ⟨.int .u8, 1, 1, true, some [.int .u8]⟩),
 (9, ⟨.str, 1, 16, true, some [.str]⟩),
 (22, ⟨.sl 5, 1, 24, false, some [.nils]⟩),
 (27, ⟨.sl 47, 1, 24, false, some [.nils]⟩),
 (32, ⟨.ifc, 1, 16, true, some [.ifc]⟩),
 (38, ⟨.int .i64, 1, 8, true, some [.int .i64]⟩),
 (44, ⟨.sl 92, 1, 24, false, some [.nils]⟩),
 (46, ⟨.st [(44, 0), (5, 1), (22, 2)], 3, 56, false, some [.nils, .int .u8, .nils]⟩),
 (47, ⟨.sl 46, 1, 24, false, some [.nils]⟩),
 (59, ⟨.sl 22, 1, 24, false, some [.nils]⟩),
 (92, ⟨.int .u32, 1, 4, true, some [.int .u32]⟩)]
def tab_nrb : Tab := fun t => (tabL_nrb).lookup t
theorem tabE_nrb : (tabL_nrb.map fun p => tiOf Try.prog p.1) = tabL_nrb.map fun p => some p.2 := by kernel_rfl
theorem tabO_nrb : TabOk Try.prog tab_nrb := tab_of tabE_nrb
def rRead_l2 (n : Nat) (a0 : List UInt8) (r35 : List (List UInt8) × Bool) (d8_3 : List (List (List UInt32 × (UInt8 × List UInt8)))) (i9_3 : Int) (r61_4 : List (List UInt8) × Bool) (k_l1 : (List (List (List UInt32 × (UInt8 × List UInt8)))) → Int → Option (List (List (List UInt32 × (UInt8 × List UInt8))) × Bool)) : Nat → List (List UInt32 × (UInt8 × List UInt8)) → Int → Option (List (List (List UInt32 × (UInt8 × List UInt8))) × Bool)
 | 0, _, _ => none
 | fu_l2 + 1, d14_15, i15_15 =>
  bif (decide (i15_15 < ((r61_4.1.length : Nat) : Int))) then
   gd (0 ≤ i15_15) <|
   gd (i15_15 < ((r61_4.1.length : Nat) : Int)) <|
   (rBody n (r61_4.1.getD i15_15.toNat []) 48).bind fun r81_20 =>
   (rParts n r81_20.1).bind fun r86_20 =>
   bif (!r81_20.2.2) then
    some ([], false)
   else
    bif (!r86_20.2) then
     some ([], false)
    else
     bif (((r86_20.1.length : Nat) : Int) != 2) then
      some ([], false)
     else
      gd (0 ≤ (0 : Int)) <|
      gd ((0 : Int) < ((r86_20.1.length : Nat) : Int)) <|
      (rBody n (r86_20.1.getD 0 []) 6).bind fun r104_20 =>
      (rReadOid n r104_20.1).bind fun r109_20 =>
      gd (0 ≤ (1 : Int)) <|
      gd ((1 : Int) < ((r86_20.1.length : Nat) : Int)) <|
      gd (0 ≤ (1 : Int)) <|
      gd ((1 : Int) < ((r86_20.1.length : Nat) : Int)) <|
      gd (0 ≤ (0 : Int)) <|
      gd ((0 : Int) < (((r86_20.1.getD 1 []).length : Nat) : Int)) <|
      (rBody n (r86_20.1.getD 1 []) ((r86_20.1.getD 1 []).getD 0 0)).bind fun r121_20 =>
      bif (!r104_20.2.2) then
       some ([], false)
      else
       bif (!r109_20.2) then
        some ([], false)
       else
        bif (!r121_20.2.2) then
         some ([], false)
        else
         gd (0 ≤ (1 : Int)) <|
         gd ((1 : Int) < ((r86_20.1.length : Nat) : Int)) <|
         gd (0 ≤ (0 : Int)) <|
         gd ((0 : Int) < (((r86_20.1.getD 1 []).length : Nat) : Int)) <|
         gd (rmB (d14_15.length + 1) 56) <|
         gd (okI .i64 (i15_15 + 1)) <|
         (rRead_l2 n a0 r35 d8_3 i9_3 r61_4 k_l1 fu_l2) (d14_15 ++ [(r109_20.1, (((r86_20.1.getD 1 []).getD 0 0), r121_20.1))]) (i15_15 + 1)
  else
   gd (rmB (d8_3.length + 1) 24) <|
   gd (okI .i64 (i9_3 + 1)) <|
   k_l1 (d8_3 ++ [d14_15]) (i9_3 + 1)
def rRead_l1 (n : Nat) (a0 : List UInt8) (r35 : List (List UInt8) × Bool) : Nat → List (List (List UInt32 × (UInt8 × List UInt8))) → Int → Option (List (List (List UInt32 × (UInt8 × List UInt8))) × Bool)
 | 0, _, _ => none
 | fu_l1 + 1, d8_3, i9_3 =>
  bif (decide (i9_3 < ((r35.1.length : Nat) : Int))) then
   gd (0 ≤ i9_3) <|
   gd (i9_3 < ((r35.1.length : Nat) : Int)) <|
   (rBody n (r35.1.getD i9_3.toNat []) 49).bind fun r56_4 =>
   (rParts n r56_4.1).bind fun r61_4 =>
   bif (!r56_4.2.2) then
    some ([], false)
   else
    bif (!r61_4.2) then
     some ([], false)
    else
     rRead_l2 n a0 r35 d8_3 i9_3 r61_4 (rRead_l1 n a0 r35 fu_l1) n [] 0
  else
   (rWrite n d8_3).bind fun r151_1 =>
   bif (!r151_1.2) then
    some ([], false)
   else
    bif (r151_1.1 != a0) then
     some ([], false)
    else
     some (d8_3, true)
def rRead (n : Nat) (a0 : List UInt8) : Option (List (List (List UInt32 × (UInt8 × List UInt8))) × Bool) :=
 (rBody n a0 48).bind fun r30 =>
 (rParts n r30.1).bind fun r35 =>
 bif (!r30.2.2) then
  some ([], false)
 else
  bif (!r35.2) then
   some ([], false)
  else
   rRead_l1 n a0 r35 n [] 0
def lReads (n : Nat) (a0 : List UInt8) : Option (Bool) :=
 (lup n).bind fun r8 =>
 bif (decide ((4000 : Int) < ((a0.length : Nat) : Int))) then
  some r8
 else
  (nRead n a0).bind fun r15 =>
  (rRead n a0).bind fun r20 =>
  bif (!r20.2) then
   bif r8 then
    gd (¬((r15.2 : Option Int) = none ∧ ((some 2) : Option Int) = none)) <|
    bif (r15.2 == (some 2)) then
     some (((r15.1.length : Nat) : Int) == 0)
    else
     some false
   else
    some false
  else
   bif r8 then
    bif ((r15.2).isNone) then
     (rSame n r15.1 r20.1).bind fun r44 =>
     some r44
    else
     some false
   else
    some false
def rRead_l2_E (a0 : List UInt8) (r35 : List (List UInt8) × Bool) (d8_3 : List (List (List UInt32 × (UInt8 × List UInt8)))) (i9_3 : Int) (r61_4 : List (List UInt8) × Bool) (d14_15 : List (List UInt32 × (UInt8 × List UInt8))) (i15_15 : Int) : S := ⟨[(0, kH 0), (6, kH 1), (8, kH 2), (9, kI i9_3), (12, kH 4), (14, kH 5), (15, kI i15_15)], [], [ob 5 a0, ⟨(.dp false), 22, 1, r35.1.length, .d (.by 5) r35.1⟩, ⟨.row, 47, 1, d8_3.length, .g 3 d8_3.length 1 []⟩, ⟨(.gs false), 47, 1, d8_3.length, .d (.sl 46 (.pr (.wo 92) (.pr .u8 (.by 5)))) d8_3⟩, ⟨(.dp false), 22, 1, r61_4.1.length, .d (.by 5) r61_4.1⟩, ⟨.row, 46, 3, d14_15.length, .g 6 d14_15.length 3 []⟩, ⟨(.gs false), 46, 3, d14_15.length, .d (.pr (.wo 92) (.pr .u8 (.by 5))) d14_15⟩]⟩
abbrev rRead_l2_P (n : Nat) (a0 : List UInt8) (r35 : List (List UInt8) × Bool) (d8_3 : List (List (List UInt32 × (UInt8 × List UInt8)))) (i9_3 : Int) (r61_4 : List (List UInt8) × Bool) (k_l1 : (List (List (List UInt32 × (UInt8 × List UInt8)))) → Int → Option (List (List (List UInt32 × (UInt8 × List UInt8))) × Bool)) (r : List (List (List UInt32 × (UInt8 × List UInt8))) × Bool) (fu : Nat) : S → Prop := fun s => ∃ (d14_15 : List (List UInt32 × (UInt8 × List UInt8))), ∃ (i15_15 : Int), s = rRead_l2_E a0 r35 d8_3 i9_3 r61_4 d14_15 i15_15 ∧ rRead_l2 n a0 r35 d8_3 i9_3 r61_4 k_l1 fu d14_15 i15_15 = some r
def rRead_l1_E (a0 : List UInt8) (r35 : List (List UInt8) × Bool) (d8_3 : List (List (List UInt32 × (UInt8 × List UInt8)))) (i9_3 : Int) : S := ⟨[(0, kH 0), (6, kH 1), (8, kH 2), (9, kI i9_3)], [], [ob 5 a0, ⟨(.dp false), 22, 1, r35.1.length, .d (.by 5) r35.1⟩, ⟨.row, 47, 1, d8_3.length, .g 3 d8_3.length 1 []⟩, ⟨(.gs false), 47, 1, d8_3.length, .d (.sl 46 (.pr (.wo 92) (.pr .u8 (.by 5)))) d8_3⟩]⟩
abbrev rRead_l1_P (n : Nat) (a0 : List UInt8) (r35 : List (List UInt8) × Bool) (r : List (List (List UInt32 × (UInt8 × List UInt8))) × Bool) (fu : Nat) : S → Prop := fun s => ∃ (d8_3 : List (List (List UInt32 × (UInt8 × List UInt8)))), ∃ (i9_3 : Int), s = rRead_l1_E a0 r35 d8_3 i9_3 ∧ rRead_l1 n a0 r35 fu d8_3 i9_3 = some r
def rRead_R (r : List (List (List UInt32 × (UInt8 × List UInt8))) × Bool) : S := ⟨[(2, kH 0), (3, kB r.2)], [], [⟨(.dp false), 47, 1, r.1.length, .d (.sl 46 (.pr (.wo 92) (.pr .u8 (.by 5)))) r.1⟩]⟩
def rRead_ct (n : Nat) (r : List (List (List UInt32 × (UInt8 × List UInt8))) × Bool) : Ct := ctc (rB 5).rd fun _ l0 => ct0 fun H => ([rRead n l0 = some r], shA H.length (.t [.c (.wh 0), .c (.s (.b r.2))]), shH H.length [⟨(.dp false), 47, 1, r.1.length, .d (.sl 46 (.pr (.wo 92) (.pr .u8 (.by 5)))) r.1⟩])
theorem rRead_ok (n : Nat) (r : List (List (List UInt32 × (UInt8 × List UInt8))) × Bool) : FnOk Try.prog Tr 22 (rRead_ct n r) := by
 refine fnok Try.func22 ?_
 refine HO_c (rB 5) fun l0 _ => HO_0 tabO_nrb (rRead_R r) [.tmp 2, .tmp 3] [0] 164 Try.func22 fun w hG h => ?_
 unfold rRead at h
 have hT := tabO_nrb
 refine Vrs hT [0] ⟨[(0, kH 0)], [], [ob 5 l0]⟩ ?_
 obtain ⟨r30, g1, h⟩ := bind_some' h
 refine Vgs hT (fV 1 (rBody_ok n r30) fN) [] [] [0, 1] ⟨[(0, kH 0), (4, kH 1), (5, kB r30.2.2)], [], [ob 5 l0, ⟨(.ro false), 5, 1, r30.2.1, .b r30.1⟩]⟩ (aP g1 aN) ?_
 obtain ⟨r35, g2, h⟩ := bind_some' h
 refine Vgs hT (fV 1 (rParts_ok n r35) fN) [] [] [0, 2] ⟨[(0, kH 0), (5, kB r30.2.2), (6, kH 1), (7, kB r35.2)], [], [ob 5 l0, ⟨(.dp false), 22, 1, r35.1.length, .d (.by 5) r35.1⟩]⟩ (aP g2 aN) ?_
 refine W_seq ?_
 refine W_seq ?_
 rcases Bool.eq_false_or_eq_true (!r30.2.2) with g3 | g3
 ·replace h := bif_t h g3
  refine Vg hT fN [(2, true)] [] [0, 1] ⟨[(0, kH 0), (6, kH 1), (43, kB true)], [], [ob 5 l0, ⟨(.dp false), 22, 1, r35.1.length, .d (.by 5) r35.1⟩]⟩ (aP g3 aN) ?_
  refine Vi (true) (fun _ => ?_) (fun hb => by cases hb)
  refine Vrs hT [] ⟨[(2, .c (.nils)), (3, kB false)], [], []⟩ ?_
  refine W_cod [.dn 2 47 (.sl 46 (.pr (.wo 92) (.pr .u8 (.by 5)))), .wk 0] [] [] [2, 3] [0] (s' := (rRead_R ([], false))) (by kernel_rfl) (W_ret ?_)
  exact ⟨.inl rfl, by cases h; rfl⟩
 ·replace h := bif_f h g3
  refine Vg hT fN [(2, false)] [] [0, 1] ⟨[(0, kH 0), (6, kH 1), (43, kB (!r35.2))], [], [ob 5 l0, ⟨(.dp false), 22, 1, r35.1.length, .d (.by 5) r35.1⟩]⟩ (aP g3 aN) ?_
  refine Vi ((!r35.2)) (fun g44 => ?_) (fun g44 => ?_)
  ·replace h := bif_t h g44
   refine Vrs hT [] ⟨[(2, .c (.nils)), (3, kB false)], [], []⟩ ?_
   refine W_cod [.dn 2 47 (.sl 46 (.pr (.wo 92) (.pr .u8 (.by 5)))), .wk 0] [] [] [2, 3] [0] (s' := (rRead_R ([], false))) (by kernel_rfl) (W_ret ?_)
   exact ⟨.inl rfl, by cases h; rfl⟩
  ·replace h := bif_f h g44
   refine W_skip ?_
   refine Vrs hT [0, 1, 2] ⟨[(0, kH 0), (6, kH 1), (8, kH 2)], [], [ob 5 l0, ⟨(.dp false), 22, 1, r35.1.length, .d (.by 5) r35.1⟩, ⟨.row, 47, 1, 0, .c []⟩]⟩ ?_
   refine W_seq ?_
   refine Vrs hT [0, 1, 2] ⟨[(0, kH 0), (6, kH 1), (8, kH 2), (9, kI 0)], [], [ob 5 l0, ⟨(.dp false), 22, 1, r35.1.length, .d (.by 5) r35.1⟩, ⟨.row, 47, 1, 0, .c []⟩]⟩ ?_
   refine W_block ?_
   refine W_cod [.g0 2 (.sl 46 (.pr (.wo 92) (.pr .u8 (.by 5)))), .wk 3] [] [] [0, 6, 8, 9] [0, 1, 2, 3] (s' := (rRead_l1_E l0 r35 [] 0)) (by kernel_rfl) (W_lp ((rRead_l1_P n l0 r35 r)) n ⟨_, _, rfl, h⟩ ?_)
   rintro fu_l1 _ ⟨d8_3, i9_3, rfl, h⟩
   cases fu_l1 with
   | zero => cases h
   | succ fu_l1 =>
    refine ⟨fu_l1, rfl, ?_⟩
    rw [rRead_l1] at h
    refine W_seq ?_
    refine Vrs hT [0, 1, 2, 3] ⟨[(0, kH 0), (6, kH 1), (8, kH 2), (9, kI i9_3), (48, kB (decide (i9_3 < ((r35.1.length : Nat) : Int))))], [], [ob 5 l0, ⟨(.dp false), 22, 1, r35.1.length, .d (.by 5) r35.1⟩, ⟨.row, 47, 1, d8_3.length, .g 3 d8_3.length 1 []⟩, ⟨(.gs false), 47, 1, d8_3.length, .d (.sl 46 (.pr (.wo 92) (.pr .u8 (.by 5)))) d8_3⟩]⟩ ?_
    refine Vi ((decide (i9_3 < ((r35.1.length : Nat) : Int)))) (fun g43 => ?_) (fun g43 => ?_)
    ·replace h := bif_t h g43
     refine W_skip ?_
     refine W_seq ?_
     refine W_block ?_
     obtain ⟨g4, g5, h⟩ := gd2 h
     obtain ⟨r56_4, g6, h⟩ := bind_some' h
     refine Vgs hT (fV 4 (rBody_ok n r56_4) fN) [] [] [0, 1, 2, 3, 4] ⟨[(0, kH 0), (6, kH 1), (8, kH 2), (9, kI i9_3), (10, kH 4), (11, kB r56_4.2.2)], [], [ob 5 l0, ⟨(.dp false), 22, 1, r35.1.length, .d (.by 5) r35.1⟩, ⟨.row, 47, 1, d8_3.length, .g 3 d8_3.length 1 []⟩, ⟨(.gs false), 47, 1, d8_3.length, .d (.sl 46 (.pr (.wo 92) (.pr .u8 (.by 5)))) d8_3⟩, ⟨(.ro false), 5, 1, r56_4.2.1, .b r56_4.1⟩]⟩ (aP g4 (aP g5 (aP g6 aN))) ?_
     obtain ⟨r61_4, g7, h⟩ := bind_some' h
     refine Vgs hT (fV 1 (rParts_ok n r61_4) fN) [] [] [0, 1, 2, 3, 5] ⟨[(0, kH 0), (6, kH 1), (8, kH 2), (9, kI i9_3), (11, kB r56_4.2.2), (12, kH 4), (13, kB r61_4.2)], [], [ob 5 l0, ⟨(.dp false), 22, 1, r35.1.length, .d (.by 5) r35.1⟩, ⟨.row, 47, 1, d8_3.length, .g 3 d8_3.length 1 []⟩, ⟨(.gs false), 47, 1, d8_3.length, .d (.sl 46 (.pr (.wo 92) (.pr .u8 (.by 5)))) d8_3⟩, ⟨(.dp false), 22, 1, r61_4.1.length, .d (.by 5) r61_4.1⟩]⟩ (aP g7 aN) ?_
     refine W_seq ?_
     refine W_seq ?_
     rcases Bool.eq_false_or_eq_true (!r56_4.2.2) with g8 | g8
     ·replace h := bif_t h g8
      refine Vg hT fN [(2, true)] [] [0, 1, 2, 3, 4] ⟨[(0, kH 0), (6, kH 1), (8, kH 2), (9, kI i9_3), (12, kH 4), (69, kB true)], [], [ob 5 l0, ⟨(.dp false), 22, 1, r35.1.length, .d (.by 5) r35.1⟩, ⟨.row, 47, 1, d8_3.length, .g 3 d8_3.length 1 []⟩, ⟨(.gs false), 47, 1, d8_3.length, .d (.sl 46 (.pr (.wo 92) (.pr .u8 (.by 5)))) d8_3⟩, ⟨(.dp false), 22, 1, r61_4.1.length, .d (.by 5) r61_4.1⟩]⟩ (aP g8 aN) ?_
      refine Vi (true) (fun _ => ?_) (fun hb => by cases hb)
      refine Vrs hT [] ⟨[(2, .c (.nils)), (3, kB false)], [], []⟩ ?_
      refine W_cod [.dn 2 47 (.sl 46 (.pr (.wo 92) (.pr .u8 (.by 5)))), .wk 0] [] [] [2, 3] [0] (s' := (rRead_R ([], false))) (by kernel_rfl) (W_ret ?_)
      exact ⟨.inl rfl, by cases h; rfl⟩
     ·replace h := bif_f h g8
      refine Vg hT fN [(2, false)] [] [0, 1, 2, 3, 4] ⟨[(0, kH 0), (6, kH 1), (8, kH 2), (9, kI i9_3), (12, kH 4), (69, kB (!r61_4.2))], [], [ob 5 l0, ⟨(.dp false), 22, 1, r35.1.length, .d (.by 5) r35.1⟩, ⟨.row, 47, 1, d8_3.length, .g 3 d8_3.length 1 []⟩, ⟨(.gs false), 47, 1, d8_3.length, .d (.sl 46 (.pr (.wo 92) (.pr .u8 (.by 5)))) d8_3⟩, ⟨(.dp false), 22, 1, r61_4.1.length, .d (.by 5) r61_4.1⟩]⟩ (aP g8 aN) ?_
      refine Vi ((!r61_4.2)) (fun g39 => ?_) (fun g39 => ?_)
      ·replace h := bif_t h g39
       refine Vrs hT [] ⟨[(2, .c (.nils)), (3, kB false)], [], []⟩ ?_
       refine W_cod [.dn 2 47 (.sl 46 (.pr (.wo 92) (.pr .u8 (.by 5)))), .wk 0] [] [] [2, 3] [0] (s' := (rRead_R ([], false))) (by kernel_rfl) (W_ret ?_)
       exact ⟨.inl rfl, by cases h; rfl⟩
      ·replace h := bif_f h g39
       refine W_skip ?_
       refine Vrs hT [0, 1, 2, 3, 4] ⟨[(0, kH 0), (6, kH 1), (8, kH 2), (9, kI i9_3), (12, kH 4), (14, .c (.nils))], [], [ob 5 l0, ⟨(.dp false), 22, 1, r35.1.length, .d (.by 5) r35.1⟩, ⟨.row, 47, 1, d8_3.length, .g 3 d8_3.length 1 []⟩, ⟨(.gs false), 47, 1, d8_3.length, .d (.sl 46 (.pr (.wo 92) (.pr .u8 (.by 5)))) d8_3⟩, ⟨(.dp false), 22, 1, r61_4.1.length, .d (.by 5) r61_4.1⟩]⟩ ?_
       refine W_seq ?_
       refine Vrs hT [0, 1, 2, 3, 4] ⟨[(0, kH 0), (6, kH 1), (8, kH 2), (9, kI i9_3), (12, kH 4), (14, .c (.nils)), (15, kI 0)], [], [ob 5 l0, ⟨(.dp false), 22, 1, r35.1.length, .d (.by 5) r35.1⟩, ⟨.row, 47, 1, d8_3.length, .g 3 d8_3.length 1 []⟩, ⟨(.gs false), 47, 1, d8_3.length, .d (.sl 46 (.pr (.wo 92) (.pr .u8 (.by 5)))) d8_3⟩, ⟨(.dp false), 22, 1, r61_4.1.length, .d (.by 5) r61_4.1⟩]⟩ ?_
       refine W_block ?_
       refine W_cod [.co (.nil 14 46 3 (.c [])), .g0 5 (.pr (.wo 92) (.pr .u8 (.by 5))), .wk 6] [] [] [0, 6, 8, 9, 12, 14, 15] [0, 1, 2, 3, 4, 5, 6] (s' := (rRead_l2_E l0 r35 d8_3 i9_3 r61_4 [] 0)) (by kernel_rfl) (W_lp ((rRead_l2_P n l0 r35 d8_3 i9_3 r61_4 (rRead_l1 n l0 r35 fu_l1) r)) n ⟨_, _, rfl, h⟩ ?_)
       rintro fu_l2 _ ⟨d14_15, i15_15, rfl, h⟩
       cases fu_l2 with
       | zero => cases h
       | succ fu_l2 =>
        refine ⟨fu_l2, rfl, ?_⟩
        rw [rRead_l2] at h
        refine W_seq ?_
        refine Vrs hT [0, 1, 2, 3, 4, 5, 6] ⟨[(0, kH 0), (6, kH 1), (8, kH 2), (9, kI i9_3), (12, kH 4), (14, kH 5), (15, kI i15_15), (73, kB (decide (i15_15 < ((r61_4.1.length : Nat) : Int))))], [], [ob 5 l0, ⟨(.dp false), 22, 1, r35.1.length, .d (.by 5) r35.1⟩, ⟨.row, 47, 1, d8_3.length, .g 3 d8_3.length 1 []⟩, ⟨(.gs false), 47, 1, d8_3.length, .d (.sl 46 (.pr (.wo 92) (.pr .u8 (.by 5)))) d8_3⟩, ⟨(.dp false), 22, 1, r61_4.1.length, .d (.by 5) r61_4.1⟩, ⟨.row, 46, 3, d14_15.length, .g 6 d14_15.length 3 []⟩, ⟨(.gs false), 46, 3, d14_15.length, .d (.pr (.wo 92) (.pr .u8 (.by 5))) d14_15⟩]⟩ ?_
        refine Vi ((decide (i15_15 < ((r61_4.1.length : Nat) : Int)))) (fun g38 => ?_) (fun g38 => ?_)
        ·replace h := bif_t h g38
         refine W_skip ?_
         refine W_seq ?_
         refine W_block ?_
         obtain ⟨g9, g10, h⟩ := gd2 h
         obtain ⟨r81_20, g11, h⟩ := bind_some' h
         refine Vgs hT (fV 4 (rBody_ok n r81_20) fN) [] [] [0, 1, 2, 3, 4, 5, 6, 7] ⟨[(0, kH 0), (6, kH 1), (8, kH 2), (9, kI i9_3), (12, kH 4), (14, kH 5), (15, kI i15_15), (16, kH 7), (17, kB r81_20.2.2)], [], [ob 5 l0, ⟨(.dp false), 22, 1, r35.1.length, .d (.by 5) r35.1⟩, ⟨.row, 47, 1, d8_3.length, .g 3 d8_3.length 1 []⟩, ⟨(.gs false), 47, 1, d8_3.length, .d (.sl 46 (.pr (.wo 92) (.pr .u8 (.by 5)))) d8_3⟩, ⟨(.dp false), 22, 1, r61_4.1.length, .d (.by 5) r61_4.1⟩, ⟨.row, 46, 3, d14_15.length, .g 6 d14_15.length 3 []⟩, ⟨(.gs false), 46, 3, d14_15.length, .d (.pr (.wo 92) (.pr .u8 (.by 5))) d14_15⟩, ⟨(.ro false), 5, 1, r81_20.2.1, .b r81_20.1⟩]⟩ (aP g9 (aP g10 (aP g11 aN))) ?_
         obtain ⟨r86_20, g12, h⟩ := bind_some' h
         refine Vgs hT (fV 1 (rParts_ok n r86_20) fN) [] [] [0, 1, 2, 3, 4, 5, 6, 8] ⟨[(0, kH 0), (6, kH 1), (8, kH 2), (9, kI i9_3), (12, kH 4), (14, kH 5), (15, kI i15_15), (17, kB r81_20.2.2), (18, kH 7), (19, kB r86_20.2)], [], [ob 5 l0, ⟨(.dp false), 22, 1, r35.1.length, .d (.by 5) r35.1⟩, ⟨.row, 47, 1, d8_3.length, .g 3 d8_3.length 1 []⟩, ⟨(.gs false), 47, 1, d8_3.length, .d (.sl 46 (.pr (.wo 92) (.pr .u8 (.by 5)))) d8_3⟩, ⟨(.dp false), 22, 1, r61_4.1.length, .d (.by 5) r61_4.1⟩, ⟨.row, 46, 3, d14_15.length, .g 6 d14_15.length 3 []⟩, ⟨(.gs false), 46, 3, d14_15.length, .d (.pr (.wo 92) (.pr .u8 (.by 5))) d14_15⟩, ⟨(.dp false), 22, 1, r86_20.1.length, .d (.by 5) r86_20.1⟩]⟩ (aP g12 aN) ?_
         refine W_seq ?_
         refine W_seq ?_
         rcases Bool.eq_false_or_eq_true (!r81_20.2.2) with g13 | g13
         ·replace h := bif_t h g13
          refine Vg hT fN [(2, true)] [] [0, 1, 2, 3, 4, 5, 6, 7] ⟨[(0, kH 0), (6, kH 1), (8, kH 2), (9, kI i9_3), (12, kH 4), (14, kH 5), (15, kI i15_15), (18, kH 7), (99, kB true)], [], [ob 5 l0, ⟨(.dp false), 22, 1, r35.1.length, .d (.by 5) r35.1⟩, ⟨.row, 47, 1, d8_3.length, .g 3 d8_3.length 1 []⟩, ⟨(.gs false), 47, 1, d8_3.length, .d (.sl 46 (.pr (.wo 92) (.pr .u8 (.by 5)))) d8_3⟩, ⟨(.dp false), 22, 1, r61_4.1.length, .d (.by 5) r61_4.1⟩, ⟨.row, 46, 3, d14_15.length, .g 6 d14_15.length 3 []⟩, ⟨(.gs false), 46, 3, d14_15.length, .d (.pr (.wo 92) (.pr .u8 (.by 5))) d14_15⟩, ⟨(.dp false), 22, 1, r86_20.1.length, .d (.by 5) r86_20.1⟩]⟩ (aP g13 aN) ?_
          refine Vi (true) (fun _ => ?_) (fun hb => by cases hb)
          refine Vrs hT [] ⟨[(2, .c (.nils)), (3, kB false)], [], []⟩ ?_
          refine W_cod [.dn 2 47 (.sl 46 (.pr (.wo 92) (.pr .u8 (.by 5)))), .wk 0] [] [] [2, 3] [0] (s' := (rRead_R ([], false))) (by kernel_rfl) (W_ret ?_)
          exact ⟨.inl rfl, by cases h; rfl⟩
         ·replace h := bif_f h g13
          rcases Bool.eq_false_or_eq_true (!r86_20.2) with g14 | g14
          ·replace h := bif_t h g14
           refine Vg hT fN [(2, false), (6, true)] [] [0, 1, 2, 3, 4, 5, 6, 7] ⟨[(0, kH 0), (6, kH 1), (8, kH 2), (9, kI i9_3), (12, kH 4), (14, kH 5), (15, kI i15_15), (18, kH 7), (99, kB true)], [], [ob 5 l0, ⟨(.dp false), 22, 1, r35.1.length, .d (.by 5) r35.1⟩, ⟨.row, 47, 1, d8_3.length, .g 3 d8_3.length 1 []⟩, ⟨(.gs false), 47, 1, d8_3.length, .d (.sl 46 (.pr (.wo 92) (.pr .u8 (.by 5)))) d8_3⟩, ⟨(.dp false), 22, 1, r61_4.1.length, .d (.by 5) r61_4.1⟩, ⟨.row, 46, 3, d14_15.length, .g 6 d14_15.length 3 []⟩, ⟨(.gs false), 46, 3, d14_15.length, .d (.pr (.wo 92) (.pr .u8 (.by 5))) d14_15⟩, ⟨(.dp false), 22, 1, r86_20.1.length, .d (.by 5) r86_20.1⟩]⟩ (aP g13 (aP g14 aN)) ?_
           refine Vi (true) (fun _ => ?_) (fun hb => by cases hb)
           refine Vrs hT [] ⟨[(2, .c (.nils)), (3, kB false)], [], []⟩ ?_
           refine W_cod [.dn 2 47 (.sl 46 (.pr (.wo 92) (.pr .u8 (.by 5)))), .wk 0] [] [] [2, 3] [0] (s' := (rRead_R ([], false))) (by kernel_rfl) (W_ret ?_)
           exact ⟨.inl rfl, by cases h; rfl⟩
          ·replace h := bif_f h g14
           refine Vg hT fN [(2, false), (6, false)] [] [0, 1, 2, 3, 4, 5, 6, 7] ⟨[(0, kH 0), (6, kH 1), (8, kH 2), (9, kI i9_3), (12, kH 4), (14, kH 5), (15, kI i15_15), (18, kH 7), (99, kB (((r86_20.1.length : Nat) : Int) != 2))], [], [ob 5 l0, ⟨(.dp false), 22, 1, r35.1.length, .d (.by 5) r35.1⟩, ⟨.row, 47, 1, d8_3.length, .g 3 d8_3.length 1 []⟩, ⟨(.gs false), 47, 1, d8_3.length, .d (.sl 46 (.pr (.wo 92) (.pr .u8 (.by 5)))) d8_3⟩, ⟨(.dp false), 22, 1, r61_4.1.length, .d (.by 5) r61_4.1⟩, ⟨.row, 46, 3, d14_15.length, .g 6 d14_15.length 3 []⟩, ⟨(.gs false), 46, 3, d14_15.length, .d (.pr (.wo 92) (.pr .u8 (.by 5))) d14_15⟩, ⟨(.dp false), 22, 1, r86_20.1.length, .d (.by 5) r86_20.1⟩]⟩ (aP g13 (aP g14 aN)) ?_
           refine Vi ((((r86_20.1.length : Nat) : Int) != 2)) (fun g35 => ?_) (fun g35 => ?_)
           ·replace h := bif_t h g35
            refine Vrs hT [] ⟨[(2, .c (.nils)), (3, kB false)], [], []⟩ ?_
            refine W_cod [.dn 2 47 (.sl 46 (.pr (.wo 92) (.pr .u8 (.by 5)))), .wk 0] [] [] [2, 3] [0] (s' := (rRead_R ([], false))) (by kernel_rfl) (W_ret ?_)
            exact ⟨.inl rfl, by cases h; rfl⟩
           ·replace h := bif_f h g35
            refine W_skip ?_
            obtain ⟨g15, g16, h⟩ := gd2 h
            obtain ⟨r104_20, g17, h⟩ := bind_some' h
            refine Vgs hT (fV 3 (rBody_ok n r104_20) fN) [] [] [0, 1, 2, 3, 4, 5, 6, 7, 8] ⟨[(0, kH 0), (6, kH 1), (8, kH 2), (9, kI i9_3), (12, kH 4), (14, kH 5), (15, kI i15_15), (18, kH 7), (20, kH 8), (21, kB r104_20.2.2)], [], [ob 5 l0, ⟨(.dp false), 22, 1, r35.1.length, .d (.by 5) r35.1⟩, ⟨.row, 47, 1, d8_3.length, .g 3 d8_3.length 1 []⟩, ⟨(.gs false), 47, 1, d8_3.length, .d (.sl 46 (.pr (.wo 92) (.pr .u8 (.by 5)))) d8_3⟩, ⟨(.dp false), 22, 1, r61_4.1.length, .d (.by 5) r61_4.1⟩, ⟨.row, 46, 3, d14_15.length, .g 6 d14_15.length 3 []⟩, ⟨(.gs false), 46, 3, d14_15.length, .d (.pr (.wo 92) (.pr .u8 (.by 5))) d14_15⟩, ⟨(.dp false), 22, 1, r86_20.1.length, .d (.by 5) r86_20.1⟩, ⟨(.ro false), 5, 1, r104_20.2.1, .b r104_20.1⟩]⟩ (aP g15 (aP g16 (aP g17 aN))) ?_
            obtain ⟨r109_20, g18, h⟩ := bind_some' h
            refine Vgs hT (fT 1 (rReadOid_ok n r109_20) fN) [] [] [0, 1, 2, 3, 4, 5, 6, 7, 9] ⟨[(0, kH 0), (6, kH 1), (8, kH 2), (9, kI i9_3), (12, kH 4), (14, kH 5), (15, kI i15_15), (18, kH 7), (21, kB r104_20.2.2), (22, kH 8), (23, kB r109_20.2)], [], [ob 5 l0, ⟨(.dp false), 22, 1, r35.1.length, .d (.by 5) r35.1⟩, ⟨.row, 47, 1, d8_3.length, .g 3 d8_3.length 1 []⟩, ⟨(.gs false), 47, 1, d8_3.length, .d (.sl 46 (.pr (.wo 92) (.pr .u8 (.by 5)))) d8_3⟩, ⟨(.dp false), 22, 1, r61_4.1.length, .d (.by 5) r61_4.1⟩, ⟨.row, 46, 3, d14_15.length, .g 6 d14_15.length 3 []⟩, ⟨(.gs false), 46, 3, d14_15.length, .d (.pr (.wo 92) (.pr .u8 (.by 5))) d14_15⟩, ⟨(.dp false), 22, 1, r86_20.1.length, .d (.by 5) r86_20.1⟩, nw 92 r109_20.1]⟩ (aP g18 aN) ?_
            refine W_seq ?_
            obtain ⟨g19, g20, g21, g22, g23, h⟩ := gd5 h
            obtain ⟨g24, h⟩ := gd_some h
            obtain ⟨r121_20, g25, h⟩ := bind_some' h
            refine W_regG hT (fV 8 (rBody_ok n r121_20) fN) (by kernel_rfl) [] [0, 1, 2, 3, 4, 5, 6, 7, 9, 10, 11, 12, 13] [[0, 1, 2, 3, 4, 5, 6, 7], [0, 1, 2, 3, 4, 5, 6, 7, 8, 9, 10, 11, 12, 13]] [⟨[(0, kH 0), (6, kH 1), (8, kH 2), (9, kI i9_3), (12, kH 4), (14, kH 5), (15, kI i15_15), (18, kH 7), (21, kB r104_20.2.2), (22, kH 8), (23, kB r109_20.2), (113, kH 7), (114, .c (.dq 7 [] 1 0 1)), (115, .c (.dv 7 [(1, 0)])), (116, kH 7), (117, .c (.dq 7 [] 1 0 1)), (118, .c (.dv 7 [(1, 0)])), (119, .c (.dq 7 [(1, 0)] 0 0 1)), (120, kU ((r86_20.1.getD 1 []).getD 0 0))], [], [ob 5 l0, ⟨(.dp false), 22, 1, r35.1.length, .d (.by 5) r35.1⟩, ⟨.row, 47, 1, d8_3.length, .g 3 d8_3.length 1 []⟩, ⟨(.gs false), 47, 1, d8_3.length, .d (.sl 46 (.pr (.wo 92) (.pr .u8 (.by 5)))) d8_3⟩, ⟨(.dp false), 22, 1, r61_4.1.length, .d (.by 5) r61_4.1⟩, ⟨.row, 46, 3, d14_15.length, .g 6 d14_15.length 3 []⟩, ⟨(.gs false), 46, 3, d14_15.length, .d (.pr (.wo 92) (.pr .u8 (.by 5))) d14_15⟩, ⟨(.dp false), 22, 1, r86_20.1.length, .d (.by 5) r86_20.1⟩, nw 92 r109_20.1]⟩, ⟨[(0, kH 0), (6, kH 1), (8, kH 2), (9, kI i9_3), (12, kH 4), (14, kH 5), (15, kI i15_15), (18, kH 7), (21, kB r104_20.2.2), (22, kH 8), (23, kB r109_20.2), (24, kH 9), (25, kB r121_20.2.2), (112, .t [.c (.wh 9), .c (.s (.b r121_20.2.2))]), (121, .t [.c (.wh 9), .c (.s (.b r121_20.2.2))]), (122, kH 9), (123, kB r121_20.2.2)], [], [ob 5 l0, ⟨(.dp false), 22, 1, r35.1.length, .d (.by 5) r35.1⟩, ⟨.row, 47, 1, d8_3.length, .g 3 d8_3.length 1 []⟩, ⟨(.gs false), 47, 1, d8_3.length, .d (.sl 46 (.pr (.wo 92) (.pr .u8 (.by 5)))) d8_3⟩, ⟨(.dp false), 22, 1, r61_4.1.length, .d (.by 5) r61_4.1⟩, ⟨.row, 46, 3, d14_15.length, .g 6 d14_15.length 3 []⟩, ⟨(.gs false), 46, 3, d14_15.length, .d (.pr (.wo 92) (.pr .u8 (.by 5))) d14_15⟩, ⟨(.dp false), 22, 1, r86_20.1.length, .d (.by 5) r86_20.1⟩, nw 92 r109_20.1, ⟨(.ro false), 5, 1, r121_20.2.1, .b r121_20.1⟩]⟩] [0, 1, 2, 3, 4, 5, 6, 7] [⟨0, 8, 1, [9, 10, 11, 12, 13], [], [0, 6, 8, 9, 12, 14, 15, 18, 21, 22, 23, 24, 25, 112, 121, 122, 123], [0, 1, 2, 3, 4, 5, 6, 7, 8, 9]⟩] [(0, 0), (0, 1), (0, 2), (0, 3), (0, 4), (0, 5), (0, 6), (0, 7), (1, 9), (1, 10), (1, 11), (1, 12), (1, 13)] 1 [0, 6, 8, 9, 12, 14, 15, 18, 21, 22, 23, 113, 114, 115, 116, 117, 118, 119, 120] [0, 1, 2, 3, 4, 5, 6, 7, 8] [] [0, 6, 8, 9, 12, 14, 15, 18, 21, 22, 23, 24, 25] [0, 1, 2, 3, 4, 5, 6, 7, 8, 9] (s' := ⟨[(0, kH 0), (6, kH 1), (8, kH 2), (9, kI i9_3), (12, kH 4), (14, kH 5), (15, kI i15_15), (18, kH 7), (21, kB r104_20.2.2), (22, kH 8), (23, kB r109_20.2), (24, kH 9), (25, kB r121_20.2.2)], [], [ob 5 l0, ⟨(.dp false), 22, 1, r35.1.length, .d (.by 5) r35.1⟩, ⟨.row, 47, 1, d8_3.length, .g 3 d8_3.length 1 []⟩, ⟨(.gs false), 47, 1, d8_3.length, .d (.sl 46 (.pr (.wo 92) (.pr .u8 (.by 5)))) d8_3⟩, ⟨(.dp false), 22, 1, r61_4.1.length, .d (.by 5) r61_4.1⟩, ⟨.row, 46, 3, d14_15.length, .g 6 d14_15.length 3 []⟩, ⟨(.gs false), 46, 3, d14_15.length, .d (.pr (.wo 92) (.pr .u8 (.by 5))) d14_15⟩, ⟨(.dp false), 22, 1, r86_20.1.length, .d (.by 5) r86_20.1⟩, nw 92 r109_20.1, ⟨(.ro false), 5, 1, r121_20.2.1, .b r121_20.1⟩]⟩) (by kernel_rfl) ⟨_, (by kernel_rfl), (allP_cons.2 ⟨g19, (allP_cons.2 ⟨g20, (allP_cons.2 ⟨g21, (allP_cons.2 ⟨g22, (allP_cons.2 ⟨g23, (allP_cons.2 ⟨g24, allP_nil⟩)⟩)⟩)⟩)⟩)⟩)⟩ (AllE.cons ⟨_, (by kernel_rfl), (allP_cons.2 ⟨g25, allP_nil⟩)⟩ AllE.nil) (AllR.cons ⟨_, (by kernel_rfl), allP_nil⟩ (AllR.cons ⟨_, (by kernel_rfl), (allP_cons.2 ⟨g19, (allP_cons.2 ⟨g20, allP_nil⟩)⟩)⟩ (AllR.cons ⟨_, (by kernel_rfl), allP_nil⟩ (AllR.cons ⟨_, (by kernel_rfl), allP_nil⟩ (AllR.cons ⟨_, (by kernel_rfl), (allP_cons.2 ⟨g21, (allP_cons.2 ⟨g22, allP_nil⟩)⟩)⟩ (AllR.cons ⟨_, (by kernel_rfl), allP_nil⟩ (AllR.cons ⟨_, (by kernel_rfl), (allP_cons.2 ⟨g23, (allP_cons.2 ⟨g24, allP_nil⟩)⟩)⟩ (AllR.cons ⟨_, (by kernel_rfl), allP_nil⟩ (AllR.cons ⟨_, (by kernel_rfl), allP_nil⟩ (AllR.cons ⟨_, (by kernel_rfl), allP_nil⟩ (AllR.cons ⟨_, (by kernel_rfl), allP_nil⟩ (AllR.cons ⟨_, (by kernel_rfl), allP_nil⟩ (AllR.cons ⟨_, (by kernel_rfl), allP_nil⟩ AllR.nil))))))))))))) (by kernel_rfl) ?_
            refine W_seq ?_
            refine W_seq ?_
            rcases Bool.eq_false_or_eq_true (!r104_20.2.2) with g26 | g26
            ·replace h := bif_t h g26
             refine Vg hT fN [(2, true)] [] [0, 1, 2, 3, 4, 5, 6, 7, 8, 9] ⟨[(0, kH 0), (6, kH 1), (8, kH 2), (9, kI i9_3), (12, kH 4), (14, kH 5), (15, kI i15_15), (18, kH 7), (22, kH 8), (24, kH 9), (133, kB true)], [], [ob 5 l0, ⟨(.dp false), 22, 1, r35.1.length, .d (.by 5) r35.1⟩, ⟨.row, 47, 1, d8_3.length, .g 3 d8_3.length 1 []⟩, ⟨(.gs false), 47, 1, d8_3.length, .d (.sl 46 (.pr (.wo 92) (.pr .u8 (.by 5)))) d8_3⟩, ⟨(.dp false), 22, 1, r61_4.1.length, .d (.by 5) r61_4.1⟩, ⟨.row, 46, 3, d14_15.length, .g 6 d14_15.length 3 []⟩, ⟨(.gs false), 46, 3, d14_15.length, .d (.pr (.wo 92) (.pr .u8 (.by 5))) d14_15⟩, ⟨(.dp false), 22, 1, r86_20.1.length, .d (.by 5) r86_20.1⟩, nw 92 r109_20.1, ⟨(.ro false), 5, 1, r121_20.2.1, .b r121_20.1⟩]⟩ (aP g26 aN) ?_
             refine Vi (true) (fun _ => ?_) (fun hb => by cases hb)
             refine Vrs hT [] ⟨[(2, .c (.nils)), (3, kB false)], [], []⟩ ?_
             refine W_cod [.dn 2 47 (.sl 46 (.pr (.wo 92) (.pr .u8 (.by 5)))), .wk 0] [] [] [2, 3] [0] (s' := (rRead_R ([], false))) (by kernel_rfl) (W_ret ?_)
             exact ⟨.inl rfl, by cases h; rfl⟩
            ·replace h := bif_f h g26
             rcases Bool.eq_false_or_eq_true (!r109_20.2) with g27 | g27
             ·replace h := bif_t h g27
              refine Vg hT fN [(2, false), (6, true)] [] [0, 1, 2, 3, 4, 5, 6, 7, 8, 9] ⟨[(0, kH 0), (6, kH 1), (8, kH 2), (9, kI i9_3), (12, kH 4), (14, kH 5), (15, kI i15_15), (18, kH 7), (22, kH 8), (24, kH 9), (133, kB true)], [], [ob 5 l0, ⟨(.dp false), 22, 1, r35.1.length, .d (.by 5) r35.1⟩, ⟨.row, 47, 1, d8_3.length, .g 3 d8_3.length 1 []⟩, ⟨(.gs false), 47, 1, d8_3.length, .d (.sl 46 (.pr (.wo 92) (.pr .u8 (.by 5)))) d8_3⟩, ⟨(.dp false), 22, 1, r61_4.1.length, .d (.by 5) r61_4.1⟩, ⟨.row, 46, 3, d14_15.length, .g 6 d14_15.length 3 []⟩, ⟨(.gs false), 46, 3, d14_15.length, .d (.pr (.wo 92) (.pr .u8 (.by 5))) d14_15⟩, ⟨(.dp false), 22, 1, r86_20.1.length, .d (.by 5) r86_20.1⟩, nw 92 r109_20.1, ⟨(.ro false), 5, 1, r121_20.2.1, .b r121_20.1⟩]⟩ (aP g26 (aP g27 aN)) ?_
              refine Vi (true) (fun _ => ?_) (fun hb => by cases hb)
              refine Vrs hT [] ⟨[(2, .c (.nils)), (3, kB false)], [], []⟩ ?_
              refine W_cod [.dn 2 47 (.sl 46 (.pr (.wo 92) (.pr .u8 (.by 5)))), .wk 0] [] [] [2, 3] [0] (s' := (rRead_R ([], false))) (by kernel_rfl) (W_ret ?_)
              exact ⟨.inl rfl, by cases h; rfl⟩
             ·replace h := bif_f h g27
              refine Vg hT fN [(2, false), (6, false)] [] [0, 1, 2, 3, 4, 5, 6, 7, 8, 9] ⟨[(0, kH 0), (6, kH 1), (8, kH 2), (9, kI i9_3), (12, kH 4), (14, kH 5), (15, kI i15_15), (18, kH 7), (22, kH 8), (24, kH 9), (133, kB (!r121_20.2.2))], [], [ob 5 l0, ⟨(.dp false), 22, 1, r35.1.length, .d (.by 5) r35.1⟩, ⟨.row, 47, 1, d8_3.length, .g 3 d8_3.length 1 []⟩, ⟨(.gs false), 47, 1, d8_3.length, .d (.sl 46 (.pr (.wo 92) (.pr .u8 (.by 5)))) d8_3⟩, ⟨(.dp false), 22, 1, r61_4.1.length, .d (.by 5) r61_4.1⟩, ⟨.row, 46, 3, d14_15.length, .g 6 d14_15.length 3 []⟩, ⟨(.gs false), 46, 3, d14_15.length, .d (.pr (.wo 92) (.pr .u8 (.by 5))) d14_15⟩, ⟨(.dp false), 22, 1, r86_20.1.length, .d (.by 5) r86_20.1⟩, nw 92 r109_20.1, ⟨(.ro false), 5, 1, r121_20.2.1, .b r121_20.1⟩]⟩ (aP g26 (aP g27 aN)) ?_
              refine Vi ((!r121_20.2.2)) (fun g34 => ?_) (fun g34 => ?_)
              ·replace h := bif_t h g34
               refine Vrs hT [] ⟨[(2, .c (.nils)), (3, kB false)], [], []⟩ ?_
               refine W_cod [.dn 2 47 (.sl 46 (.pr (.wo 92) (.pr .u8 (.by 5)))), .wk 0] [] [] [2, 3] [0] (s' := (rRead_R ([], false))) (by kernel_rfl) (W_ret ?_)
               exact ⟨.inl rfl, by cases h; rfl⟩
              ·replace h := bif_f h g34
               refine W_skip ?_
               obtain ⟨g28, g29, g30, g31, g32, h⟩ := gd5 h
               refine Vg hT fN [] [] [0, 1, 2, 3, 4, 11, 6, 8, 9] ⟨[(0, kH 0), (6, kH 1), (8, kH 2), (9, kI i9_3), (12, kH 4), (14, kH 5), (15, kI i15_15)], [], [ob 5 l0, ⟨(.dp false), 22, 1, r35.1.length, .d (.by 5) r35.1⟩, ⟨.row, 47, 1, d8_3.length, .g 3 d8_3.length 1 []⟩, ⟨(.gs false), 47, 1, d8_3.length, .d (.sl 46 (.pr (.wo 92) (.pr .u8 (.by 5)))) d8_3⟩, ⟨(.dp false), 22, 1, r61_4.1.length, .d (.by 5) r61_4.1⟩, ⟨.row, 46, 3, (d14_15.length + 1), .g 6 d14_15.length 3 [.wh 7, .s (.u8 ((r86_20.1.getD 1 []).getD 0 0)), .wh 8]⟩, ⟨(.gs false), 46, 3, d14_15.length, .d (.pr (.wo 92) (.pr .u8 (.by 5))) d14_15⟩, nw 92 r109_20.1, ⟨(.ro false), 5, 1, r121_20.2.1, .b r121_20.1⟩]⟩ (aP g28 (aP g29 (aP g30 (aP g31 (aP g32 aN))))) ?_
               obtain ⟨g33, h⟩ := gd_some h
               refine W_weak ?_
               refine Vg hT fN [] [] [0, 1, 2, 3, 4, 5, 6, 7, 8] ⟨[(0, kH 0), (6, kH 1), (8, kH 2), (9, kI i9_3), (12, kH 4), (14, kH 5), (15, kI (i15_15 + 1))], [], [ob 5 l0, ⟨(.dp false), 22, 1, r35.1.length, .d (.by 5) r35.1⟩, ⟨.row, 47, 1, d8_3.length, .g 3 d8_3.length 1 []⟩, ⟨(.gs false), 47, 1, d8_3.length, .d (.sl 46 (.pr (.wo 92) (.pr .u8 (.by 5)))) d8_3⟩, ⟨(.dp false), 22, 1, r61_4.1.length, .d (.by 5) r61_4.1⟩, ⟨.row, 46, 3, (d14_15.length + 1), .g 6 d14_15.length 3 [.wh 7, .s (.u8 ((r86_20.1.getD 1 []).getD 0 0)), .wh 8]⟩, ⟨(.gs false), 46, 3, d14_15.length, .d (.pr (.wo 92) (.pr .u8 (.by 5))) d14_15⟩, nw 92 r109_20.1, ⟨(.ro false), 5, 1, r121_20.2.1, .b r121_20.1⟩]⟩ (aP g33 aN) ?_
               refine ⟨[.ab 5 [7, 8]], [d14_15.length], [], [0, 6, 8, 9, 12, 14, 15], [0, 1, 2, 3, 4, 5, 9], (rRead_l2_E l0 r35 d8_3 i9_3 r61_4 (d14_15 ++ [(r109_20.1, (((r86_20.1.getD 1 []).getD 0 0), r121_20.1))]) (i15_15 + 1)), (by kernel_rfl), ?_⟩
               exact ⟨_, _, rfl, h⟩
        ·replace h := bif_f h g38
         refine Vc [] [0, 1, 2, 3, 5, 6] ⟨[(0, kH 0), (6, kH 1), (8, kH 2), (9, kI i9_3), (14, kH 4)], [], [ob 5 l0, ⟨(.dp false), 22, 1, r35.1.length, .d (.by 5) r35.1⟩, ⟨.row, 47, 1, d8_3.length, .g 3 d8_3.length 1 []⟩, ⟨(.gs false), 47, 1, d8_3.length, .d (.sl 46 (.pr (.wo 92) (.pr .u8 (.by 5)))) d8_3⟩, ⟨.row, 46, 3, d14_15.length, .g 5 d14_15.length 3 []⟩, ⟨(.gs false), 46, 3, d14_15.length, .d (.pr (.wo 92) (.pr .u8 (.by 5))) d14_15⟩]⟩ (W_exit ?_)
         obtain ⟨g36, h⟩ := gd_some h
         refine Vg hT fN [] [] [0, 1, 7, 3, 4, 5] ⟨[(0, kH 0), (6, kH 1), (8, kH 2), (9, kI i9_3)], [], [ob 5 l0, ⟨(.dp false), 22, 1, r35.1.length, .d (.by 5) r35.1⟩, ⟨.row, 47, 1, (d8_3.length + 1), .g 3 d8_3.length 1 [.wh 4]⟩, ⟨(.gs false), 47, 1, d8_3.length, .d (.sl 46 (.pr (.wo 92) (.pr .u8 (.by 5)))) d8_3⟩, ⟨.row, 46, 3, d14_15.length, .g 5 d14_15.length 3 []⟩, ⟨(.gs false), 46, 3, d14_15.length, .d (.pr (.wo 92) (.pr .u8 (.by 5))) d14_15⟩]⟩ (aP g36 aN) ?_
         obtain ⟨g37, h⟩ := gd_some h
         refine W_weak ?_
         refine Vg hT fN [] [] [0, 1, 2, 3, 4, 5] ⟨[(0, kH 0), (6, kH 1), (8, kH 2), (9, kI (i9_3 + 1))], [], [ob 5 l0, ⟨(.dp false), 22, 1, r35.1.length, .d (.by 5) r35.1⟩, ⟨.row, 47, 1, (d8_3.length + 1), .g 3 d8_3.length 1 [.wh 4]⟩, ⟨(.gs false), 47, 1, d8_3.length, .d (.sl 46 (.pr (.wo 92) (.pr .u8 (.by 5)))) d8_3⟩, ⟨.row, 46, 3, d14_15.length, .g 5 d14_15.length 3 []⟩, ⟨(.gs false), 46, 3, d14_15.length, .d (.pr (.wo 92) (.pr .u8 (.by 5))) d14_15⟩]⟩ (aP g37 aN) ?_
         refine ⟨[.fzc 2 0, .ab 2 [6]], [d14_15.length, d8_3.length], [], [0, 6, 8, 9], [0, 1, 2, 7], (rRead_l1_E l0 r35 (d8_3 ++ [d14_15]) (i9_3 + 1)), (by kernel_rfl), ?_⟩
         exact ⟨_, _, rfl, h⟩
    ·replace h := bif_f h g43
     refine Vc [] [0, 2, 3] ⟨[(0, kH 0), (8, kH 1)], [], [ob 5 l0, ⟨.row, 47, 1, d8_3.length, .g 2 d8_3.length 1 []⟩, ⟨(.gs false), 47, 1, d8_3.length, .d (.sl 46 (.pr (.wo 92) (.pr .u8 (.by 5)))) d8_3⟩]⟩ (W_exit ?_)
     refine W_seq ?_
     refine W_cod [.fz 8] [d8_3.length] [] [0, 8] [0, 3] (s' := ⟨[(0, kH 0), (8, kH 1)], [], [ob 5 l0, ⟨(.dp false), 47, 1, d8_3.length, .d (.sl 46 (.pr (.wo 92) (.pr .u8 (.by 5)))) d8_3⟩]⟩) (by kernel_rfl) ?_
     obtain ⟨r151_1, g40, h⟩ := bind_some' h
     refine Vg hT (fT 1 (rWrite_ok n r151_1) fN) [] [] [0, 1, 2] ⟨[(0, kH 0), (8, kH 1), (26, kH 2), (27, kB r151_1.2)], [], [ob 5 l0, ⟨(.dp false), 47, 1, d8_3.length, .d (.sl 46 (.pr (.wo 92) (.pr .u8 (.by 5)))) d8_3⟩, nb 5 r151_1.1]⟩ (aP g40 aN) ?_
     refine W_seq ?_
     refine W_seq ?_
     rcases Bool.eq_false_or_eq_true (!r151_1.2) with g41 | g41
     ·replace h := bif_t h g41
      refine Vg hT fN [(2, true)] [] [1] ⟨[(8, kH 0), (162, kB true)], [], [⟨(.dp false), 47, 1, d8_3.length, .d (.sl 46 (.pr (.wo 92) (.pr .u8 (.by 5)))) d8_3⟩]⟩ (aP g41 aN) ?_
      refine Vi (true) (fun _ => ?_) (fun hb => by cases hb)
      refine Vrs hT [] ⟨[(2, .c (.nils)), (3, kB false)], [], []⟩ ?_
      refine W_cod [.dn 2 47 (.sl 46 (.pr (.wo 92) (.pr .u8 (.by 5)))), .wk 0] [] [] [2, 3] [0] (s' := (rRead_R ([], false))) (by kernel_rfl) (W_ret ?_)
      exact ⟨.inl rfl, by cases h; rfl⟩
     ·replace h := bif_f h g41
      refine Vg hT fN [(2, false)] [] [1] ⟨[(8, kH 0), (162, kB (r151_1.1 != l0))], [], [⟨(.dp false), 47, 1, d8_3.length, .d (.sl 46 (.pr (.wo 92) (.pr .u8 (.by 5)))) d8_3⟩]⟩ (aP g41 aN) ?_
      refine Vi ((r151_1.1 != l0)) (fun g42 => ?_) (fun g42 => ?_)
      ·replace h := bif_t h g42
       refine Vrs hT [] ⟨[(2, .c (.nils)), (3, kB false)], [], []⟩ ?_
       refine W_cod [.dn 2 47 (.sl 46 (.pr (.wo 92) (.pr .u8 (.by 5)))), .wk 0] [] [] [2, 3] [0] (s' := (rRead_R ([], false))) (by kernel_rfl) (W_ret ?_)
       exact ⟨.inl rfl, by cases h; rfl⟩
      ·replace h := bif_f h g42
       refine W_skip ?_
       refine Vrs hT [0] ⟨[(2, kH 0), (3, kB true)], [], [⟨(.dp false), 47, 1, d8_3.length, .d (.sl 46 (.pr (.wo 92) (.pr .u8 (.by 5)))) d8_3⟩]⟩ ?_
       refine Vc [] [0] (rRead_R (d8_3, true)) (W_ret ?_)
       exact ⟨.inl rfl, by cases h; rfl⟩
def lReads_R (r : Bool) : S := ⟨[(2, kB r)], [], []⟩
def lReads_ct (n : Nat) (r : Bool) : Ct := ctc (rB 5).rd fun _ l0 => ct0 fun H => ([lReads n l0 = some r], shA H.length (kB r), shH H.length [])
theorem lReads_ok (n : Nat) (r : Bool) : FnOk Try.prog Tr 7 (lReads_ct n r) := by
 refine fnok Try.func7 ?_
 refine HO_c (rB 5) fun l0 _ => HO_0 tabO_nrb (lReads_R r) [.tmp 2] [] 46 Try.func7 fun w hG h => ?_
 unfold lReads at h
 have hT := tabO_nrb
 refine Vrs hT [0] ⟨[(0, kH 0)], [], [ob 5 l0]⟩ ?_
 obtain ⟨r8, g1, h⟩ := bind_some' h
 refine Vgs hT (fT 0 (lup_ok n r8) fN) [] [] [0] ⟨[(0, kH 0), (3, kB r8)], [], [ob 5 l0]⟩ (aP g1 aN) ?_
 refine W_seq ?_
 refine Vrs hT [0] ⟨[(0, kH 0), (3, kB r8), (11, kB (decide ((4000 : Int) < ((l0.length : Nat) : Int))))], [], [ob 5 l0]⟩ ?_
 refine Vi ((decide ((4000 : Int) < ((l0.length : Nat) : Int)))) (fun g11 => ?_) (fun g11 => ?_)
 ·replace h := bif_t h g11
  refine Vrs hT [] ⟨[(2, kB r8)], [], []⟩ ?_
  refine Vc [] [] (lReads_R r8) (W_ret ?_)
  exact ⟨.inl rfl, by cases h; rfl⟩
 ·replace h := bif_f h g11
  refine W_skip ?_
  obtain ⟨r15, g2, h⟩ := bind_some' h
  refine Vgs hT (fT 1 (nRead_ok n r15) fN) [] [] [0, 1] ⟨[(0, kH 0), (3, kB r8), (4, kH 1), (5, kE 38 r15.2)], [], [ob 5 l0, ⟨(.dp true), 47, 1, r15.1.length, .d (.sl 46 (.pr (.wo 92) (.pr .u8 (.by 5)))) r15.1⟩]⟩ (aP g2 aN) ?_
  obtain ⟨r20, g3, h⟩ := bind_some' h
  refine Vgs hT (fT 1 (rRead_ok n r20) fN) [] [] [1, 2] ⟨[(3, kB r8), (4, kH 0), (5, kE 38 r15.2), (6, kH 1), (7, kB r20.2)], [], [⟨(.dp true), 47, 1, r15.1.length, .d (.sl 46 (.pr (.wo 92) (.pr .u8 (.by 5)))) r15.1⟩, ⟨(.dp false), 47, 1, r20.1.length, .d (.sl 46 (.pr (.wo 92) (.pr .u8 (.by 5)))) r20.1⟩]⟩ (aP g3 aN) ?_
  refine W_seq ?_
  refine Vrs hT [0, 1] ⟨[(3, kB r8), (4, kH 0), (5, kE 38 r15.2), (6, kH 1), (24, kB (!r20.2))], [], [⟨(.dp true), 47, 1, r15.1.length, .d (.sl 46 (.pr (.wo 92) (.pr .u8 (.by 5)))) r15.1⟩, ⟨(.dp false), 47, 1, r20.1.length, .d (.sl 46 (.pr (.wo 92) (.pr .u8 (.by 5)))) r20.1⟩]⟩ ?_
  refine Vi ((!r20.2)) (fun g10 => ?_) (fun g10 => ?_)
  ·replace h := bif_t h g10
   refine W_seq ?_
   rcases Bool.eq_false_or_eq_true r8 with g4 | g4
   ·replace h := bif_t h g4
    obtain ⟨g5, h⟩ := gd_some h
    rcases Bool.eq_false_or_eq_true (r15.2 == (some 2)) with g6 | g6
    ·replace h := bif_t h g6
     refine Vg hT fN [(1, true), (6, true)] [] [] ⟨[(2, kB (((r15.1.length : Nat) : Int) == 0))], [], []⟩ (aP g4 (aP g5 (aP g6 aN))) ?_
     refine Vc [] [] (lReads_R (((r15.1.length : Nat) : Int) == 0)) (W_ret ?_)
     exact ⟨.inl rfl, by cases h; rfl⟩
    ·replace h := bif_f h g6
     refine Vg hT fN [(1, true), (6, false)] [] [] ⟨[(2, kB false)], [], []⟩ (aP g4 (aP g5 (aP g6 aN))) ?_
     refine Vc [] [] (lReads_R false) (W_ret ?_)
     exact ⟨.inl rfl, by cases h; rfl⟩
   ·replace h := bif_f h g4
    refine Vg hT fN [(1, false)] [] [] ⟨[(2, kB false)], [], []⟩ (aP g4 aN) ?_
    refine Vc [] [] (lReads_R false) (W_ret ?_)
    exact ⟨.inl rfl, by cases h; rfl⟩
  ·replace h := bif_f h g10
   refine Vc [] [0, 1] ⟨[(3, kB r8), (4, kH 0), (5, kE 38 r15.2), (6, kH 1)], [], [⟨(.dp true), 47, 1, r15.1.length, .d (.sl 46 (.pr (.wo 92) (.pr .u8 (.by 5)))) r15.1⟩, ⟨(.dp false), 47, 1, r20.1.length, .d (.sl 46 (.pr (.wo 92) (.pr .u8 (.by 5)))) r20.1⟩]⟩ (W_skip ?_)
   refine W_seq ?_
   rcases Bool.eq_false_or_eq_true r8 with g7 | g7
   ·replace h := bif_t h g7
    rcases Bool.eq_false_or_eq_true ((r15.2).isNone) with g8 | g8
    ·replace h := bif_t h g8
     obtain ⟨r44, g9, h⟩ := bind_some' h
     refine Vg hT (fT 8 (rSame_ok n r44) fN) [(1, true), (5, true)] [] [] ⟨[(2, kB r44)], [], []⟩ (aP g7 (aP g8 (aP g9 aN))) ?_
     refine Vc [] [] (lReads_R r44) (W_ret ?_)
     exact ⟨.inl rfl, by cases h; rfl⟩
    ·replace h := bif_f h g8
     refine Vg hT fN [(1, true), (5, false)] [] [] ⟨[(2, kB false)], [], []⟩ (aP g7 (aP g8 aN)) ?_
     refine Vc [] [] (lReads_R false) (W_ret ?_)
     exact ⟨.inl rfl, by cases h; rfl⟩
   ·replace h := bif_f h g7
    refine Vg hT fN [(1, false)] [] [] ⟨[(2, kB false)], [], []⟩ (aP g7 aN) ?_
    refine Vc [] [] (lReads_R false) (W_ret ?_)
    exact ⟨.inl rfl, by cases h; rfl⟩
end Go.Proofs.Ytobfglafchoipaa
end
section
namespace Go.Sx
open Go Go.RowKit Go.Ch Go.Proofs.Ytobfglafchoipaa
theorem rReadOid_l1_is {n : Nat} (hn : 2000 ≤ n) {a : List UInt8} (ha : a.length ≤ 100) : ∀ (m i fu : Nat) (w : List UInt32) (y : UInt32), i + m = a.length → m < fu → w.length ≤ i →
  rReadOid_l1 n a fu w y (i : Int) = some (rFin a (rRd (a.drop i) w y.toNat)) := by
 intro m
 induction m with
 | zero =>
  intro i fu w y hi hf hw
  cases fu with
  | zero => omega
  | succ fu =>
   rw [rReadOid_l1, ite_f (decide_eq_false (by omega)), List.drop_eq_nil_of_le (show a.length ≤ i by omega), rRd]
   by_cases h0 : w = []
   ·subst h0; rfl
   ·have hpos : 0 < w.length := List.length_pos_iff.2 h0
    have hj : ∀ f : UInt32, f = (if 2 < w.getD 0 0 / 40 then 2 else w.getD 0 0 / 40) → rReadOid_j2 n a w f = some (rFin a w) := by
     intro f hf
     unfold rReadOid_j2
     have el : ([f, ((w.getD 0 0) - ((40 : UInt32) * f))] ++ ((w.drop 1).take (w.length - 1))) = lOf w := by
      rw [List.take_of_length_le (by simp), hf]; rfl
     rw [gd_pos (by omega), gd_pos (by omega), gd_pos (by omega), gd_pos (by omega), gd_pos (by unfold rmB; omega), el, rOid_is, Option.bind_some]
     unfold rFin
     cases h : oidOk (lOf w) with
     | false => rw [if_neg (by simp)]; rfl
     | true =>
      have hl := oidOk_len h
      rw [ite_f (by rfl), rOidBody_is hn hl.1 (by omega), Option.bind_some]
      by_cases hb : bodyOf (lOf w) = a
      ·rw [if_pos ⟨h0, rfl, hb⟩, hb, ite_f (by simp)]
      ·rw [if_neg (fun hh => hb hh.2.2), ite_t (by simpa using hb)]
    rw [ite_f (by simp; omega), gd_pos (by omega), gd_pos (by omega), gd_pos (by decide)]
    by_cases h2 : 2 < w.getD 0 0 / 40
    ·rw [ite_t (decide_eq_true h2)]; exact hj 2 (by rw [if_pos h2])
    ·rw [ite_f (decide_eq_false h2)]; exact hj _ (by rw [if_neg h2])
 | succ m ih =>
  intro i fu w y hi hf hw
  cases fu with
  | zero => omega
  | succ fu =>
   have hd := drop_at (l := a) (z := 0) (show i < a.length by omega)
   have e : ((y * (128 : UInt32)) + (((a.getD i 0) % (128 : UInt8)).toUInt32)).toNat = (y.toNat * 128 + (a.getD i 0).toNat % 128) % 4294967296 := by
    rw [UInt32.toNat_add, UInt32.toNat_mul, UInt8.toNat_toUInt32, UInt8.toNat_mod]
    show (y.toNat * 128 % 4294967296 + (a.getD i 0).toNat % 128) % 4294967296 = _
    omega
   rw [rReadOid_l1, ite_t (decide_eq_true (by omega)), gd_pos (by omega), gd_pos (by omega), gd_pos (by decide), gd_pos (by omega), gd_pos (by omega), hd, rRd, Int.toNat_natCast, ← e]
   by_cases hlo : a.getD i 0 < 128
   ·rw [if_pos hlo, ite_t (decide_eq_true hlo), gd_pos (by unfold rmB; omega)]
    unfold rReadOid_j1
    rw [gd_pos (okI64 (by omega) (by omega)), UInt32.ofNat_toNat]
    exact ih (i + 1) fu _ 0 (by omega) (by omega) (by simp; omega)
   ·rw [if_neg hlo, ite_f (decide_eq_false hlo)]
    unfold rReadOid_j1
    rw [gd_pos (okI64 (by omega) (by omega))]
    exact ih (i + 1) fu w _ (by omega) (by omega) (by omega)
theorem rReadOid_is {n : Nat} {a : List UInt8} (hn : 2000 ≤ n) : rReadOid n a = some (rAll a) := by
 unfold rReadOid rAll
 by_cases h : 100 < a.length
 ·rw [ite_t (decide_eq_true (by omega)), if_pos h]
 ·rw [ite_f (decide_eq_false (by omega)), if_neg h]
  have := rReadOid_l1_is hn (a := a) (by omega) a.length 0 n [] 0 (by omega) (by omega) (by simp)
  rw [List.drop_zero] at this
  exact this
attribute [local irreducible] pAll elO hR hdF pRd fiF rAll
def bdF (L : List UInt8) (m : UInt8) : List UInt8 × Nat × Bool := match bodO L m with
 | some b => (b, b.length, true)
 | none => ([], 0, false)
theorem rBody_is (n : Nat) {L : List UInt8} (hL : L.length ≤ 1000000) (m : UInt8) : rBody n L m = some (bdF L m) := by
 unfold rBody bdF bodO
 rw [rFirst_is n hL, Option.bind_some]
 cases he : elO L with
 | none =>
  have e : fiF L = (0, 0, false) := by unfold fiF; rw [he]
  rw [e]; rfl
 | some q =>
  obtain ⟨m', body, rest⟩ := q
  have e : fiF L = ((((hdF m' (body.length : Int)).length : Nat) : Int), ((body.length : Nat) : Int), true) := by unfold fiF; rw [he]
  obtain ⟨k1, _, _, _, _, _, k7⟩ := elO_some he
  have h2 := elO_less he
  have hlen : L.length = (hdF m' (body.length : Int)).length + body.length + rest.length := by rw [k1]; unfold elF; simp; omega
  have hd : L.drop (hdF m' (body.length : Int)).length = body ++ rest := by rw [k1]; unfold elF; rw [List.append_assoc, List.drop_left]
  rw [e]
  simp only [Bool.not_true, cond_false]
  rw [gd_pos (by decide), gd_pos (by omega), k7]
  by_cases hm : m' = m
  ·rw [ite_f (by rw [hm]; exact bne_self_eq_false _), gd_pos (okI64 (by omega) (by omega))]
   by_cases hr : rest = []
   ·have hr0 : rest.length = 0 := by rw [hr]; rfl
    rw [ite_f (by rw [bne_eq_false_iff_eq]; omega), gd_pos (by omega), gd_pos (by omega), if_pos ⟨hm, hr⟩]
    simp only [Int.toNat_natCast]
    rw [hd, hr, List.append_nil, show L.length - (hdF m' (body.length : Int)).length = body.length by omega, List.take_length]
   ·have hr0 := List.length_pos_iff.2 hr
    rw [ite_t (by rw [bne_iff_ne]; omega), if_neg (fun h => hr h.2)]
  ·rw [ite_t (by rw [bne_iff_ne]; exact hm), if_neg (fun h => hm h.1)]
def ptF (L : List UInt8) : List (List UInt8) × Bool := match prA L with
 | some l => (l, true)
 | none => ([], false)
theorem rParts_l1_is (n : Nat) {L : List UInt8} (hL : L.length ≤ 1000000) : ∀ (fu i : Nat) (acc : List (List UInt8)), L.length < i + fu → i ≤ L.length → acc.length ≤ i →
  rParts_l1 n L fu acc (i : Int) = some (match prA (L.drop i) with | some l => (acc ++ l, true) | none => ([], false))
 | 0, i, acc, h, h1, h2 => by omega
 | fu + 1, i, acc, h, h1, h2 => by
  rw [rParts_l1]
  simp only [Int.toNat_natCast]
  by_cases hi : i < L.length
  ·have hdl : (L.drop i).length = L.length - i := List.length_drop
   have hne : L.drop i ≠ [] := fun e => by rw [e] at hdl; simp at hdl; omega
   rw [ite_t (decide_eq_true (by omega)), gd_pos (by omega), gd_pos (by omega), ← hdl, List.take_length, rFirst_is n (by omega), Option.bind_some]
   cases he : elO (L.drop i) with
   | none =>
    have e : fiF (L.drop i) = (0, 0, false) := by unfold fiF; rw [he]
    rw [e, prA_none he hne]; rfl
   | some q =>
    obtain ⟨m, body, rest⟩ := q
    have e : fiF (L.drop i) = ((((hdF m (body.length : Int)).length : Nat) : Int), ((body.length : Nat) : Int), true) := by unfold fiF; rw [he]
    have k1 := (elO_some he).1
    have h3 := elO_less he
    have hel : (elF m body).length = (hdF m (body.length : Int)).length + body.length := by unfold elF; rw [List.length_append]
    have hlen : (L.drop i).length = (elF m body).length + rest.length := (congrArg List.length k1).trans List.length_append
    have hr : L.drop (i + (hdF m (body.length : Int)).length + body.length) = rest := by
     rw [Nat.add_assoc, ← hel, ← List.drop_drop, k1, List.drop_left]
    rw [e, prA_some he]
    simp only [Bool.not_true, cond_false]
    have e1 : ((i : Int) + (((hdF m (body.length : Int)).length : Nat) : Int)) = ((i + (hdF m (body.length : Int)).length : Nat) : Int) := by omega
    have e2 : (((i + (hdF m (body.length : Int)).length : Nat) : Int) + ((body.length : Nat) : Int)) = ((i + (hdF m (body.length : Int)).length + body.length : Nat) : Int) := by omega
    rw [e1, e2]
    rw [gd_pos (okI64 (by omega) (by omega)), gd_pos (okI64 (by omega) (by omega)), gd_pos (by omega), gd_pos (by omega), gd_pos (by omega), gd_pos (by unfold rmB; omega), gd_pos (okI64 (by omega) (by omega)), gd_pos (okI64 (by omega) (by omega))]
    have ht : (L.drop i).take (i + (hdF m (body.length : Int)).length + body.length - i) = elF m body := by
     rw [show i + (hdF m (body.length : Int)).length + body.length - i = (elF m body).length by omega, k1, List.take_left]
    simp only [Int.toNat_natCast]
    rw [ht, rParts_l1_is n hL fu _ (acc ++ [elF m body]) (by omega) (by omega) (by simp; omega), hr]
    cases prA rest with
    | none => rfl
    | some l => simp
  ·have : L.drop i = [] := List.drop_of_length_le (by omega)
   rw [ite_f (decide_eq_false (by omega)), this, prA_nil]
   simp
theorem rParts_is {n : Nat} {L : List UInt8} (hL : L.length ≤ 1000000) (hn : L.length < n) : rParts n L = some (ptF L) := by
 unfold rParts ptF
 rw [show (0 : Int) = ((0 : Nat) : Int) from rfl, rParts_l1_is n hL n 0 [] (by omega) (by omega) (by simp), List.drop_zero]
 cases prA L <;> simp
theorem prO_mem : ∀ (f : Nat) (L : List UInt8) (l : List (List UInt8)), prO f L = some l → ∀ x ∈ l, 2 ≤ x.length ∧ x.length ≤ L.length
 | 0, L, l, h => by
  rw [prO] at h
  split at h
  ·injection h with h; subst h; simp
  ·cases h
 | f + 1, L, l, h => by
  rw [prO] at h
  split at h
  ·injection h with h; subst h; simp
  ·split at h
   ·rename_i m body rest he
    obtain ⟨t, ht, rfl⟩ := Option.map_eq_some_iff.1 h
    have k1 := (elO_some he).1
    have k2 := elF_two m body
    have hlen : L.length = (elF m body).length + rest.length := (congrArg List.length k1).trans List.length_append
    intro x hx
    rcases List.mem_cons.1 hx with rfl | hx
    ·omega
    ·have := prO_mem f rest t ht x hx
     omega
   ·cases h
theorem prA_mem {L : List UInt8} {l : List (List UInt8)} (h : prA L = some l) : ∀ x ∈ l, 2 ≤ x.length ∧ x.length ≤ L.length := prO_mem _ L l h
theorem prO_cnt : ∀ (f : Nat) (L : List UInt8) (l : List (List UInt8)), prO f L = some l → l.length ≤ L.length
 | 0, L, l, h => by
  rw [prO] at h
  split at h
  ·injection h with h; subst h; simp
  ·cases h
 | f + 1, L, l, h => by
  rw [prO] at h
  split at h
  ·injection h with h; subst h; simp
  ·split at h
   ·rename_i m body rest he
    obtain ⟨t, ht, rfl⟩ := Option.map_eq_some_iff.1 h
    have := elO_less he
    have := prO_cnt f rest t ht
    rw [List.length_cons]; omega
   ·cases h
theorem prA_cnt {L : List UInt8} {l : List (List UInt8)} (h : prA L = some l) : l.length ≤ L.length := prO_cnt _ L l h
theorem bodO_len {L : List UInt8} {m : UInt8} {b : List UInt8} (h : bodO L m = some b) : b.length + 2 ≤ L.length := by
 unfold bodO at h
 split at h
 ·rename_i m' body rest he
  split at h
  ·injection h with h; subst h
   have k1 := (elO_some he).1
   have hel : (elF m' body).length = (hdF m' (body.length : Int)).length + body.length := by unfold elF; rw [List.length_append]
   have h2 : 2 ≤ (hdF m' (body.length : Int)).length := (chF_of (m := m') (t := []) (elO_some he).2.2.1).2.2
   have := congrArg List.length k1
   rw [List.length_append] at this; omega
  ·cases h
 ·cases h
def atR (a : List UInt8) : Option AttrT := match bodO a 48 with
 | some inn => (match prA inn with
  | some [x, y] => (match bodO x 6 with
   | some o => if (rAll o).2 = true then (match bodO y (y.getD 0 0) with | some t => some ((rAll o).1, y.getD 0 0, t) | none => none) else none
   | none => none)
  | _ => none)
 | none => none
def atsR : List (List UInt8) → Option (List AttrT)
 | [] => some []
 | a :: t => match atR a with | some x => (atsR t).map (x :: ·) | none => none
def stR (s : List UInt8) : Option (List AttrT) := match bodO s 49 with
 | some own => (match prA own with | some l => atsR l | none => none)
 | none => none
def stsR : List (List UInt8) → Option nmT
 | [] => some []
 | s :: t => match stR s with | some x => (stsR t).map (x :: ·) | none => none
def nmR (b : List UInt8) : Option nmT := match bodO b 48 with
 | some body => (match prA body with | some l => stsR l | none => none)
 | none => none
def rrK (r : Option (List AttrT)) (d8 : nmT) (i9 : Int) (K : nmT → Int → Option (nmT × Bool)) : Option (nmT × Bool) := match r with
 | some l => K (d8 ++ [l]) (i9 + 1)
 | none => some ([], false)
theorem bdF_snd (L : List UInt8) (m : UInt8) : (bdF L m).2.2 = (bodO L m).isSome := by unfold bdF; cases bodO L m <;> rfl
theorem ptF_snd (L : List UInt8) : (ptF L).2 = (prA L).isSome := by unfold ptF; cases prA L <;> rfl
theorem rr_l2 {n : Nat} (hn : 8000 ≤ n) (b : List UInt8) (r35 : List (List UInt8) × Bool) (d8 : nmT) (hd8 : d8.length ≤ 100000) (i9 : Nat) (hi9 : i9 ≤ 100000) (l : List (List UInt8)) (hl : l.length ≤ 7000) (hlm : ∀ x ∈ l, x.length ≤ 7000) (K : nmT → Int → Option (nmT × Bool)) :
  ∀ (fu i : Nat) (acc : List AttrT), l.length < i + fu → i ≤ l.length → acc.length ≤ i →
   rRead_l2 n b r35 d8 (i9 : Int) (l, true) K fu acc (i : Int) = rrK ((atsR (l.drop i)).map (acc ++ ·)) d8 (i9 : Int) K
 | 0, i, acc, h, h1, h2 => by omega
 | fu + 1, i, acc, h, h1, h2 => by
  rw [rRead_l2]
  simp only [Int.toNat_natCast]
  by_cases hi : i < l.length
  ·have hm := hlm _ (getD_in (z := []) hi)
   rw [ite_t (decide_eq_true (by omega)), gd_pos (by omega), gd_pos (by omega), drop_at (z := []) hi, atsR]
   generalize l.getD i [] = a at hm
   rw [rBody_is n (by omega), Option.bind_some]
   have hbl : (bdF a 48).1.length ≤ 7000 := by
    unfold bdF
    cases hb : bodO a 48 with
    | none => simp
    | some z => have := bodO_len hb; simp only; omega
   rw [rParts_is (by omega) (by omega), Option.bind_some, bdF_snd, ptF_snd]
   unfold atR
   cases hb : bodO a 48 with
   | none => simp [rrK]
   | some inn =>
    have e0 : (bdF a 48).1 = inn := by unfold bdF; rw [hb]
    have hil := bodO_len hb
    rw [e0, ite_f (by rfl)]
    simp only []
    cases hp : prA inn with
    | none => simp [rrK]
    | some q =>
     have e1 : (ptF inn).1 = q := by unfold ptF; rw [hp]
     have hqm := prA_mem hp
     rw [ite_f (by rfl), e1]
     by_cases h2q : q.length = 2
     ·obtain ⟨x, y, rfl⟩ : ∃ x y, q = [x, y] := by
       match q, h2q with
       | [x, y], _ => exact ⟨x, y, rfl⟩
      have hx := hqm x (by simp)
      have hy := hqm y (by simp)
      rw [ite_f (by rfl), gd_pos (by decide), gd_pos (by simp)]
      rw [show ([x, y] : List (List UInt8)).getD 0 [] = x from rfl, show ([x, y] : List (List UInt8)).getD 1 [] = y from rfl]
      rw [rBody_is n (by omega), Option.bind_some, rReadOid_is (by omega), Option.bind_some]
      rw [gd_pos (by decide), gd_pos (by simp), gd_pos (by decide), gd_pos (by simp), gd_pos (by decide), gd_pos (by omega), rBody_is n (by omega), Option.bind_some, bdF_snd, bdF_snd]
      simp only []
      cases ho : bodO x 6 with
      | none => simp [rrK]
      | some o =>
       have e2 : (bdF x 6).1 = o := by unfold bdF; rw [ho]
       rw [e2, ite_f (by rfl)]
       simp only []
       cases hor : (rAll o).2 with
       | false => simp [rrK]
       | true =>
        rw [ite_f (by rfl), if_pos rfl]
        cases ht : bodO y (y.getD 0 0) with
        | none => simp [rrK]
        | some t =>
         have e3 : (bdF y (y.getD 0 0)).1 = t := by unfold bdF; rw [ht]
         rw [ite_f (by rfl), e3, gd_pos (by decide), gd_pos (by simp), gd_pos (by decide), gd_pos (by omega), gd_pos (by unfold rmB; omega), gd_pos (okI64 (by omega) (by omega))]
         simp only []
         have := rr_l2 hn b r35 d8 hd8 i9 hi9 l hl hlm K fu (i + 1) (acc ++ [((rAll o).1, y.getD 0 0, t)]) (by omega) hi (by simp; omega)
         rw [show ((i : Int) + 1) = ((i + 1 : Nat) : Int) by omega, this]
         cases atsR (l.drop (i + 1)) <;> simp [rrK]
     ·rw [ite_t (by rw [bne_iff_ne]; omega)]
      rcases q with _ | ⟨x, _ | ⟨y, _ | ⟨z, t⟩⟩⟩
      ·rfl
      ·rfl
      ·exact absurd rfl h2q
      ·rfl
  ·have : l.drop i = [] := List.drop_of_length_le (by omega)
   rw [ite_f (decide_eq_false (by omega)), gd_pos (by unfold rmB; omega), gd_pos (okI64 (by omega) (by omega)), this]
   simp [atsR, rrK]
def rrE (b : List UInt8) (r : Option nmT) : Option (nmT × Bool) := match r with
 | some s => some (if nmA s = some b then (s, true) else ([], false))
 | none => some ([], false)
theorem rr_l1 {n : Nat} (hn : 8000 ≤ n) (b : List UInt8) (l : List (List UInt8)) (hl : l.length ≤ 7000) (hlm : ∀ x ∈ l, x.length ≤ 7000) :
  ∀ (fu i : Nat) (acc : nmT), l.length < i + fu → i ≤ l.length → acc.length ≤ i →
   rRead_l1 n b (l, true) fu acc (i : Int) = rrE b ((stsR (l.drop i)).map (acc ++ ·))
 | 0, i, acc, h, h1, h2 => by omega
 | fu + 1, i, acc, h, h1, h2 => by
  rw [rRead_l1]
  simp only [Int.toNat_natCast]
  by_cases hi : i < l.length
  ·have hm := hlm _ (getD_in (z := []) hi)
   rw [ite_t (decide_eq_true (by omega)), gd_pos (by omega), gd_pos (by omega), drop_at (z := []) hi, stsR]
   generalize l.getD i [] = a at hm
   rw [rBody_is n (by omega), Option.bind_some]
   have hbl : (bdF a 49).1.length ≤ 7000 := by
    unfold bdF
    cases hb : bodO a 49 with
    | none => simp
    | some z => have := bodO_len hb; simp only; omega
   rw [rParts_is (by omega) (by omega), Option.bind_some, bdF_snd, ptF_snd]
   unfold stR
   cases hb : bodO a 49 with
   | none => simp [rrE]
   | some own =>
    have e0 : (bdF a 49).1 = own := by unfold bdF; rw [hb]
    have hol := bodO_len hb
    rw [e0, ite_f (by rfl)]
    simp only []
    cases hp : prA own with
    | none => simp [rrE]
    | some q =>
     have e1 : ptF own = (q, true) := by unfold ptF; rw [hp]
     have hqm := prA_mem hp
     have hqc := prA_cnt hp
     rw [ite_f (by rfl), e1]
     rw [show (0 : Int) = ((0 : Nat) : Int) from rfl, rr_l2 hn b (l, true) acc (by omega) i (by omega) q (by omega) (fun x hx => by have := hqm x hx; omega) (rRead_l1 n b (l, true) fu) n 0 [] (by omega) (by omega) (by simp), List.drop_zero]
     simp only []
     cases ha : atsR q with
     | none => simp [rrK, rrE]
     | some s =>
      have := rr_l1 hn b l hl hlm fu (i + 1) (acc ++ [s]) (by omega) hi (by simp; omega)
      simp only [Option.map_some, List.nil_append, rrK]
      rw [show ((i : Int) + 1) = ((i + 1 : Nat) : Int) by omega, this]
      cases stsR (l.drop (i + 1)) <;> simp
  ·have : l.drop i = [] := List.drop_of_length_le (by omega)
   rw [ite_f (decide_eq_false (by omega)), this, rWrite_is (by omega) (by omega), Option.bind_some]
   simp only [stsR, Option.map_some, List.append_nil, rrE]
   cases hy : nmA acc with
   | none => simp
   | some y =>
    simp only [Bool.not_true, cond_false]
    by_cases hyb : y = b
    ·rw [ite_f (by rw [hyb]; exact bne_self_eq_false _), if_pos (by rw [hyb])]
    ·rw [ite_t (by rw [bne_iff_ne]; exact hyb), if_neg (fun h => hyb (Option.some.inj h))]
theorem rRead_is {n : Nat} (hn : 8000 ≤ n) {b : List UInt8} (hb : b.length ≤ 7000) : rRead n b = rrE b (nmR b) := by
 unfold rRead nmR
 rw [rBody_is n (by omega), Option.bind_some]
 have hbl : (bdF b 48).1.length ≤ 7000 := by
  unfold bdF
  cases hb : bodO b 48 with
  | none => simp
  | some z => have := bodO_len hb; simp only; omega
 rw [rParts_is (by omega) (by omega), Option.bind_some, bdF_snd, ptF_snd]
 cases hb1 : bodO b 48 with
 | none => simp [rrE]
 | some body =>
  have e0 : (bdF b 48).1 = body := by unfold bdF; rw [hb1]
  have hol := bodO_len hb1
  rw [e0, ite_f (by rfl)]
  simp only []
  cases hp : prA body with
  | none => simp [rrE]
  | some q =>
   have e1 : ptF body = (q, true) := by unfold ptF; rw [hp]
   have hqm := prA_mem hp
   have hqc := prA_cnt hp
   rw [ite_f (by rfl), e1, show (0 : Int) = ((0 : Nat) : Int) from rfl, rr_l1 hn b q (by omega) (fun x hx => by have := hqm x hx; omega) n 0 [] (by omega) (by omega) (by simp), List.drop_zero]
   show rrE b (Option.map (fun x => [] ++ x) (stsR q)) = rrE b (stsR q)
   cases stsR q <;> simp
theorem bodO_el {m : UInt8} {body : List UInt8} (hm : mkV m = true) (hb : body.length ≤ 65535) : bodO (elF m body) m = some body := by
 unfold bodO
 have := elO_el (m := m) (body := body) (rest := []) hm hb
 rw [List.append_nil] at this
 rw [this]; simp
theorem prA_el {m : UInt8} {body rest : List UInt8} (hm : mkV m = true) (hb : body.length ≤ 65535) : prA (elF m body ++ rest) = (prA rest).map (elF m body :: ·) := prA_some (elO_el hm hb)
theorem elF_hd (m : UInt8) (b : List UInt8) : (elF m b).getD 0 0 = m := by
 unfold elF hdF
 cases decide ((b.length : Int) < 128) with
 | true => rfl
 | false => cases decide ((b.length : Int) < 256) <;> rfl
theorem rAll_body {l : List UInt32} (h : oidOk l = true) : rAll (bodyOf l) = (l, true) := by
 have hp := pAll_body h
 rcases all_eq (bodyOf l) with ⟨l', h1, h2, h3, h4⟩ | ⟨h3, _⟩
 ·rw [hp] at h3; injection h3 with h3; rw [h4, ← h3]
 ·rw [hp] at h3; injection h3 with h3 h5; cases h5
theorem atR_atF {x : AttrT} (h : atOk x = true) : atR (atF x) = some x := by
 obtain ⟨h1, h2, h3, h4, h5⟩ := atOk_parts h
 have e1 := elF_len 6 (bodyOf x.1)
 have e2 := elF_len x.2.1 x.2.2
 have e3 := bodyOf_len h4
 have hm : mkV x.2.1 = true := by rcases mkOk_or h1 with e | e <;> rw [e] <;> rfl
 have e4 : prA (elF 6 (bodyOf x.1) ++ elF x.2.1 x.2.2) = some [elF 6 (bodyOf x.1), elF x.2.1 x.2.2] := by
  rw [prA_el rfl (by omega)]
  have := prA_el (m := x.2.1) (body := x.2.2) (rest := []) hm (by omega)
  rw [List.append_nil, prA_nil] at this
  rw [this]; rfl
 unfold atR atF
 rw [bodO_el rfl (by rw [List.length_append]; omega)]
 simp only []
 rw [e4]
 simp only []
 rw [bodO_el rfl (by omega)]
 simp only []
 rw [rAll_body h4, if_pos rfl, elF_hd, bodO_el hm (by omega)]
theorem elF_ge (m : UInt8) (b : List UInt8) : b.length ≤ (elF m b).length := by unfold elF; rw [List.length_append]; omega
theorem atsR_stp : ∀ (l : List AttrT) (f : Bool) (last y : List UInt8), stpF l f last = some y → ∃ q, prA y = some q ∧ atsR q = some l
 | [], f, last, y, h => by injection h with h; subst h; exact ⟨[], prA_nil, rfl⟩
 | x :: t, f, last, y, h => by
  rw [stpF] at h
  split at h
  ·rename_i hc
   obtain ⟨z, hz, rfl⟩ := Option.map_eq_some_iff.1 h
   have ho : atOk x = true := by simp at hc; exact hc.1
   obtain ⟨q, hq, ha⟩ := atsR_stp t false (atF x) z hz
   have hl := atF_len ho
   have hbl : (elF 6 (bodyOf x.1) ++ elF x.2.1 x.2.2).length ≤ 65535 := by
    have : (elF 6 (bodyOf x.1) ++ elF x.2.1 x.2.2).length ≤ (atF x).length := elF_ge 48 _
    omega
   refine ⟨atF x :: q, ?_, ?_⟩
   ·show prA (atF x ++ z) = _
    have := prA_el (m := 48) (body := elF 6 (bodyOf x.1) ++ elF x.2.1 x.2.2) (rest := z) rfl hbl
    rw [hq] at this
    exact this
   ·rw [atsR, atR_atF ho]
    simp only []
    rw [ha]; rfl
  ·cases h
theorem stsR_nm : ∀ (a : nmT) (y : List UInt8), nm a = some y → ∃ q, prA y = some q ∧ stsR q = some a
 | [], y, h => by injection h with h; subst h; exact ⟨[], prA_nil, rfl⟩
 | s :: t, y, h => by
  rw [nm] at h
  split at h
  ·rename_i hc
   split at h
   ·cases h
   ·rename_i z hz
    obtain ⟨p, hp, rfl⟩ := Option.map_eq_some_iff.1 h
    have h2 := stpF_len s true [] z hz
    obtain ⟨q, hq, ha⟩ := stsR_nm t p hp
    obtain ⟨q2, hq2, ha2⟩ := atsR_stp s true [] z hz
    refine ⟨elF 49 z :: q, by rw [prA_el rfl (by omega), hq]; rfl, ?_⟩
    rw [stsR]
    unfold stR
    rw [bodO_el rfl (by omega)]
    simp only []
    rw [hq2]
    simp only []
    rw [ha2]
    simp only []
    rw [ha]; rfl
  ·cases h
theorem nmR_nmA {a : nmT} {y : List UInt8} (h : nmA a = some y) : nmR y = some a := by
 unfold nmA at h
 split at h
 ·rename_i h8
  obtain ⟨z, hz, rfl⟩ := Option.map_eq_some_iff.1 h
  have h1 := nm_len a z hz
  obtain ⟨q, hq, ha⟩ := stsR_nm a z hz
  unfold nmR
  rw [bodO_el rfl (by omega)]
  simp only []
  rw [hq]
  exact ha
 ·cases h
theorem rrE_rdF (b : List UInt8) : rrE b (nmR b) = some ((rdF b).1, (rdF b).2.isNone) ∧ ((rdF b).2 = none ∨ rdF b = ([], some 2)) := by
 cases hr : (rdF b).2 with
 | none =>
  have h1 := rdF_back hr
  rw [nmR_nmA h1]
  exact ⟨by unfold rrE; simp only []; rw [if_pos h1]; rfl, .inl rfl⟩
 | some c =>
  have e : rdF b = ([], some 2) := by
   unfold rdF at hr ⊢
   split
   ·split
    ·rename_i h1 _ _ h2
     rw [h1] at hr; simp only [] at hr; rw [h2] at hr; cases hr
    ·rfl
   ·rfl
  refine ⟨?_, .inr e⟩
  rw [e]
  cases hn : nmR b with
  | none => rfl
  | some s =>
   unfold rrE
   simp only []
   rw [if_neg]
   ·rfl
   ·intro hs
    have := (rdF_self hs).1
    rw [this] at hr; cases hr
theorem lReads_is (b : List UInt8) : lReads 8000 b = some true := by
 unfold lReads
 rw [lup8, Option.bind_some]
 by_cases h4 : 4000 < b.length
 ·rw [ite_t (decide_eq_true (by omega))]
 ·rw [ite_f (decide_eq_false (by omega)), nRead_is (by decide) (by omega), Option.bind_some, rRead_is (by decide) (by omega)]
  obtain ⟨h1, h2⟩ := rrE_rdF b
  rw [h1, Option.bind_some]
  rcases h2 with h2 | h2
  ·rw [h2, ite_f (by rfl), ite_t (by rfl), ite_t (by rfl), rSame_self (by decide) (rdF_sm b), Option.bind_some]
  ·rw [h2, ite_t (by rfl), ite_t (by rfl), gd_pos (by simp), ite_t (by rfl)]
   rfl
end Go.Sx
end
section
namespace Go.Sx
open Go Go.RowKit Go.Ch Go.Proofs.Ytobfglafchoipaa
end Go.Sx
namespace Go.Proofs.Ytobfglafchoipaa
open Go.RowKit Go.Ch Go.Sx
theorem nameReads_c (w : World) (B0 : Nat) (v0 : Value) (l0 : List UInt8) (hv0 : Sl w B0 v0 (l0.map bU)) :
  Calls Try.prog 7 #[v0] w (Ret fun v' w' => Ext w w' ∧ v' = .bool true) := by
 obtain ⟨p0, a0, b0⟩ := in_b hv0 5
 exact law_of (lReads_ok 8000 true) (args := [.c (.wh 0)]) (H := [⟨.ro false, 5, 1, l0.length, .b l0⟩]) (ρ := plL [p0]) (vals := [v0]) rfl (allP_cons.2 ⟨(lReads_is l0), allP_nil⟩) trivial (hpL (ps := [p0]) (F2.cons b0 F2.nil)) (F2.cons a0 F2.nil)
end Go.Proofs.Ytobfglafchoipaa
end
