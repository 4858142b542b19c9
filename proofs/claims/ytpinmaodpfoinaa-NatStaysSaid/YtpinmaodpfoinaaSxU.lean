import Derived.Test.YtpinmaodpfoinaaSxT
set_option linter.unusedVariables false
set_option linter.unusedSimpArgs false
namespace Go.Sx
open Go.RowKit Go.Ch
section
variable {P : Program} {ρ : Pls} {w w' : World} {H : Hp}

/-! ### contracts that were shown by hand -/
theorem left_row {v : Value} {e : TypeId} {vs : List Value} {cs : Cs} {n : Nat} (h : Own w' w.heap.size e v vs) (hc : ∀ ρ, csR ρ cs vs) (hn : vs.length = n) :
    ∃ ps, Left ρ w H (.c (.wh H.length)) [⟨.row, e, 1, n, cs⟩] v w' ps := by
  obtain ⟨n', h1⟩ : ∃ n', w'.ownsRow w.heap.size e 1 v n' vs := ⟨_, h⟩
  have hl := h1.1
  rw [Nat.mul_one] at hl
  have hn' : n' = n := by omega
  subst hn'
  have hv : ∃ p : Pl, v = .slice p.A p.n p.cap ∧ p.sz = 1 ∧ p.n = n' ∧ ∀ g, (∃ ad, p.A = some ad ∧ ad.block = g) → w.heap.size ≤ g := by
    rcases h1.2 with ⟨hv, hn0⟩ | ⟨g, cap, cur, hv, hg, _⟩
    · exact ⟨⟨none, 0, 0, 1⟩, hv, rfl, hn0.symm, fun g ⟨ad, had, _⟩ => by cases had⟩
    · exact ⟨⟨some ⟨g, 0, none⟩, n', cap, 1⟩, hv, rfl, rfl, fun g' ⟨ad, had, he⟩ => by injection had with had; subst had; subst he; exact hg⟩
  obtain ⟨p, rfl, e1, e2, hp⟩ := hv
  have hu : updL ρ H.length [p] (H.length + 0) = p := updL_at rfl
  rw [Nat.add_zero] at hu
  refine ⟨[p], rfl, fun k o q ho hq => ?_, ?_, fun k o q g ho hq hat => ?_, fun k l o o' q q' g hkl ho ho' => ?_⟩
  · cases k with
    | zero =>
      simp at ho hq; subst ho; subst hq
      refine ⟨⟨e1, e2, by rw [← (hc (updL ρ H.length [p])).len, hl]; simp⟩, vs, hc _, ?_⟩
      rw [e2]
      refine ⟨h1.1, ?_⟩
      rcases h1.2 with h2 | ⟨g, cap, cur, hv, _, h2⟩
      · rw [e2] at h2; exact .inl h2
      · rw [e2] at hv; exact .inr ⟨g, cap, cur, hv, Nat.zero_le _, h2⟩
    | succ k => simp at ho
  · show clR _ (.wh _) _
    simp only [clR, hu]
  · cases k with
    | zero => simp at ho hq; subst ho; subst hq; exact .inl (hp g hat)
    | succ k => simp at ho
  · cases k with
    | zero => cases l with
      | zero => exact absurd rfl hkl
      | succ l => simp at ho'
    | succ k => simp at ho
theorem left_val {v : Value} {av : AV} (h : ∀ ρ, avR ρ av v) : ∃ ps, Left ρ w H av [] v w' ps :=
  ⟨[], rfl, fun k o q ho => by simp at ho, h _, fun k o q g ho => by simp at ho, fun k l o o' q q' g hkl ho => by simp at ho⟩
theorem calls_mono {f : FuncId} {args : Array Value} {R R' : Value → World → Prop} (h : Calls P f args w (Ret R)) (hR : ∀ v w', R v w' → R' v w') : Calls P f args w (Ret R') :=
  h.mono fun _ _ ⟨v, he, hr⟩ => ⟨v, he, hR v _ hr⟩
theorem InSl.sl {e : TypeId} {n : Nat} {cs : Cs} {v : Value} {p : Pl} (h : InSl w e n cs v p) {vs : List Value} (hc : ∀ ρ us, csR ρ cs us → us = vs) (hn : vs.length = n) : Sl w w.heap.size v vs := by
  obtain ⟨rfl, hr⟩ := h
  obtain ⟨⟨e1, e2, e3⟩, ⟨h1, h2, h3⟩, us, hcs, hA⟩ := hr (fun _ => p)
  obtain rfl := hc _ us hcs
  have e4 : p.n = us.length := by rw [hn]; exact e2
  refine ⟨Nat.le_refl _, p.A, p.cap, by rw [e4], by rw [← e4]; exact h1, h2, h3, fun ad had j u hu => ⟨?_, hA ad had j u hu⟩⟩
  have := World.block_lt_of_cell? _ _ (hA ad had j u hu)
  rwa [block_add] at this
end
end Go.Sx
