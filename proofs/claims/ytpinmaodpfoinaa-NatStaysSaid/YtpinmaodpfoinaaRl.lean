import Derived.Test.YtpinmaodpfoinaaRg
set_option linter.unusedVariables false
set_option linter.unusedSimpArgs false
namespace Go.Ch
open Go.RowKit
section
variable {P : Program} {ops : Array Oper} {X : World → World → Prop} {w0 : World}

/-! ### a chain of the first k operations may come up late: behind the first of the others -/
def okRegionL (ops : Array Oper) (k n : Nat) (late : List Nat) : Bool :=
  (List.range ops.size).all fun i => match ops[i]? with
    | none => false
    | some o =>
      okEdges o (fun j => decide (j < i)) &&
      (if i < k then
        (match o.dst with | some d => decide (d < n) | none => true) &&
        ((List.range k).all fun j => match ops[j]? with
          | none => false
          | some oj =>
            (match o.dst, oj.dst with | some d, some d' => i == j || d != d' | _, _ => true) &&
            ((o.looksAt ops).all fun t => oj.dst != some t || (decide (j < i) && hasEdge o j) || (decide (i < j) && hasEdge oj i)))
       else (List.range i).all fun j => hasEdge o j || (decide (j < k) && ((i == k && late.contains j) || inC ops i ops.size j)))
def chainB (ops : Array Oper) : List Nat → Bool
  | d :: d' :: l => hasE ops d' d && chainB ops (d' :: l)
  | _ => true
theorem OkR.ofL {k n : Nat} {late : List Nat} (h : okRegionL ops k n late = true) (hk : k ≤ ops.size) : OkR ops k n := by
  unfold okRegionL at h
  rw [List.all_eq_true] at h
  have H : ∀ i o, ops[i]? = some o → _ := fun i o ho => by
    have hi := (Array.getElem?_eq_some_iff.1 ho).1
    have := h i (List.mem_range.2 hi)
    rw [ho] at this
    simp only [Bool.and_eq_true] at this
    exact this
  have G : ∀ i o, i < k → ops[i]? = some o → _ := fun i o hi ho => by
    have := (H i o ho).2
    rw [if_pos hi] at this
    simp only [Bool.and_eq_true, List.all_eq_true, List.mem_range] at this
    exact this
  refine ⟨fun i o ho => (H i o ho).1, fun i o d hi ho hd => ?_, fun i j o oj d hi hj hne ho hoj hd hd' => ?_, fun i j o oj t hi hj ho hoj ht hd => ?_, fun i o hi ho j hkj hj => ?_⟩
  · have := (G i o hi ho).1
    rw [hd] at this
    simpa using this
  · have := (G i o hi ho).2 j hj
    rw [hoj] at this
    simp only [hd, hd', Bool.and_eq_true, Bool.or_eq_true, beq_iff_eq, bne_self_eq_false, Bool.false_eq_true, or_false] at this
    exact hne this.1
  · have := (G i o hi ho).2 j hj
    rw [hoj] at this
    simp only [Bool.and_eq_true, List.all_eq_true] at this
    have h2 := this.2 t ht
    rw [hd] at h2
    simpa [Bool.or_eq_true] using h2
  · have := (H i o ho).2
    rw [if_neg (by omega)] at this
    rw [List.all_eq_true] at this
    have h3 := this j (List.mem_range.2 hj)
    simp only [Bool.or_eq_true, Bool.and_eq_true, decide_eq_true_eq] at h3
    rcases h3 with h3 | h3
    · exact h3
    · omega
theorem okR_tailL {k n : Nat} {late : List Nat} (h : okRegionL ops k n late = true) : ∀ i o, k ≤ i → ops[i]? = some o → ∀ j < i, hasEdge o j = true ∨ (i = k ∧ j ∈ late) ∨ inC ops i ops.size j = true := by
  unfold okRegionL at h
  rw [List.all_eq_true] at h
  intro i o hi ho j hj
  have h1 := h i (List.mem_range.2 (Array.getElem?_eq_some_iff.1 ho).1)
  rw [ho] at h1
  simp only [Bool.and_eq_true] at h1
  have h2 := h1.2
  rw [if_neg (by omega), List.all_eq_true] at h2
  have h3 := h2 j (List.mem_range.2 hj)
  simp only [Bool.or_eq_true, Bool.and_eq_true, beq_iff_eq, List.contains_iff_mem] at h3
  rcases h3 with h3 | ⟨_, h4 | h4⟩
  · exact .inl h3
  · exact .inr (.inl h4)
  · exact .inr (.inr h4)
/-- what is still to come of a chain is its end -/
theorem chain_end {listed : Array Bool} (hcl : ∀ j o, ops[j]? = some o → listed.getD j true = true → okEdges o (fun e => listed.getD e false) = true) (hs : listed.size = ops.size) :
    ∀ (late : List Nat), chainB ops late = true → (∀ d ∈ late, d < ops.size) → ∃ s, s ≤ late.length ∧ (∀ d ∈ late.take s, listed.getD d true = true) ∧ (∀ d ∈ late.drop s, listed.getD d true = false)
  | [], _, _ => ⟨0, Nat.le_refl _, by simp, by simp⟩
  | d :: l, h, hd => by
    have hl : chainB ops l = true := by
      cases l with
      | nil => rfl
      | cons d' l => simp only [chainB, Bool.and_eq_true] at h; exact h.2
    obtain ⟨s, h1, h2, h3⟩ := chain_end hcl hs l hl (fun x hx => hd x (List.mem_cons_of_mem _ hx))
    cases hdl : listed.getD d true with
    | true => exact ⟨s + 1, by simp; omega, fun x hx => by
        simp only [List.take_succ_cons, List.mem_cons] at hx
        rcases hx with rfl | hx
        · exact hdl
        · exact h2 x hx, fun x hx => by simpa using h3 x (by simpa using hx)⟩
    | false =>
      -- then all behind it is to come, too
      have key : ∀ (m : List Nat) (d : Nat), chainB ops (d :: m) = true → (∀ x ∈ d :: m, x < ops.size) → listed.getD d true = false → ∀ x ∈ m, listed.getD x true = false := by
        intro m
        induction m with
        | nil => intro _ _ _ _ x hx; cases hx
        | cons d' m ih =>
          intro d hc hsz hdd x hx
          simp only [chainB, Bool.and_eq_true] at hc
          have hd' : listed.getD d' true = false := by
            cases hh : listed.getD d' true with
            | false => rfl
            | true =>
              have hh2 := hc.1
              unfold hasE at hh2
              split at hh2
              · rename_i o ho
                have h5 := hcl d' o ho hh
                unfold okEdges at h5
                unfold hasEdge at hh2
                obtain ⟨e, he, hb⟩ := Array.any_eq_true'.1 hh2
                have h6 := Array.all_eq_true'.1 h5 e he
                simp only [Bool.and_eq_true, beq_iff_eq] at hb
                rw [hb.1, hb.2] at h6
                simp only [Bool.not_true, Bool.false_or] at h6
                have hds : d < listed.size := by rw [hs]; exact hsz d (by simp)
                simp only [Array.getD_eq_getD_getElem?, Array.getElem?_eq_getElem hds, Option.getD_some] at h6 hdd
                rw [h6] at hdd; cases hdd
              · cases hh2
          rcases List.mem_cons.1 hx with rfl | hx
          · exact hd'
          · exact ih d' hc.2 (fun y hy => hsz y (List.mem_cons_of_mem _ hy)) hd' x hx
      exact ⟨0, by simp, by simp, fun x hx => by
        rcases List.mem_cons.1 (by simpa using hx) with rfl | hx
        · exact hdl
        · exact key l d h hd hdl x hx⟩
def maskL (k n : Nat) (S : List Nat) : Array Bool := (Array.range n).map fun j => decide (j < k) && !S.contains j

theorem wp_region_rel_l {Q : Exit → Act → World → Prop} {id : Nat} {a0 : Act} {w : World} (k n : Nat) (late : List Nat) (X : World → World → Prop) (hm : P.follows .mixedOrders = true)
    (hok : okRegionL ops k n late = true) (hch : chainB ops late = true) (hk : (decide (k < ops.size) && late.all (fun d => decide (d < k))) = true)
    (hfo : ((List.range late.length).all fun s => forcedB ops ((maskL k ops.size (late.drop s)).setIfInBounds k true) (late.drop s ++ (List.range ops.size).drop (k + 1)) && decide ((late.drop s).length ≤ cnt (fun j => (maskL k ops.size (late.drop s)).getD j true) k)) = true)
    (hn : a0.tmps.size = n) (hd0 : a0.defers = []) (hXr : ∀ a, X a a) (hXt : ∀ a b c, X a b → X b c → X a c)
    (h : RW P ops X w.drew (ops.toList.take k) (E0 a0) (fun L => (∀ w', X w.drew w' → Fin (fun a w => wpList P ops Q (ops.toList.drop k) a w) L a0 w') ∧
      (∀ s, s < late.length → ∀ w', X w.drew w' → FinM (fun a w => wpList P ops Q ((k :: late.drop s ++ (List.range ops.size).drop (k + 1)).filterMap (ops[·]?)) a w) (fun j => !(late.drop s).contains j) 0 L a0 w'))) :
    (Code.region id ops true).wp P Q a0 w := by
  simp only [Bool.and_eq_true, decide_eq_true_eq, List.all_eq_true] at hk
  obtain ⟨hk1, hdk⟩ := hk
  have hk' : k ≤ ops.size := Nat.le_of_lt hk1
  have hok' := OkR.ofL hok hk'
  obtain ⟨L, hLl, ⟨hK, hK2⟩, hL⟩ := RW_list _ _ _ h
  have hLk : L.length = k := by rw [hLl]; simp [hk']
  have hL' : ∀ (i : Nat) (o : Oper) (p : Option Tmp × Pred), i < k → ops[i]? = some o → L[i]? = some p → p.1 = o.dst ∧ (∀ v w w', X w w' → p.2 v w → p.2 v w') ∧ Ob P ops X w.drew o (Ecum (E0 a0) (L.take i)) p.2 :=
    fun i o p hi ho hp => hL i o p (by rw [List.getElem?_take, if_pos hi]; simpa using ho) hp
  have hdst : ∀ (i : Nat) (p : Option Tmp × Pred), L[i]? = some p → p.1 = (ops[i]?).bind (·.dst) := fun i p hp => by
    have hi : i < k := by rw [← hLk]; exact (List.getElem?_eq_some_iff.1 hp).1
    have ho : ops[i]? = some ops[i] := Array.getElem?_eq_getElem (by omega)
    rw [(hL' i _ p hi ho hp).1, ho]; rfl
  refine wp_region_any hm ?_
  refine any_rel (k := k) (n := n) (X := X) (w0 := w.drew) a0 hok' hk' hn hd0 hXr hXt L hLk hL' (fun vals w' hX hv => ?_) (fun i o listed vals w' f hki ho hs hsuf h2 hcl hex hf hcf hX hv => ?_) ops.size _ a0 _ (by simp) (fun i hi hi' d => by simp [hi']) (fun j o ho hl => ?_) ?_ (hXr _) ⟨fun _ => undef, ?_, fun j p hj hl => ?_⟩
  · have := Fin_framed (ops := ops) L a0 hdst hv (hK w' hX) k (by omega)
    rw [show L.drop k = [] from List.drop_of_length_le (by omega)] at this
    exact this
  · -- the late one is still to come
    have hopen : ∀ j < i, listed.getD j true = false → ¬ hasEdge o j = true := by
      intro j hj hlj hedge
      have hin := (Array.getElem?_eq_some_iff.1 ho).1
      unfold okEdges at h2
      unfold hasEdge at hedge
      obtain ⟨x, hx, hb⟩ := Array.any_eq_true'.1 hedge
      have := Array.all_eq_true'.1 h2 x hx
      simp only [Bool.and_eq_true, beq_iff_eq] at hb
      rw [hb.1, hb.2] at this
      simp only [Bool.not_true, Bool.false_or] at this
      simp only [Array.getD_eq_getD_getElem?, Array.getElem?_eq_getElem (show j < listed.size by omega), Option.getD_some] at this hlj
      rw [this] at hlj; cases hlj
    obtain ⟨i', hi', h1'⟩ := hex
    have hnoC : ∀ j < i, listed.getD j true = false → ¬ inC ops i ops.size j = true := by
      intro j hj hlj hc
      have hin := (Array.getElem?_eq_some_iff.1 ho).1
      have := inC_ok hcl hs ho h2 _ _ hc
      simp only [Array.getD_eq_getD_getElem?, Array.getElem?_eq_getElem (show j < listed.size by omega), Option.getD_some] at this hlj
      rw [this] at hlj; cases hlj
    have hin' : ∀ j < i, listed.getD j true = false → i = k ∧ j ∈ late := fun j hj hlj => by
      rcases okR_tailL hok i o hki ho j hj with h3 | h3 | h3
      · exact absurd h3 (hopen j hj hlj)
      · exact h3
      · exact absurd h3 (hnoC j hj hlj)
    have hik : i = k := (hin' i' (by omega) h1').1
    subst hik
    obtain ⟨s, hsl, ht1, ht2⟩ := chain_end hcl hs late hch (fun d hd => by have := hdk d hd; omega)
    have hs' : s < late.length := by
      rcases Nat.lt_or_ge s late.length with h3 | h3
      · exact h3
      · have hm := (hin' i' hi' h1').2
        rw [← List.take_of_length_le h3] at hm
        rw [ht1 i' hm] at h1'; cases h1'
    generalize hS : late.drop s = S at *
    have hrest : ∀ j < i, j ∉ S → listed.getD j true = true := by
      intro j hj hne
      cases hlj : listed.getD j true
      · have hm := (hin' j hj hlj).2
        rw [← List.take_append_drop s late, List.mem_append, hS] at hm
        rcases hm with hm | hm
        · rw [ht1 j hm] at hlj; cases hlj
        · exact absurd hm hne
      · rfl
    have hmask : listed = maskL i ops.size S := by
      apply Array.ext
      · simp [maskL, hs]
      · intro j hj1 hj2
        have hjn : j < ops.size := by omega
        have hg : listed[j] = listed.getD j true := by simp [hj1]
        rw [hg]
        simp only [maskL, Array.getElem_map, Array.getElem_range]
        rcases Nat.lt_or_ge j i with hlt | hge
        · by_cases e : j ∈ S
          · rw [ht2 j e]; simp [e]
          · rw [hrest j hlt e]; simp [hlt, e]
        · rw [hsuf j hge hjn true]; simp; omega
    have hfr : (framed ops (fun j => listed.getD j true) vals i a0) = framed ops (fun j => !S.contains j) vals i a0 := by
      apply framed_congr
      intro j hj
      refine ⟨?_, fun _ => rfl⟩
      by_cases e : j ∈ S
      · rw [ht2 j e]; simp [e]
      · rw [hrest j hj e]; simp [e]
    have hK2s := hK2 s hs'
    rw [hS] at hK2s
    have hfos := (List.all_eq_true.1 hfo) s (List.mem_range.2 hs')
    rw [hS] at hfos
    simp only [Bool.and_eq_true, decide_eq_true_eq] at hfos
    obtain ⟨hfos, hcnt⟩ := hfos
    have hw2 := FinM_framed (ops := ops) (vals := vals) (w := w') (mk := fun j => !S.contains j) L a0 hdst (fun j p hmk hp => by
      have hj : j < i := by rw [← hLk]; exact (List.getElem?_eq_some_iff.1 hp).1
      exact hv j p hj (hrest j hj (by simpa using hmk)) hp) (hK2s w' hX) i (by omega)
    rw [show L.drop i = [] from List.drop_of_length_le (by omega)] at hw2
    have hw3 : wpList P ops Q ((i :: S ++ (List.range ops.size).drop (i + 1)).filterMap (ops[·]?)) (framed ops (fun j => !S.contains j) vals i a0) w' := hw2
    rw [hfr]
    unfold wpOp
    rw [ho]
    show if Region.wanted o (yielded ops _) = true then _ else _
    simp only [List.cons_append, List.filterMap_cons, ho] at hw3
    have hSl : S.length ≤ cnt (fun j => listed.getD j true) i := by rw [hmask]; exact hcnt
    have hnext := fun a' w'' hh => wpAny_forced (P := P) (Q := Q) (S ++ (List.range ops.size).drop (i + 1)) (listed.setIfInBounds i true) f a' w'' (by rw [hmask]; exact hfos) (by simp; omega) hh
    simp only [wpList] at hw3
    split at hw3
    · rename_i hwant
      rw [if_pos hwant]
      rcases hw3 with hw3 | hw3
      · exact .inl (Oper.wp_mono (fun a' w'' hh => hnext a' w'' hh) hw3)
      · exact .inr hw3
    · rename_i hwant
      rw [if_neg hwant]
      exact hnext _ _ hw3
  · have := (Array.getElem?_eq_some_iff.1 ho).1
    simp [this] at hl
  · have : ∀ m, m ≤ ops.size → cnt (fun j => (Array.replicate ops.size false).getD j true) m = m := by
      intro m
      induction m with
      | zero => intro _; rfl
      | succ m ih => intro hm; simp only [cnt]; rw [ih (by omega)]; simp [show m < ops.size by omega]; omega
    rw [this k hk']; omega
  · have : ∀ m, m ≤ ops.size → framed ops (fun j => (Array.replicate ops.size false).getD j true) (fun _ => undef) m a0 = a0 := by
      intro m
      induction m with
      | zero => intro _; rfl
      | succ m ih => intro hm; simp only [framed]; rw [ih (by omega)]; simp [show m < ops.size by omega]
    exact (this k hk').symm
  · simp [show j < ops.size by omega] at hl
end
end Go.Ch
