import Derived.Test.YtpinmaodpfoinaaBk
set_option linter.unusedVariables false
set_option linter.unusedSimpArgs false
namespace Go.Ch
open Go.RowKit

section rules
variable {P : Program} {ops : Array Oper} {w0 : World} {rest : List Oper} {E : Nat → Pred} {K : List (Option Tmp × Pred) → Prop}

theorem map_ev {E : Nat → Pred} {ev : Operand → Value} {w : World} : ∀ (xs : List Operand) (vs : List Value), xs.map (EP E) = vs.map (fun c v _ => v = c) → (∀ x ∈ xs, EP E x (ev x) w) → xs.map ev = vs
  | [], [], _, _ => rfl
  | [], _ :: _, h, _ => by simp at h
  | _ :: _, [], h, _ => by simp at h
  | x :: xs, v :: vs, h, hE => by
    simp only [List.map_cons, List.cons.injEq] at h
    have h1 := hE x (by simp)
    rw [h.1] at h1
    simp only [List.map_cons, List.cons.injEq]
    exact ⟨h1, map_ev xs vs h.2 (fun y hy => hE y (by simp [hy]))⟩
/-- a call of known values, whose answer is known and that leaves the world as it is -/
theorem r_callE {d ty pos aft g f} {fn : Func} {xs : List Operand} {vs : List Value} {ts : Array TypeId} (c : Value) (hf : P.funcs[f]? = some fn) (hname : (fn.name == "runtime.NumGoroutine") = false) (hb : fn.body.isNone = false)
    (hx : xs.map (EP E) = vs.map (fun c v _ => v = c))
    (hc : ∀ w, Ext w0 w → Calls P f vs.toArray w (Ret fun v w' => w' = w ∧ v = c))
    (h : RW P ops Ext w0 rest (upd E d (fun v _ => v = c)) (fun L => K ((d, fun v _ => v = c) :: L)))
    (hgd : GuardOk ops E g := by first | exact True.intro | exact ⟨_, rfl, rfl⟩) :
    RW P ops Ext w0 (⟨d, .call { callee := .value (.func f), args := xs.toArray, argTypes := ts }, ty, pos, aft, g⟩ :: rest) E K :=
  r_call _ (stays_eq c) hf hname hb (fun ev w hX hE => by
    have hm := map_ev xs vs hx (fun x hx => hE x (by simpa using hx))
    have : Calls P f vs.toArray w (Ret fun v w' => Ext w w' ∧ v = c) := (hc w hX).mono (fun e w' ⟨v, he, h1, h2⟩ => ⟨v, he, by rw [h1]; exact Below.refl _ _, h2⟩)
    simpa [hm] using this) h hgd
/-- a call of known values, whose answer is known -/
theorem r_callX {d ty pos aft g f} {fn : Func} {xs : List Operand} {vs : List Value} {ts : Array TypeId} (c : Value) (hf : P.funcs[f]? = some fn) (hname : (fn.name == "runtime.NumGoroutine") = false) (hb : fn.body.isNone = false)
    (hx : xs.map (EP E) = vs.map (fun c v _ => v = c))
    (hc : ∀ w, Ext w0 w → Calls P f vs.toArray w (Ret fun v w' => Ext w w' ∧ v = c))
    (h : RW P ops Ext w0 rest (upd E d (fun v _ => v = c)) (fun L => K ((d, fun v _ => v = c) :: L)))
    (hgd : GuardOk ops E g := by first | exact True.intro | exact ⟨_, rfl, rfl⟩) :
    RW P ops Ext w0 (⟨d, .call { callee := .value (.func f), args := xs.toArray, argTypes := ts }, ty, pos, aft, g⟩ :: rest) E K :=
  r_call _ (stays_eq c) hf hname hb (fun ev w hX hE => by
    have hm := map_ev xs vs hx (fun x hx => hE x (by simpa using hx))
    simpa [hm] using hc w hX) h hgd

/-- a block that the region makes -/
def NewBlk (t : TypeId) (cs : Array Value) (B : Nat) : Pred := fun v w => ∃ b, v = .pointer (some ⟨b, 0, none⟩) ∧ Blk w b t cs ∧ B ≤ b
theorem stays_new (t cs B) : Stays (NewBlk t cs B) := fun _ _ _ hx ⟨b, hv, hB, hb⟩ => ⟨b, hv, hB.ext hx, hb⟩
theorem r_alloc {d ty pos aft g} {t : TypeId} {i : TypeInfo} {z : Value} {cs : Array Value} (hi : P.info? t = some i) (hz : i.zero = some z) (hcs : z.cells = cs)
    (h : RW P ops Ext w0 rest (upd E d (NewBlk t cs w0.heap.size)) (fun L => K ((d, NewBlk t cs w0.heap.size) :: L)))
    (hgd : GuardOk ops E g := by first | exact True.intro | exact ⟨_, rfl, rfl⟩) :
    RW P ops Ext w0 (⟨d, .alloc t, ty, pos, aft, g⟩ :: rest) E K := by
  refine r_step _ (stays_new t cs _) hgd (fun a w hX hE => ?_) h
  have hz' : (zeroValue t).run P w = .ok z w := by simp [zeroValue, typeInfo, hi, hz]
  subst hcs
  have hrun : (execOp a.eval ⟨d, .alloc t, ty, pos, aft, g⟩).run P w = .ok (.value (.pointer (some ⟨w.heap.size, 0, none⟩))) (w.alloc (.cells z.cells t)) := by
    simp [execOp, Instr.alloc, hz', newVar, newRow]
  unfold Oper.wp
  rw [hrun]
  exact ⟨_, rfl, (Below.refl _ _).alloc (Nat.le_refl _) _, _, rfl, Blk.new w t z.cells, hX.size⟩
end rules

/-- an array that is built of all its elements -/
theorem wpl_build_arr {P : Program} {w : World} {ops : Array Oper} {rest : List Oper} {a : Act} {Q : Exit → Act → World → Prop} {dst ty pos aft g} {t e : TypeId} {n : Nat} {ps : Array (Nat × Operand)} {xs : List Operand} {vs : List Value} {i ie : TypeInfo} {z : Value}
    (ht : P.underlying t = some (.array n e)) (hi : P.info? t = some i) (hz : i.zero = some z) (hzs : z.cells.size = n) (hie : P.info? e = some ie) (hse : ie.size = 1)
    (hps : ps = (xs.zipIdx.map fun p => (p.2, p.1)).toArray) (hvs : xs.map a.eval = vs) (hn : xs.length = n) (h1 : ∀ u ∈ vs, u.cells = #[u])
    (h : wpList P ops Q rest (a.put dst (.agg vs.toArray)) w)
    (hw : Region.wanted ⟨dst, .build t ps, ty, pos, aft, g⟩ (yielded ops a.tmps) = true := by rfl) :
    wpList P ops Q (⟨dst, .build t ps, ty, pos, aft, g⟩ :: rest) a w := by
  have hlen : vs.length = n := by rw [← hvs]; simpa using hn
  refine wpl_val hw ?_ h
  have hmap : ps.toList.map (fun (x : Nat × Operand) => (x.1, a.eval x.2)) = (vs.zipIdx.map fun p => (p.2, p.1)) := by
    subst hps; subst hvs
    simp [List.zipIdx_map, Function.comp_def]
  have hf := fill_list vs 0 z.cells h1 (by simp [hlen, hzs])
  simp only [Nat.zero_add, List.take_zero, List.nil_append, Nat.mul_one] at hf
  have hdrop : vs ++ z.cells.toList.drop vs.length = vs := by
    rw [List.drop_of_length_le (by simp [hlen, hzs])]; simp
  rw [hdrop] at hf
  have hz' : (zeroValue t).run P w = .ok z w := by simp [zeroValue, typeInfo, hi, hz]
  simp [execOp, Instr.build, hz', run_underlying ht, sizeOf, typeInfo, hie, hse, hmap, hf]

section conv
variable {P : Program}
theorem run_convi {s t : TypeId} {ds : TypeDesc} {k k' : IntKind} (hs : P.underlying s = some ds) (ht : P.underlying t = some (.int k')) (a : Int) (w : World) : (convert s t (.int k a)).run P w = .ok (.int k' (k'.wrap a)) w := by
  unfold convert
  rw [Sem.run_bind, run_underlying hs w, Result.andThen_ok, Sem.run_bind, run_underlying ht w, Result.andThen_ok]
  cases ds <;> simp [Conv.intToInt]
theorem conv_bw {s t : TypeId} {ds : TypeDesc} (hs : P.underlying s = some ds) (ht : P.underlying t = some (.int .u32)) (x : UInt8) (w : World) : (convert s t (.int .u8 (x.toNat : Int))).run P w = .ok (w32 x.toUInt32) w := by
  rw [run_convi hs ht, wrap32n]
  have := x.toNat_lt
  unfold w32
  rw [Nat.mod_eq_of_lt (by omega)]
  simp
theorem conv_wb {s t : TypeId} {ds : TypeDesc} (hs : P.underlying s = some ds) (ht : P.underlying t = some (.int .u8)) (x : UInt32) (w : World) : (convert s t (w32 x)).run P w = .ok (bU x.toUInt8) w := by
  unfold w32
  rw [run_convi hs ht, IntKind.wrap_u8]
  unfold bU
  simp
theorem conv_nb {s t : TypeId} {ds : TypeDesc} {k : IntKind} (hs : P.underlying s = some ds) (ht : P.underlying t = some (.int .u8)) (n : Nat) (w : World) : (convert s t (.int k (n : Int))).run P w = .ok (bU (UInt8.ofNat n)) w := by
  rw [run_convi hs ht, IntKind.wrap_u8]
  unfold bU
  simp
end conv

theorem at_w32 {ws : List UInt32} {k : Nat} (h : k < ws.length) : (ws.map w32).toArray[k]? = some (w32 (ws.getD k 0)) := by
  simp [List.getElem?_eq_getElem h]
theorem at_w32l {ws : List UInt32} {k : Nat} (h : k < ws.length) : (ws.map w32)[k]? = some (w32 (ws.getD k 0)) := by
  simp [List.getElem?_eq_getElem h]
theorem at_b8 {l : List UInt8} {k : Nat} (h : k < l.length) : (l.map bU).toArray[k]? = some (.int .u8 ((l.getD k 0).toNat : Int)) := by
  simp [List.getElem?_eq_getElem h, bU]
theorem w32_one (l : List UInt32) : ∀ u ∈ l.map w32, u.oneCell' = true := by
  intro u hu; obtain ⟨x, _, rfl⟩ := List.mem_map.1 hu; rfl
theorem set_w32 (ws : List UInt32) (k : Nat) (x : UInt32) : ((ws.map w32).toArray).setIfInBounds k (w32 x) = ((ws.set k x).map w32).toArray := by
  simp [List.map_set]
theorem set_b8 (l : List UInt8) (k : Nat) (x : UInt8) : ((l.map bU).toArray).setIfInBounds k (bU x) = ((l.set k x).map bU).toArray := by
  simp [List.map_set]
end Go.Ch
