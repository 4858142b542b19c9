import Derived.Test.YtmdijgmnopidpaaDoorShb
import Derived.Test.YtmdijgmnopidpaaDoorShaD
set_option linter.unusedVariables false
set_option linter.unusedSimpArgs false
namespace Go.Proofs.YtmdijgmnopidpaaDoor
open Go.RowKit Go.Ch Go.Sx

def ofL (l : List UInt32) : Words := ⟨l.getD 0 0, l.getD 1 0, l.getD 2 0, l.getD 3 0, l.getD 4 0, l.getD 5 0, l.getD 6 0, l.getD 7 0⟩
theorem ofL_list {l : List UInt32} (h : l.length = 8) : (ofL l).list = l := by
  rw [lstE (0 : UInt32) h]; rfl
theorem list_ofL (v : Words) : ofL v.list = v := rfl
def pressL (ks vs : List UInt32) (bl : List UInt8) : List UInt32 := (pressOf ks (ofL vs) bl).list
theorem wds_av (v : Words) (ρ : Pls) : avR ρ (.g 8 (.w v.list)) (wds v) := ⟨v.list.map w32, csR_w.2 rfl, by simp [len8], rfl⟩
theorem av_w {ρ : Pls} {l : List UInt32} {n : Nat} {v : Value} (h : avR ρ (.g n (.w l)) v) : v = .agg (l.map w32).toArray := by
  obtain ⟨vs, h1, _, h3⟩ := h
  rw [h3, csR_w.1 h1]
theorem av_b {ρ : Pls} {l : List UInt8} {n : Nat} {v : Value} (h : avR ρ (.g n (.b l)) v) : v = .agg (l.map bU).toArray := by
  obtain ⟨vs, h1, _, h3⟩ := h
  rw [h3, csR_b.1 h1]
theorem sl_w {w : World} {e : TypeId} {l : List UInt32} {v : Value} {p : Pl} (h : InSl w e l.length (.w l) v p) : Sl w w.heap.size v (l.map w32) := h.sl (fun _ _ h => csR_w.1 h) (by simp)
end Go.Proofs.YtmdijgmnopidpaaDoor
