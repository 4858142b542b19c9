import Derived.Test.YtmdijgmnopidpaaDoorShh
set_option linter.unusedVariables false
set_option linter.unusedSimpArgs false
namespace Go.Proofs.YtmdijgmnopidpaaDoor
open Go.RowKit Go.Ch Go.Sx

def press_ct : Ct := fun args _ => match args with
  | [y, z] => (match aGw 8 y with | some vs => (match aGb 64 z with | some bl => some ([], .g 8 (.w (pressL consts vs bl)), []) | none => none) | none => none)
  | _ => none
theorem press_h : FnOk Tryd.prog GK 16 press_ct := by
  refine ⟨fun args H g av objs hF hg ρ w vals hG hp ha => ?_, _, Tryd.func16, by kernel_rfl, by kernel_rfl⟩
  unfold press_ct at hF
  split at hF
  · split at hF
    · rename_i y z vs hvs
      split at hF
      · rename_i bl hbl
        simp only [Option.some.injEq, Prod.mk.injEq] at hF
        obtain ⟨rfl, rfl, rfl⟩ := hF
        obtain ⟨v2, vals, rfl, k2, ha⟩ := F2.inv ha
        obtain ⟨v3, vals, rfl, k3, ha⟩ := F2.inv ha
        obtain rfl := F2.inv0 ha
        obtain ⟨a2, l2⟩ := aGw_ok hvs k2 ρ
        obtain ⟨a3, l3⟩ := aGb_ok hbl k3 ρ
        obtain rfl := av_w a2
        obtain rfl := av_b a3
        have := press_c w (ofL vs) bl l3 hG
        unfold wds b64 at this
        rw [ofL_list l2] at this
        exact calls_mono this fun v w' ⟨hx, hv⟩ => ⟨hx, left_val fun ρ => by rw [hv]; exact wds_av _ ρ⟩
      · cases hF
    · cases hF
  · cases hF
end Go.Proofs.YtmdijgmnopidpaaDoor
