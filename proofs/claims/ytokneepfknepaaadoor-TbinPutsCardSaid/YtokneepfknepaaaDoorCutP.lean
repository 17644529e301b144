/- Plain: the bytes of a plain group that are cut are refused; what is put is read, whatever stands behind. -/
import Derived.Test.YtokneepfknepaaaDoorTbinR
set_option linter.unusedSimpArgs false
set_option linter.unusedVariables false
namespace Go.Proofs.YtokneepfknepaaaDoor

theorem at_open (bs : List UInt8) : At bs rOpen bs := ⟨rfl, by simp [rOpen], by simp [rOpen]⟩
theorem pRec_pos {ts : List SubT} (h : 0 < (pRec ts).length) : ts.all plainSub = true ∧ ts ≠ [] ∧ pRec ts = pRecB ts := by
  rw [pRec_eq] at h ⊢
  by_cases hp : ts.all plainSub = true
  · rw [if_pos hp] at h ⊢
    refine ⟨hp, ?_, rfl⟩
    rintro rfl
    simp [pRecB] at h
  · rw [if_neg hp] at h
    simp at h
theorem rRec_behind (ts : List SubT) (hl : ts.length < 4294967296) (hs : ∀ t, t ∈ ts → SmallSub t) (h : 0 < (pRec ts).length) (l : List UInt8) :
    rRec (pRec ts ++ l) rOpen = (ts, ⟨(pRec ts).length, 0, 0⟩) := by
  obtain ⟨hp, hn, he⟩ := pRec_pos h
  rw [he]
  have := rRec_rt ts hp hn hl hs (pRecB ts ++ l) rOpen l (at_open _)
  rw [this]
  simp [RdS.adv, rOpen]
theorem rRec_cut_law (ts : List SubT) (hl : ts.length < 4294967296) (hs : ∀ t, t ∈ ts → SmallSub t) (c : Nat) (hc : c < (pRec ts).length) :
    (rRec ((pRec ts).take c) rOpen).1 = [] ∧ (rRec ((pRec ts).take c) rOpen).2.err = 10 ∧ 0 ≤ (rRec ((pRec ts).take c) rOpen).2.errAt ∧ (rRec ((pRec ts).take c) rOpen).2.errAt ≤ c := by
  have h := rRec_behind ts hl hs (by omega) []
  rw [List.append_nil] at h
  have hcut := rRec_cut (pRec ts) rOpen (pRec ts).length rfl (by simp [rOpen]) (by rw [h]; simp [RdS.adv, rOpen]) c (by simp [rOpen]) (by omega)
  obtain ⟨h1, h2, h3⟩ := hcut.2 (by simp [rOpen]; omega)
  refine ⟨rRec_errz _ _ (by omega), h1, h2, h3⟩
end Go.Proofs.YtokneepfknepaaaDoor
