/- Of the printed functions of HourOrders: how wide any accuracies are, and which of any two times is surely ahead, are the document's answers (64-bit integers). No condition. -/
import Derived.Test.YtfbodageccednaaPHourOrdersx1
set_option linter.unusedSimpArgs false
set_option linter.unusedVariables false
namespace Go.Proofs.Ytfbodageccednaa.Pure
open Go.RowKit Go.Proofs.Ytfbodageccednaa.PHourOrders Go.Proofs.YtfbodageccednaaW.PrintWords Go.Proofs.YtfbodageccednaaW.PrintLast

theorem ow_id {x : Int} (h : -9223372036854775808 ≤ x ∧ x ≤ 9223372036854775807) : wrap64 x = x := by unfold wrap64; omega
def accOk (s m u : Int) : Prop := 0 ≤ s ∧ s ≤ 2147483647 ∧ 0 ≤ m ∧ m ≤ 999 ∧ 0 ≤ u ∧ u ≤ 999
theorem width_yes (s m u : Int) (h : accOk s m u) : hour_Width.f s m u = some (1000000 * s + 1000 * m + u, 0) ∧ postmarkref15_Width.f s m u = some (1000000 * s + 1000 * m + u, 0) := by
  obtain ⟨a, b, c, d, e, f⟩ := h
  unfold hour_Width.f postmarkref15_Width.f
  rw [if_neg (by omega), if_neg (by omega), if_neg (by omega), if_neg (by omega), if_neg (by omega), if_neg (by omega), if_neg (by omega), if_neg (by omega), if_neg (by omega), if_neg (by omega), if_neg (by omega), if_neg (by omega)]
  simp (disch := omega) only [ow_id]
  exact ⟨by simp only [Option.some.injEq, Prod.mk.injEq, and_true]; omega, trivial⟩
theorem width_no (s m u : Int) (h : ¬ accOk s m u) : hour_Width.f s m u = some (0, 150) ∧ postmarkref15_Width.f s m u = some (0, 150) := by
  unfold hour_Width.f postmarkref15_Width.f
  unfold accOk at h
  constructor
  all_goals
    split
    · rfl
    · split
      · rfl
      · split
        · rfl
        · split
          · rfl
          · split
            · rfl
            · split
              · rfl
              · omega
theorem order_eq (a b s m u s' m' u' : Int) : ∃ r, hour_Order.f 1 a b s m u s' m' u' = some r ∧ postmarkref15_Order.f 1 a b s m u s' m' u' = some r := by
  unfold hour_Order.f postmarkref15_Order.f
  by_cases h : accOk s m u
  · by_cases h' : accOk s' m' u'
    · rw [(width_yes s m u h).1, (width_yes s m u h).2, (width_yes s' m' u' h').1, (width_yes s' m' u' h').2]
      unfold accOk at h h'
      simp only [Option.bind_some, hour_Order.j0, postmarkref15_Order.j0, if_true]
      by_cases ha : a < 0
      · rw [if_pos (by unfold mn; omega), if_pos ha]; exact ⟨_, rfl, rfl⟩
      · by_cases ha2 : a > 253402300799999
        · rw [if_neg ha, if_pos ha2]
          by_cases hb : b < 0
          · rw [if_pos (by unfold mn; omega)]; exact ⟨_, rfl, rfl⟩
          · rw [if_neg (by unfold mn; omega), if_pos (by unfold mx; omega)]; exact ⟨_, rfl, rfl⟩
        · rw [if_neg ha, if_neg ha2]
          by_cases hb : b < 0
          · rw [if_pos (by unfold mn; omega), if_pos hb]; exact ⟨_, rfl, rfl⟩
          · by_cases hb2 : b > 253402300799999
            · rw [if_neg (by unfold mn; omega), if_pos (by unfold mx; omega), if_neg hb, if_pos hb2]; exact ⟨_, rfl, rfl⟩
            · rw [if_neg (by unfold mn; omega), if_neg (by unfold mx; omega), if_neg hb, if_neg hb2]
              simp (disch := omega) only [ow_id]
              simp only [bne_self_eq_false, Bool.false_eq_true, if_false]
              by_cases p : (b - a) * 1000 > 1000000 * s + 1000 * m + u + (1000000 * s' + 1000 * m' + u')
              · rw [if_pos p, if_pos (by omega)]; exact ⟨_, rfl, rfl⟩
              · by_cases q : -((b - a) * 1000) > 1000000 * s + 1000 * m + u + (1000000 * s' + 1000 * m' + u')
                · rw [if_neg p, if_pos q, if_neg (by omega), if_pos (by omega)]; exact ⟨_, rfl, rfl⟩
                · rw [if_neg p, if_neg q, if_neg (by omega), if_neg (by omega)]; exact ⟨_, rfl, rfl⟩
    · rw [(width_yes s m u h).1, (width_yes s m u h).2, (width_no s' m' u' h').1, (width_no s' m' u' h').2]
      simp only [Option.bind_some, hour_Order.j0, postmarkref15_Order.j0, if_true]
      refine ⟨(0, 150), ?_, ?_⟩
      · split
        · rfl
        · split
          · rfl
          · simp
      · split
        · rfl
        · split
          · rfl
          · split
            · rfl
            · split
              · rfl
              · simp
  · rw [(width_no s m u h).1, (width_no s m u h).2]
    obtain ⟨v, e1, e2⟩ : ∃ v, hour_Width.f s' m' u' = some v ∧ postmarkref15_Width.f s' m' u' = some v := by
      by_cases h' : accOk s' m' u'
      · exact ⟨_, width_yes s' m' u' h'⟩
      · exact ⟨_, width_no s' m' u' h'⟩
    rw [e1, e2]
    simp only [Option.bind_some, hour_Order.j0, postmarkref15_Order.j0, if_true]
    refine ⟨(0, 150), ?_, ?_⟩
    · split
      · rfl
      · split
        · rfl
        · simp
    · split
      · rfl
      · split
        · rfl
        · split
          · rfl
          · split
            · rfl
            · simp
theorem HourOrders (a b s m u s' m' u' : Int) (_ : (Lit.int .i64 a).wf = true) (_ : (Lit.int .i64 b).wf = true) (_ : (Lit.int .i64 s).wf = true) (_ : (Lit.int .i64 m).wf = true) (_ : (Lit.int .i64 u).wf = true) (_ : (Lit.int .i64 s').wf = true) (_ : (Lit.int .i64 m').wf = true) (_ : (Lit.int .i64 u').wf = true) :
    ∃ k, postmarklaw15_HourOrders.f k a b s m u s' m' u' = some true := by
  refine ⟨1, ?_⟩
  unfold postmarklaw15_HourOrders.f
  obtain ⟨v, e1, e2⟩ : ∃ v, hour_Width.f s m u = some v ∧ postmarkref15_Width.f s m u = some v := by
    by_cases h' : accOk s m u
    · exact ⟨_, width_yes s m u h'⟩
    · exact ⟨_, width_no s m u h'⟩
  obtain ⟨r, e3, e4⟩ := order_eq a b s m u s' m' u'
  rw [e1, e2, e3, e4]
  simp
end Go.Proofs.Ytfbodageccednaa.Pure
