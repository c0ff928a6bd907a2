/- The program's known names, as the rows list them. No condition. -/
import Derived.Test.YtgfadocohpinmaaDoorOaL
import Derived.Test.YtgfadocohpinmaaDoorOaG
import Derived.Test.YtgfadocohpinmaaDoorRows
import Derived.WalkKit
import Derived.ProofKit
import Derived.OpenShut
import Derived.LaidLaws
import Derived.Lib.LaidTab
set_option linter.unusedVariables false
set_option linter.unusedSimpArgs false
namespace Go.Proofs.YtgfadocohpinmaaDoor.Oa
open Go Go.RowKit Go.Proofs.YtgfadocohpinmaaDoor.Vm Go.ChangeShapes Go.WideShapes Go.Proofs.YtgfadocohpinmaaDoor
set_option maxRecDepth 100000
set_option maxHeartbeats 4000000
theorem glob_known {l : List (String × DataW Unit)} {W : World} (h : laidMet Tryd.prog l W) (hm : ("postmark/oid.known", (Rows.laid_postmark_oid_known : DataW Unit)) ∈ l) : RC W (All W) (knownCs knownP) 0 0 := by
  obtain ⟨ps, hl, _, _⟩ := h
  obtain ⟨g, t, cs, fuel, p, hg, ht, hv, hd, _⟩ := laid_get l ps hl _ _ hm
  obtain rfl := Option.some.inj ((show Tryd.prog.globalNamed "postmark/oid.known" = some 0 by kernel_rfl).symm.trans hg)
  obtain rfl := Option.some.inj ((show (Tryd.prog.globals[0]?).map (·.type) = some 74 by kernel_rfl).symm.trans ht)
  have e : (Rows.laid_postmark_oid_known : DataW Unit) = .agg (knownP.map fun x => .agg [.lit (.string x.1), .lit (.string x.2)]) := by kernel_rfl
  rw [e] at hd
  obtain ⟨xs, m, rfl, hx, hlen, hn, hel⟩ := DataW.trod_array (n := 26) (e := 73) Tryd.underlying74 hd
  have c73 : Tryd.prog.cellsOf 73 = 2 := by kernel_rfl
  have c9 : Tryd.prog.cellsOf 9 = 1 := by kernel_rfl
  have hx1 : xs.map (·.1) = knownP.map fun x => .agg [.lit (.string x.1), .lit (.string x.2)] := by
    simp only [Prod.mk.injEq, DataW.agg.injEq] at hx; exact hx.1.symm
  have at2 : ∀ i, i < 26 → W.cell? ⟨0, 2 * i, none⟩ = some (.string ⟨(kn i).toArray⟩) ∧ W.cell? ⟨0, 2 * i + 1, none⟩ = some (.string ⟨(kt i).toArray⟩) := by
    intro i hi
    have h1 := hel i hi
    rw [c73] at h1
    have hxi : (xs.map (·.1))[i]? = some (.agg [.lit (.string (kn i)), .lit (.string (kt i))]) := by
      have hk : i < knownP.length := by rw [knownP_len]; exact hi
      rw [hx1, List.getElem?_map, List.getElem?_eq_getElem hk]
      simp only [Option.map_some, kn, kt, List.getD_eq_getElem?_getD, List.getElem?_eq_getElem hk, Option.getD_some]
    rw [List.getElem?_map] at hxi
    obtain ⟨y, hy1, hy2⟩ := Option.map_eq_some_iff.1 hxi
    rw [hy1] at h1
    obtain ⟨ys, m2, rfl, hy, hyl, hyn, hyel⟩ := DataW.trod_array (n := 2) (e := 9) Tryd.underlying73 h1
    have hys : ys.map (·.1) = [.lit (.string (kn i)), .lit (.string (kt i))] := by
      rw [hy] at hy2; simpa using hy2
    have one : ∀ j s, j < 2 → (ys.map (·.1))[j]? = some (.lit (.string s)) → W.cell? ⟨0, 2 * i + j, none⟩ = some (.string ⟨s.toArray⟩) := by
      intro j s hj hs
      have h2 := hyel j hj
      rw [c9] at h2
      rw [List.getElem?_map] at hs
      obtain ⟨z, hz1, hz2⟩ := Option.map_eq_some_iff.1 hs
      rw [hz1] at h2
      obtain ⟨b, hb1, hb2, _⟩ := DataW.trod_string Tryd.underlying9 h2
      rw [hb2] at hz2
      simp only [DataW.lit.injEq, Lit.string.injEq] at hz2
      have hb3 : b = ⟨s.toArray⟩ := by rw [← hz2]
      rw [World.var?_cell hg hv (2 * i + j), ← Array.getElem?_toList, ← hb3]
      have h0 : ((((cs.toList.drop (i * 2)).take 2).drop (j * 1)).take 1)[0]? = some (.string b) := by rw [hb1]; rfl
      rw [List.getElem?_take, if_pos (by decide), List.getElem?_drop, List.getElem?_take, if_pos (by omega), List.getElem?_drop] at h0
      rw [show 2 * i + j = i * 2 + (j * 1 + 0) by omega]
      exact h0
    refine ⟨?_, one 1 (kt i) (by decide) (by rw [hys]; rfl)⟩
    have := one 0 (kn i) (by decide) (by rw [hys]; rfl)
    rw [Nat.add_zero] at this
    exact this
  refine RC.mk fun j d hj => ?_
  have hj2 : j < 52 := by
    rcases Nat.lt_or_ge j 52 with h' | h'
    · exact h'
    · rw [List.getElem?_eq_none (by rw [knownCs_len]; exact h')] at hj; cases hj
  have hd2 := known_at (show j / 2 < 26 by omega)
  have hg2 : (knownCs knownP)[j]? = (((knownCs knownP).drop (j / 2 * 2)).take 2)[j % 2]? := by
    rw [List.getElem?_take, if_pos (Nat.mod_lt _ (by decide)), List.getElem?_drop]
    congr 1; omega
  rw [hg2, hd2] at hj
  obtain ⟨a1, a2⟩ := at2 (j / 2) (by omega)
  rw [Nat.zero_add]
  rcases Nat.mod_two_eq_zero_or_one j with h0 | h0
  · rw [h0] at hj
    simp only [List.getElem?_cons_zero, Option.some.injEq] at hj
    subst hj
    rw [show 2 * (j / 2) = j by omega] at a1
    exact ⟨_, a1, lt_cell a1, rfl, by simp only [RV]⟩
  · rw [h0] at hj
    simp only [List.getElem?_cons_succ, List.getElem?_cons_zero, Option.some.injEq] at hj
    subst hj
    rw [show 2 * (j / 2) + 1 = j by omega] at a2
    exact ⟨_, a2, lt_cell a2, rfl, by simp only [RV]⟩
theorem glob1_of {l : List (String × DataW Unit)} {W : World} (h : laidMet Tryd.prog l W) (h0 : ("postmark/oid.known", (Rows.laid_postmark_oid_known : DataW Unit)) ∈ l) (h1 : ("internal/strconv.uint64pow10", (Rows.laid_internal_strconv_uint64pow10 : DataW Unit)) ∈ l) (h2 : ("strconv.ErrRange", (Rows.laid_strconv_ErrRange : DataW Unit)) ∈ l) (h3 : ("strconv.ErrSyntax", (Rows.laid_strconv_ErrSyntax : DataW Unit)) ∈ l) : Glob E1 W (All W) := by
  intro g cs hg
  have hg : Gl1 g = some cs := hg
  unfold Gl1 at hg
  by_cases g0 : g = 0
  · subst g0; rw [if_pos rfl] at hg; injection hg with hg; rw [← hg]; exact glob_known h h0
  · rw [if_neg g0] at hg
    exact glob_of h h1 h2 h3 g cs hg
end Go.Proofs.YtgfadocohpinmaaDoor.Oa

