/- What the rows list of the program's variables, as the machine reads it. No condition. -/
import Derived.Test.YtfbodageccednaaDoorOaA
import Derived.Test.YtfbodageccednaaDoorRows
import Derived.WalkKit
import Derived.ProofKit
import Derived.OpenShut
import Derived.LaidLaws
import Derived.Lib.LaidTab
set_option linter.unusedVariables false
set_option linter.unusedSimpArgs false
namespace Go.Proofs.YtfbodageccednaaDoor.Oa
open Go Go.RowKit Go.Proofs.YtfbodageccednaaDoor.Vm Go.ChangeShapes Go.WideShapes Go.Proofs.YtfbodageccednaaDoor
set_option maxRecDepth 100000
set_option maxHeartbeats 4000000
/-! What the rows list of the program's variables, as the machine reads it. -/
theorem laid_get {P : Program} {W : World} : ∀ (l : List (String × DataW Unit)) (ps : List MemPlace), DataW.LaidVars P W l ps → ∀ n d, (n, d) ∈ l →
    ∃ g t cs fuel p, P.globalNamed n = some g ∧ (P.globals[g]?).map (·.type) = some t ∧ W.var? P n = some cs ∧ DataW.trod (fun _ => ()) P W 0 (fun _ => true) false fuel t cs.toList = some (d, p) ∧ ∀ x ∈ MemPlace.row ⟨g, 0, none⟩ cs.size, x ∈ ps
  | [], ps, h, n, d, hm => absurd hm List.not_mem_nil
  | (n0, d0) :: r, ps, h, n, d, hm => by
    obtain ⟨g, t, cs, fuel, p, q, h1, h2, h3, h4, h5, h6⟩ := h
    rcases List.mem_cons.1 hm with e | e
    · injection e with e1 e2
      subst e1 e2
      exact ⟨g, t, cs, fuel, p, h1, h2, h3, h4, fun x hx => by rw [h6]; simp [hx]⟩
    · obtain ⟨g', t', cs', fuel', p', a1, a2, a3, a4, a5⟩ := laid_get r q h5 n d e
      exact ⟨g', t', cs', fuel', p', a1, a2, a3, a4, fun x hx => by rw [h6]; simp [a5 x hx]⟩
theorem lt_cell {W : World} {b o : Nat} {v : Value} (h : W.cell? ⟨b, o, none⟩ = some v) : b < W.heap.size := by
  rcases Nat.lt_or_ge b W.heap.size with h' | h'
  · exact h'
  · simp [World.cell?, Array.getElem?_eq_none h'] at h
theorem powD_at (j : Nat) (d : Vm.Data) (h : powD[j]? = some d) : j < 20 ∧ d = .int .u64 ((10 ^ j : Nat) : Int) := by
  unfold powD at h
  rw [List.getElem?_map] at h
  have hj : j < 20 := by
    rcases Nat.lt_or_ge j 20 with h' | h'
    · exact h'
    · rw [List.getElem?_eq_none (by simpa using h')] at h; cases h
  rw [List.getElem?_range hj] at h
  simp only [Option.map_some, Option.some.injEq] at h
  exact ⟨hj, h.symm⟩
theorem glob_pow {l : List (String × DataW Unit)} {W : World} (h : laidMet Tryd.prog l W) (hm : ("internal/strconv.uint64pow10", (Rows.laid_internal_strconv_uint64pow10 : DataW Unit)) ∈ l) : RC W (All W) powD 3 0 := by
  obtain ⟨ps, hl, _, _⟩ := h
  obtain ⟨g, t, cs, fuel, p, hg, ht, hv, hd, _⟩ := laid_get l ps hl _ _ hm
  obtain rfl := Option.some.inj ((show Tryd.prog.globalNamed "internal/strconv.uint64pow10" = some 3 by kernel_rfl).symm.trans hg)
  obtain rfl := Option.some.inj ((show (Tryd.prog.globals[3]?).map (·.type) = some 129 by kernel_rfl).symm.trans ht)
  have e : (Rows.laid_internal_strconv_uint64pow10 : DataW Unit) = Lib.tabData .u64 ((List.range 20).map fun j => ((10 ^ j : Nat) : Int)) := by kernel_rfl
  rw [e] at hd
  have hcs := Lib.cells_of_tab (P := Tryd.prog) (t := 129) (e := 22) (n := 20) (by kernel_rfl) Tryd.underlying22 (by kernel_rfl) (by kernel_rfl) hd
  refine RC.mk fun j d hj => ?_
  obtain ⟨h20, rfl⟩ := powD_at j d hj
  have hc : W.cell? ⟨3, 0 + j, none⟩ = some (.int .u64 ((10 ^ j : Nat) : Int)) := by
    rw [Nat.zero_add, World.var?_cell hg hv j, ← Array.getElem?_toList, hcs]
    simp [h20]
  exact ⟨_, hc, lt_cell hc, rfl, by simp only [RV]⟩
theorem nm_star : "*" ++ "errors.errorString" = "*errors.errorString" := by decide
theorem nm_row (u : TypeId) (h : Tryd.prog.typeName? 3 u = some "*errors.errorString") : u = 136 :=
  typeName_ptr_named (nm := "errors.errorString") (by rw [nm_star]; kernel_rfl) (by kernel_rfl) (by decide) u (by rw [nm_star]; exact h)
theorem es_under : ∃ f : Field, Tryd.prog.underlying 138 = some (.struct #[f]) ∧ f.type = 9 ∧ f.offset = 0 := ⟨_, Tryd.underlying138, rfl, rfl⟩
theorem err_iface : ∃ ms, Tryd.prog.underlying 81 = some (.interface ms) := ⟨_, Tryd.underlying81⟩
theorem glob_err {l : List (String × DataW Unit)} {W : World} (h : laidMet Tryd.prog l W) (n : String) (g0 : Nat) (text : List UInt8) (hm : (n, (.iface "*errors.errorString" (.ptr (.agg [.lit (.string text)])) : DataW Unit)) ∈ l)
    (h1 : Tryd.prog.globalNamed n = some g0) (h2 : (Tryd.prog.globals[g0]?).map (·.type) = some 81) : RC W (All W) [errD] g0 0 := by
  obtain ⟨ps, hl, hnd, hrows⟩ := h
  obtain ⟨g, t, cs, fuel, p, hg, ht, hv, hd, hin⟩ := laid_get l ps hl _ _ hm
  obtain rfl := Option.some.inj (h1.symm.trans hg)
  obtain rfl := Option.some.inj (h2.symm.trans ht)
  obtain ⟨f, hf1, hf2, hf3⟩ := es_under
  obtain ⟨ms, hms⟩ := err_iface
  have ok : ∀ u v, cs.toList = [.iface u v] → Value.okWide Tryd.prog W .any 0 u v := fun u v e => by
    have hc := World.var?_cell hg hv 0
    rw [← Array.getElem?_toList, e] at hc
    have hsz : 0 < cs.size := by rw [← Array.length_toList, e]; simp
    exact (hrows g0 0 (hin _ (by simp [MemPlace.row]; exact hsz))).2 u v (by simpa using hc)
  obtain ⟨a, s, e1, hc1, _, _, _⟩ := errorString_of_trod hms nm_row Tryd.underlying136 hf1 hf2 hf3 Tryd.underlying9 (by kernel_rfl) (by kernel_rfl) hd ok
  have hc := World.var?_cell hg hv 0
  rw [← Array.getElem?_toList, e1] at hc
  have hc : W.cell? ⟨g0, 0, none⟩ = some (.iface 136 (.pointer (some a))) := by simpa using hc
  have ha : a = ⟨a.block, a.off, none⟩ := by
    obtain ⟨b, off, sp⟩ := a
    cases sp with
    | none => rfl
    | some x =>
      unfold World.cell? at hc1
      split at hc1
      · simp at hc1
      · cases hc1
  simp only [RC, errD, RV]
  refine ⟨⟨_, hc, lt_cell hc, rfl, _, rfl, a.block, a.off, ?_, trivial⟩, trivial⟩
  rw [← ha]
theorem glob_of {l : List (String × DataW Unit)} {W : World} (h : laidMet Tryd.prog l W) (h1 : ("internal/strconv.uint64pow10", (Rows.laid_internal_strconv_uint64pow10 : DataW Unit)) ∈ l) (h2 : ("strconv.ErrRange", (Rows.laid_strconv_ErrRange : DataW Unit)) ∈ l) (h3 : ("strconv.ErrSyntax", (Rows.laid_strconv_ErrSyntax : DataW Unit)) ∈ l) : Glob E W (All W) := by
  intro g cs hg
  have hg : Gl g = some cs := hg
  unfold Gl at hg
  by_cases g1 : g = 3
  · subst g1; rw [if_pos rfl] at hg; injection hg with hg; rw [← hg]; exact glob_pow h h1
  · rw [if_neg g1] at hg
    by_cases g2 : g = 0
    · subst g2; rw [if_pos rfl] at hg; injection hg with hg; rw [← hg]; exact glob_err h "strconv.ErrSyntax" 0 _ h3 (by kernel_rfl) (by kernel_rfl)
    · rw [if_neg g2] at hg
      by_cases g3 : g = 1
      · subst g3; rw [if_pos rfl] at hg; injection hg with hg; rw [← hg]; exact glob_err h "strconv.ErrRange" 1 _ h2 (by kernel_rfl) (by kernel_rfl)
      · rw [if_neg g3] at hg; cases hg
end Go.Proofs.YtfbodageccednaaDoor.Oa

