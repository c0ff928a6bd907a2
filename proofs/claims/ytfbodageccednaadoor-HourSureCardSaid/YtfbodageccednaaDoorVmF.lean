/- Arguments of a law, whatever their type, as values (sixth part). No condition. -/
import Derived.Test.YtfbodageccednaaDoorVmE
import Derived.ChangeArms
import Derived.OpenShut
import Derived.DataReads
import GoSem.ClaimChange
set_option linter.unusedVariables false
set_option linter.unusedSimpArgs false
namespace Go.Proofs.YtfbodageccednaaDoor.Vm
open Go Go.RowKit
/-! ### Arguments, whatever their type, as data -/
def closedT (P : Program) (S : List TypeId) : Bool := S.all fun t => match P.underlying t with
  | some .bool => true
  | some (.int _) => true
  | some .string => true
  | some (.slice e) => S.contains e && decide (0 < P.cellsOf e)
  | some (.struct fs) => fs.toList.all (fun f => S.contains f.type) && tiledB P (P.cellsOf t) 0 fs.toList
  | some (.array n e) => S.contains e && decide (P.cellsOf t = n * P.cellsOf e)
  | _ => false
where tiledB (P : Program) (total : Nat) : Nat → List Field → Bool
  | k, [] => decide (k = total)
  | k, f :: r => decide (f.offset = k) && tiledB P total (k + P.cellsOf f.type) r
/-- Cells are of a type, as data. -/
def CT (P : Program) : Nat → TypeId → List Data → Prop
  | 0, _, _ => False
  | n + 1, t, ds => match P.underlying t with
    | some .bool => ∃ b, ds = [.bool b]
    | some (.int k) => ∃ i, ds = [.int k i] ∧ (Lit.int k i).wf = true
    | some .string => ∃ s, ds = [.str s] ∧ s.length ≤ maxLen
    | some (.slice e) => ∃ xs, ds = [.lst xs] ∧ xs.length ≤ maxLen ∧ ∀ x ∈ xs, CT P n e x
    | some (.struct fs) => ds.length = P.cellsOf t ∧ ∀ f ∈ fs.toList, CT P n f.type ((ds.drop f.offset).take (P.cellsOf f.type))
    | some (.array m e) => ds.length = P.cellsOf t ∧ ∀ i, i < m → CT P n e ((ds.drop (i * P.cellsOf e)).take (P.cellsOf e))
    | _ => False
mutual
/-- How much there is. -/
def bk : Data → Nat
  | .str s => s.length + 1
  | .lst xs => bkE xs + 1
  | .agg cs => bkC cs + 1
  | .bool _ => 1
  | .int _ _ => 1
  | .nilp => 1
  | .ptr _ => 1
  | .fn _ => 1
  | .nilf => 1
  | .iface _ _ => 1
  | .nili => 1
def bkC : List Data → Nat
  | [] => 0
  | d :: r => bk d + bkC r
def bkE : List (List Data) → Nat
  | [] => 0
  | x :: r => bkC x + bkE r
end
theorem bkC_append : ∀ (a b : List Data), bkC (a ++ b) = bkC a + bkC b
  | [], b => by simp [bkC]
  | d :: a, b => by simp only [List.cons_append, bkC, bkC_append a b]; omega
/-- What a count of a reading's parts has to bear. -/
structure Bulk {H : Type} (B : DataW H → Nat) (BA : List (DataW H) → Nat) : Prop where
  lit : ∀ l, 1 ≤ B (.lit l)
  str : ∀ s, s.length + 1 ≤ B (.lit (.string s))
  nil : 1 ≤ B .nil
  slice : ∀ xs ys, BA xs + 1 ≤ B (.slice xs ys)
  agg : ∀ xs, BA xs ≤ B (.agg xs)
  cons : ∀ d r, B d + BA r ≤ BA (d :: r)
theorem RVs.append {w : World} {I : Cset} : ∀ {as : List Data} {us : List Value} {bs : List Data} {vs : List Value}, RVs w I as us → RVs w I bs vs → RVs w I (as ++ bs) (us ++ vs)
  | [], us, bs, vs, h, k => by simp only [RVs] at h; subst h; exact k
  | a :: as, us, bs, vs, h, k => by
    simp only [RVs] at h
    obtain ⟨v, r, rfl, h1, h2⟩ := h
    exact ⟨v, r ++ vs, rfl, h1, RVs.append h2 k⟩
section
variable {H : Type} {enc : TypeId × Value → H} {P : Program} {w : World} {S : List TypeId} {B : DataW H → Nat} {BA : List (DataW H) → Nat}
/-- A reading, and the data that it tells. -/
def Told (P : Program) (w : World) (B : DataW H → Nat) (fuel : Nat) (t : TypeId) (cs : List Value) (d : DataW H) : Prop :=
  ∃ ds, CT P fuel t ds ∧ RVs w (All w) ds cs ∧ (∀ d ∈ ds, d.one = true) ∧ bkC ds ≤ B d
theorem RC_of {I : Cset} {b : Nat} : ∀ {ds : List Data} {cs : List Value} (o : Nat), RVs w I ds cs → (∀ d ∈ ds, d.one = true) → (∀ i, i < cs.length → w.cell? ⟨b, o + i, none⟩ = cs[i]?) → (∀ i, i < cs.length → I b (o + i)) → RC w I ds b o
  | [], cs, o, h, h1, h2, h3 => by simp only [RC]
  | d :: ds, cs, o, h, h1, h2, h3 => by
    simp only [RVs] at h
    obtain ⟨v, r, rfl, hv, hr⟩ := h
    simp only [RC]
    refine ⟨⟨v, by simpa using h2 0 (by simp), by simpa using h3 0 (by simp), h1 d (by simp), hv⟩, RC_of (o + 1) hr (fun d hd => h1 d (by simp [hd])) (fun i hi => ?_) (fun i hi => ?_)⟩
    · have := h2 (i + 1) (by simp; omega)
      rw [show o + (i + 1) = o + 1 + i by omega] at this
      simpa using this
    · have := h3 (i + 1) (by simp; omega)
      rwa [show o + (i + 1) = o + 1 + i by omega] at this
theorem cell_lt {b o : Nat} {v : Value} (h : w.cell? ⟨b, o, none⟩ = some v) : b < w.heap.size := by
  rcases Nat.lt_or_ge b w.heap.size with h' | h'
  · exact h'
  · simp [World.cell?, Array.getElem?_eq_none h'] at h
theorem spot_none {a : Addr} {v : Value} (h : w.cell? a = some v) : a.spot = none := by
  cases hs : a.spot with
  | none => rfl
  | some s =>
    simp only [World.cell?] at h
    split at h
    · simp [hs] at h
    · cases h
theorem add_spot {a : Addr} {i : Nat} (h : (a.add i).spot = none) (hp : i = 0 → a.spot = none) : a.add i = ⟨a.block, a.off + i, none⟩ := by
  unfold Addr.add at h ⊢
  split
  · rename_i h0
    have := hp h0
    subst h0
    cases a
    simp_all
  · rfl
theorem told_fields (hB : Bulk B BA) {n : Nat} {cs : List Value} {total : Nat} : ∀ (fs : List Field) (xs : List (DataW H × List MemPlace)) (k : Nat), closedT.tiledB P total k fs = true → xs.length = fs.length → cs.length = total →
    (∀ (i : Nat) (f : Field) (x : DataW H × List MemPlace), fs[i]? = some f → xs[i]? = some x → Told P w B n f.type ((cs.drop f.offset).take (P.cellsOf f.type)) x.1) →
    ∃ ds, ds.length = total - k ∧ k ≤ total ∧ RVs w (All w) ds (cs.drop k) ∧ (∀ d ∈ ds, d.one = true) ∧ bkC ds ≤ BA (xs.map (·.1)) + 0 ∧ ∀ f ∈ fs, k ≤ f.offset ∧ CT P n f.type ((ds.drop (f.offset - k)).take (P.cellsOf f.type))
  | [], xs, k, ht, hx, hc, h => by
    simp only [closedT.tiledB, decide_eq_true_eq] at ht
    subst ht
    refine ⟨[], by simp, Nat.le_refl _, ?_, by simp, by simp [bkC], by simp⟩
    rw [List.drop_eq_nil_of_le (by omega)]
    simp only [RVs]
  | f :: fs, xs, k, ht, hx, hc, h => by
    simp only [closedT.tiledB, Bool.and_eq_true, decide_eq_true_eq] at ht
    cases xs with
    | nil => simp at hx
    | cons x xs =>
      obtain ⟨ho, ht⟩ := ht
      obtain ⟨ds2, e1, e2, e3, e4, e5, e6⟩ := told_fields hB fs xs _ ht (by simpa using hx) hc fun i f' x' hf hx' => h (i + 1) f' x' (by simpa using hf) (by simpa using hx')
      obtain ⟨ds1, c1, c2, c3, c4⟩ := h 0 f x rfl rfl
      rw [ho] at c2
      have hl : ds1.length = P.cellsOf f.type := by
        have := c2.length
        rw [List.length_take, List.length_drop] at this
        omega
      refine ⟨ds1 ++ ds2, by simp; omega, by omega, ?_, ?_, ?_, ?_⟩
      · have := RVs.append c2 e3
        rw [← List.drop_drop, List.take_append_drop] at this
        exact this
      · intro d hd
        rcases List.mem_append.1 hd with hd | hd
        · exact c3 d hd
        · exact e4 d hd
      · rw [bkC_append]
        have := hB.cons x.1 (xs.map (·.1))
        simp only [List.map_cons]
        omega
      · intro g hg
        rcases List.mem_cons.1 hg with rfl | hg
        · refine ⟨by omega, ?_⟩
          rw [ho, Nat.sub_self, List.drop_zero, ← hl, List.take_left]
          exact c1
        · obtain ⟨q1, q2⟩ := e6 g hg
          refine ⟨by omega, ?_⟩
          rw [show g.offset - k = ds1.length + (g.offset - (k + P.cellsOf f.type)) by omega, ← List.drop_drop, List.drop_left]
          exact q2
theorem told_rows (hB : Bulk B BA) {n sz : Nat} {e : TypeId} (hsz : P.cellsOf e = sz) {cs : List Value} : ∀ (m : Nat) (xs : List (DataW H × List MemPlace)) (k : Nat), xs.length = m → cs.length = (k + m) * sz →
    (∀ (i : Nat) (x : DataW H × List MemPlace), xs[i]? = some x → Told P w B n e ((cs.drop ((k + i) * sz)).take sz) x.1) →
    ∃ ds, ds.length = m * sz ∧ RVs w (All w) ds (cs.drop (k * sz)) ∧ (∀ d ∈ ds, d.one = true) ∧ bkC ds ≤ BA (xs.map (·.1)) + 0 ∧ ∀ i, i < m → CT P n e ((ds.drop (i * sz)).take sz)
  | 0, xs, k, hx, hc, h => by
    obtain rfl : xs = [] := List.eq_nil_of_length_eq_zero hx
    refine ⟨[], by simp, ?_, by simp, by simp [bkC], by simp⟩
    rw [List.drop_eq_nil_of_le (by simp at hc; omega)]
    simp only [RVs]
  | m + 1, xs, k, hx, hc, h => by
    cases xs with
    | nil => simp at hx
    | cons x xs =>
      obtain ⟨ds2, e1, e3, e4, e5, e6⟩ := told_rows hB hsz m xs (k + 1) (by simpa using hx) (by rw [hc]; congr 1; omega) fun i x' hx' => by
        rw [show k + 1 + i = k + (i + 1) by omega]
        exact h (i + 1) x' (by simpa using hx')
      obtain ⟨ds1, c1, c2, c3, c4⟩ := h 0 x rfl
      rw [Nat.add_zero] at c2
      have hl : ds1.length = sz := by
        have := c2.length
        rw [List.length_take, List.length_drop, hc, ← Nat.sub_mul, show k + (m + 1) - k = m + 1 by omega, Nat.succ_mul] at this
        omega
      refine ⟨ds1 ++ ds2, by rw [List.length_append, e1, hl, Nat.succ_mul]; omega, ?_, ?_, ?_, ?_⟩
      · have := RVs.append c2 e3
        rw [show (k + 1) * sz = k * sz + sz by rw [Nat.succ_mul], ← List.drop_drop, List.take_append_drop] at this
        exact this
      · intro d hd
        rcases List.mem_append.1 hd with hd | hd
        · exact c3 d hd
        · exact e4 d hd
      · rw [bkC_append]
        have := hB.cons x.1 (xs.map (·.1))
        simp only [List.map_cons]
        omega
      · intro i hi
        cases i with
        | zero => rw [Nat.zero_mul, List.drop_zero, ← hl, List.take_left]; exact c1
        | succ i =>
          rw [show (i + 1) * sz = ds1.length + i * sz by rw [Nat.succ_mul]; omega, ← List.drop_drop, List.drop_left]
          exact e6 i (by omega)
theorem trod_told (hB : Bulk B BA) (hS : closedT P S = true) : ∀ (fuel : Nat) (t : TypeId) (cs : List Value) (x : DataW H × List MemPlace), t ∈ S → DataW.trod enc P w 0 (fun _ => true) true fuel t cs = some x → Told P w B fuel t cs x.1
  | 0, t, cs, x, ht, h => by simp [DataW.trod] at h
  | n + 1, t, cs, x, ht, h => by
    have hc := List.all_eq_true.1 hS t ht
    split at hc
    · rename_i hu
      obtain ⟨b, rfl, rfl⟩ := DataW.trod_bool hu h
      exact ⟨[.bool b], by rw [CT, hu]; exact ⟨b, rfl⟩, by simp [RVs, RV], by simp [Data.one], by simpa [bkC, bk] using hB.lit _⟩
    · rename_i k hu
      obtain ⟨i, rfl, rfl, hw⟩ := DataW.trod_int hu h
      exact ⟨[.int k i], by rw [CT, hu]; exact ⟨i, rfl, hw⟩, by simp [RVs, RV], by simp [Data.one], by simpa [bkC, bk] using hB.lit _⟩
    · rename_i hu
      obtain ⟨s, rfl, rfl, hl⟩ := DataW.trod_string hu h
      refine ⟨[.str s.data.toList], by rw [CT, hu]; exact ⟨_, rfl, by simpa using hl⟩, by simp [RVs, RV], by simp [Data.one], ?_⟩
      have := hB.str s.data.toList
      simp only [bkC, bk]; omega
    · rename_i e hu
      simp only [Bool.and_eq_true, List.contains_iff_mem, decide_eq_true_eq] at hc
      rcases DataW.trod_slice hu h with ⟨rfl, rfl⟩ | ⟨a, len, cap, elems, rest, m, hm, rfl, rfl, hb, hl, hcap, hlen, hel, hsp, hns⟩
      · refine ⟨[.lst []], by rw [CT, hu]; exact ⟨[], rfl, by simp, by simp⟩, ?_, by simp [Data.one], by simpa [bkC, bk, bkE] using hB.nil⟩
        simp only [RVs]
        exact ⟨_, _, rfl, by simp only [RV]; exact ⟨none, 0, 0, rfl, rfl, Nat.le_refl _, .inl trivial⟩, rfl⟩
      · obtain rfl : n = m := by omega
        have hsp0 : len ≠ 0 → a.spot = none := by
          intro hne
          have hb1 := hel 0 (by omega)
          rw [List.getElem?_eq_getElem (by omega), Option.bind_eq_some_iff, Nat.zero_mul] at hb1
          obtain ⟨cs', h1, h2⟩ := hb1
          obtain ⟨_, g2, g3⟩ := World.cells?_some h1
          have h0 := g3 0 hc.2
          rw [List.getElem?_eq_getElem (by omega)] at h0
          have := spot_none h0
          simpa [Addr.add] using this
        have key : ∀ (k : Nat) (l : List (DataW H × List MemPlace)), l = elems.drop k → k ≤ len → ∃ xs : List (List Data), xs.length = len - k ∧ (∀ x ∈ xs, CT P n e x) ∧ bkE xs ≤ BA (l.map (·.1)) + 0 ∧
            (xs = [] ∨ RE w (All w) (P.cellsOf e) xs a.block (a.off + k * P.cellsOf e)) := by
          intro k l
          induction l generalizing k with
          | nil =>
            intro hk hkl
            have : elems.length ≤ k := by
              rcases Nat.lt_or_ge k elems.length with h' | h'
              · have := congrArg List.length hk; simp at this; omega
              · exact h'
            exact ⟨[], by simp; omega, by simp, by simp [bkE], .inl rfl⟩
          | cons y l ih =>
            intro hk hkl
            have hk' : k < elems.length := by
              have := congrArg List.length hk; simp at this; omega
            have hy : elems[k]? = some y := by
              have := congrArg List.head? hk; simpa using this.symm
            obtain ⟨xs, x1, x2, x3, x4⟩ := ih (k + 1) (by rw [← List.tail_drop, ← hk]; rfl) (by omega)
            have hb1 := hel k (by omega)
            rw [hy, Option.bind_eq_some_iff] at hb1
            obtain ⟨cs', h1, h2⟩ := hb1
            obtain ⟨ds, d1, d2, d3, d4⟩ := trod_told hB hS n e cs' y hc.1 h2
            obtain ⟨_, g2, g3⟩ := World.cells?_some h1
            have hl2 := d2.length
            have ha := hsp0 (by omega)
            have hcell : ∀ i, i < cs'.length → w.cell? ⟨a.block, a.off + k * P.cellsOf e + i, none⟩ = cs'[i]? := by
              intro i hi
              have := g3 i (by omega)
              rw [← this]
              have e1 : a.add (k * P.cellsOf e) = ⟨a.block, a.off + k * P.cellsOf e, none⟩ := by
                unfold Addr.add; split
                · rename_i h0; rw [h0]; rcases a with ⟨b, o, s⟩; simp_all
                · rfl
              rw [e1, Addr.add_lit]
            refine ⟨ds :: xs, by simp; omega, ?_, ?_, .inr ?_⟩
            · intro x hx
              rcases List.mem_cons.1 hx with rfl | hx
              · exact d1
              · exact x2 x hx
            · have := hB.cons y.1 (l.map (·.1))
              simp only [List.map_cons, bkE]; omega
            · simp only [RE]
              refine ⟨by omega, RC_of _ d2 d3 hcell (fun i hi => ?_), ?_⟩
              · have := hcell i hi
                rw [List.getElem?_eq_getElem hi] at this
                exact cell_lt this
              · rcases x4 with rfl | x4
                · simp only [RE]
                · rw [show a.off + k * P.cellsOf e + P.cellsOf e = a.off + (k + 1) * P.cellsOf e by rw [Nat.succ_mul]; omega]
                  exact x4
        obtain ⟨xs, x1, x2, x3, x4⟩ := key 0 elems (by simp) (Nat.zero_le _)
        refine ⟨[.lst xs], by rw [CT, hu]; exact ⟨xs, rfl, by omega, x2⟩, ?_, by simp [Data.one], ?_⟩
        · simp only [RVs]
          refine ⟨_, _, rfl, ?_, rfl⟩
          simp only [RV]
          refine ⟨some a, len, cap, rfl, by omega, hl, ?_⟩
          rcases x4 with rfl | x4
          · exact .inl rfl
          · by_cases hne : len = 0
            · exact .inl (List.eq_nil_of_length_eq_zero (by omega))
            have ha := hsp0 hne
            refine .inr ⟨a.block, a.off, P.cellsOf e, ?_, hc.2, by simpa using x4⟩
            rcases a with ⟨b, o, s⟩
            simp_all
        · have := hB.slice (elems.map (·.1)) (rest.map (·.1))
          simp only [bkC, bk]; omega
    · rename_i fs hu
      simp only [Bool.and_eq_true, List.all_eq_true, List.contains_iff_mem] at hc
      obtain ⟨xs, m, hm, rfl, hl, hx, hf⟩ := DataW.trod_struct hu h
      obtain rfl : n = m := by omega
      obtain ⟨ds, e1, e2, e3, e4, e5, e6⟩ := told_fields hB (n := n) (w := w) (cs := cs) fs.toList xs 0 hc.2 (by simpa using hx) hl fun i f y hfi hy => by
        have hfi' : fs[i]? = some f := by simpa using hfi
        exact trod_told hB hS n f.type _ y (hc.1 f (List.mem_of_getElem? hfi)) ((hf i f hfi').trans hy)
      refine ⟨ds, ?_, by simpa using e3, e4, ?_⟩
      · rw [CT, hu]
        exact ⟨by simpa using e1, fun f hf => by simpa using (e6 f hf).2⟩
      · have := hB.agg (xs.map (·.1))
        simp only []; omega
    · rename_i m e hu
      simp only [Bool.and_eq_true, List.contains_iff_mem, decide_eq_true_eq] at hc
      obtain ⟨xs, q, hq, rfl, hl, hx, hf⟩ := DataW.trod_array hu h
      obtain rfl : n = q := by omega
      obtain ⟨ds, e1, e3, e4, e5, e6⟩ := told_rows hB (P := P) (n := n) (w := w) (e := e) rfl (cs := cs) m xs 0 hx (by rw [hl, hc.2]; simp) fun i y hy => by
        have hi : i < m := by rw [← hx]; exact (List.getElem?_eq_some_iff.1 hy).1
        rw [Nat.zero_add]
        exact trod_told hB hS n e _ y hc.1 ((hf i hi).trans hy)
      refine ⟨ds, ?_, by simpa using e3, e4, ?_⟩
      · rw [CT, hu]
        exact ⟨by rw [e1, hc.2], e6⟩
      · have := hB.agg (xs.map (·.1))
        simp only []; omega
    · cases hc
end
end Go.Proofs.YtfbodageccednaaDoor.Vm
namespace Go.Proofs.YtfbodageccednaaDoor.Vm
open Go Go.RowKit
/-! ### Arguments of a law, opened -/
section
variable {P : Program} {t : TypeId} {n : Nat} {ds : List Vm.Data}
theorem CT_bool (h : P.underlying t = some .bool) (c : CT P n t ds) : ∃ b, ds = [.bool b] := by
  cases n with
  | zero => exact c.elim
  | succ n => rw [CT, h] at c; exact c
theorem CT_int {k : IntKind} (h : P.underlying t = some (.int k)) (c : CT P n t ds) : ∃ i, ds = [.int k i] ∧ (Lit.int k i).wf = true := by
  cases n with
  | zero => exact c.elim
  | succ n => rw [CT, h] at c; exact c
theorem CT_struct {fs : Array Field} (h : P.underlying t = some (.struct fs)) (c : CT P n t ds) : ∃ m, n = m + 1 ∧ ds.length = P.cellsOf t ∧ ∀ f ∈ fs.toList, CT P m f.type ((ds.drop f.offset).take (P.cellsOf f.type)) := by
  cases n with
  | zero => exact c.elim
  | succ n =>
    rw [CT, h] at c
    exact ⟨n, rfl, c⟩
theorem CT_array {k : Nat} {e : TypeId} (h : P.underlying t = some (.array k e)) (c : CT P n t ds) : ∃ m, n = m + 1 ∧ ds.length = P.cellsOf t ∧ ∀ i, i < k → CT P m e ((ds.drop (i * P.cellsOf e)).take (P.cellsOf e)) := by
  cases n with
  | zero => exact c.elim
  | succ n =>
    rw [CT, h] at c
    exact ⟨n, rfl, c⟩
end
section
variable {H : Type} {enc : TypeId × Value → H} {P : Program} {w : World} {S : List TypeId} {B : DataW H → Nat} {BA : List (DataW H) → Nat}
/-- A struct, or an array, as data. -/
theorem told_agg (hB : Bulk B BA) (hS : closedT P S = true) {t : TypeId} {v : Value} {d : DataW H} {ps : List MemPlace} {cs : Array Value} (ht : t ∈ S) (hv : v = .agg cs) (h : DataW.Trod enc P w 0 (fun _ => true) true t v d ps) :
    ∃ n ds, CT P n t ds ∧ RV w (All w) (.agg ds) v ∧ bkC ds ≤ B d := by
  subst hv
  obtain ⟨fuel, hf⟩ := h
  obtain ⟨ds, h1, h2, _, h4⟩ := trod_told hB hS fuel t _ _ ht hf
  exact ⟨fuel, ds, h1, by simp only [RV]; exact ⟨cs, rfl, by simpa [Value.cells] using h2⟩, h4⟩
end
end Go.Proofs.YtfbodageccednaaDoor.Vm

