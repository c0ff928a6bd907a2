/- An abstract machine over values, that the program's machine follows it, and its rules (X04). No condition. -/
import Derived.Test.YtpajpkbipagjpaaGreatDoorX03
set_option linter.unusedVariables false
set_option linter.unusedSimpArgs false
namespace Go.Proofs.YtpajpkbipagjpaaGreatDoor.Vm
open Go Go.RowKit
def plainOp : Op → Bool
 | .defer _ => false
 | .select _ _ => false
 | _ => true
def addrOp : Op → Option (TypeId × Operand × Nat)
 | .fieldAddr t x f => some (t, x, f)
 | _ => none
def tmpsOf (xs : Array Operand) : List Nat := xs.toList.filterMap fun | .tmp u => some u | _ => none
def writesFrom (ops : Array Oper) (q : Nat) : List Nat := (ops.toList.drop q).filterMap (·.dst)
def flT (ops : Array Oper) (fl : List Nat) : List Nat := fl.filterMap fun i => gtmp ops i
def floatsOK (ops : Array Oper) (q : Nat) (fl : List Nat) : Bool :=
 decide (q ≤ ops.size) && (fl.all fun i => decide (q ≤ i) && decide (i < ops.size)) && ((List.range ops.size).all fun i => match ops[i]? with
  | none => false
  | some o => (o.after.toList.all fun e => !Region.binds .any e || decide (e.on < i)) && plainOp o.op &&
    if i < q then ((match o.dst with | some t => wr ops q t == some i | none => false) && (match o.guard with | some (j, _) => decide (j < i) | none => true)) && (o.looksAt ops).all fun u => match wr ops q u with | some j => hangs o j | none => true
    else (clos ops i (hmask o)) % 2 ^ q == 2 ^ q - 1 &&
     if fl.contains i then (addrOp o.op).isSome && o.guard.isNone && (match o.dst with | some t => (List.range ops.size).all fun k => decide (k < q) || decide (k = i) || !(gtmp ops k == some t) | none => false) && (tmpsOf o.op.operands).all fun u => !(writesFrom ops q).contains u
     else ((List.range i).all fun j => decide (j < q) || fl.contains j || (clos ops i (hmask o)).testBit j) && (o.looksAt ops).all fun u => fl.all fun j => !(gtmp ops j == some u) || (clos ops i (hmask o)).testBit j)
theorem floatsOK_size {ops : Array Oper} {q : Nat} {fl : List Nat} (h : floatsOK ops q fl = true) : q ≤ ops.size := by
 simp only [floatsOK, Bool.and_eq_true, decide_eq_true_eq] at h
 exact h.1.1
theorem floatsOK_fl {ops : Array Oper} {q : Nat} {fl : List Nat} (h : floatsOK ops q fl = true) : ∀ i ∈ fl, q ≤ i ∧ i < ops.size := by
 simp only [floatsOK, Bool.and_eq_true, decide_eq_true_eq] at h
 intro i hi
 have := List.all_eq_true.1 h.1.2 i hi
 simpa using this
theorem clos_L {ops : Array Oper} {L : Nat → Prop} {o : Oper} {i j : Nat} (hL : Closed ops L) (hLo : ∀ e ∈ o.after, Region.binds .any e = true → L e.on) (h : (clos ops i (hmask o)).testBit j = true) : L j :=
 clos_in hL i (hmask o) (fun k hk => by
  obtain ⟨e, he, rfl, hb⟩ := hmask_bit hk
  exact hLo e he hb) j h
theorem floatsOK_at {ops : Array Oper} {q i : Nat} {fl : List Nat} {o : Oper} (h : floatsOK ops q fl = true) (ho : ops[i]? = some o) : (∀ e ∈ o.after, Region.binds .any e = true → e.on < i) ∧
 (i < q → ((∃ t, o.dst = some t ∧ wr ops q t = some i) ∧ ∀ j b, o.guard = some (j, b) → j < i) ∧ ∀ u ∈ o.looksAt ops, ∀ j, wr ops q u = some j → hangs o j = true) ∧ (q ≤ i → ∀ L, Closed ops L → (∀ e ∈ o.after, Region.binds .any e = true → L e.on) → ∀ j, j < q → L j) := by
 have hi : i < ops.size := (Array.getElem?_eq_some_iff.1 ho).1
 simp only [floatsOK, Bool.and_eq_true] at h
 have h := List.all_eq_true.1 h.2 i (List.mem_range.2 hi)
 rw [ho] at h
 simp only [Bool.and_eq_true] at h
 obtain ⟨⟨h1, hp⟩, h2⟩ := h
 refine ⟨fun e he hb => ?_, fun hq => ?_, fun hq L hL hLo j hj => ?_⟩
 ·have := List.all_eq_true.1 h1 e (by simpa using he)
  simpa [hb] using this
 ·rw [if_pos hq] at h2
  simp only [Bool.and_eq_true] at h2
  obtain ⟨⟨h3, h5⟩, h4⟩ := h2
  refine ⟨⟨?_, fun j b hg => ?_⟩, fun u hu j hj => ?_⟩
  ·split at h3
   ·rename_i t ht
    exact ⟨t, ht, by simpa using h3⟩
   ·cases h3
  ·rw [hg] at h5
   simpa using h5
  ·have := List.all_eq_true.1 h4 u hu
   rw [hj] at this
   exact this
 ·rw [if_neg (by omega)] at h2
  simp only [Bool.and_eq_true] at h2
  have h2 := eq_of_beq h2.1
  refine clos_L hL hLo (i := i) ?_
  have h3 := Nat.testBit_mod_two_pow (clos ops i (hmask o)) q j
  rw [h2, Nat.testBit_two_pow_sub_one, decide_eq_true hj, Bool.true_and] at h3
  exact h3.symm
theorem floatsOK_plain {ops : Array Oper} {q i : Nat} {fl : List Nat} {o : Oper} (h : floatsOK ops q fl = true) (ho : ops[i]? = some o) : plainOp o.op = true := by
 have hi : i < ops.size := (Array.getElem?_eq_some_iff.1 ho).1
 simp only [floatsOK, Bool.and_eq_true] at h
 have h := List.all_eq_true.1 h.2 i (List.mem_range.2 hi)
 rw [ho] at h
 simp only [Bool.and_eq_true] at h
 exact h.1.2
theorem floatsOK_in {ops : Array Oper} {q i : Nat} {fl : List Nat} {o : Oper} (h : floatsOK ops q fl = true) (ho : ops[i]? = some o) (hq : q ≤ i) (hm : i ∈ fl) :
 (∃ x, addrOp o.op = some x) ∧ o.guard = none ∧ (∃ t, o.dst = some t ∧ ∀ k, q ≤ k → k < ops.size → k ≠ i → gtmp ops k ≠ some t) ∧ ∀ u ∈ tmpsOf o.op.operands, ¬ u ∈ writesFrom ops q := by
 have hi : i < ops.size := (Array.getElem?_eq_some_iff.1 ho).1
 simp only [floatsOK, Bool.and_eq_true] at h
 have h := List.all_eq_true.1 h.2 i (List.mem_range.2 hi)
 rw [ho] at h
 simp only [Bool.and_eq_true] at h
 have h2 := h.2
 rw [if_neg (by omega)] at h2
 simp only [Bool.and_eq_true] at h2
 have h3 := h2.2
 rw [if_pos (by simpa using hm)] at h3
 simp only [Bool.and_eq_true] at h3
 obtain ⟨⟨⟨a, b⟩, c⟩, d⟩ := h3
 refine ⟨Option.isSome_iff_exists.1 a, by simpa using b, ?_, fun u hu hw => ?_⟩
 ·split at c
  ·rename_i t ht
   refine ⟨t, ht, fun k hk hkn hne e => ?_⟩
   have := List.all_eq_true.1 c k (List.mem_range.2 hkn)
   simp [e, hne] at this
   omega
  ·cases c
 ·have := List.all_eq_true.1 d u hu
  simp [hw] at this
theorem floatsOK_out {ops : Array Oper} {q i : Nat} {fl : List Nat} {o : Oper} (h : floatsOK ops q fl = true) (ho : ops[i]? = some o) (hq : q ≤ i) (hm : ¬ i ∈ fl) {L : Nat → Prop} (hL : Closed ops L) (hLo : ∀ e ∈ o.after, Region.binds .any e = true → L e.on) :
 (∀ j, q ≤ j → j < i → ¬ j ∈ fl → L j) ∧ ∀ u ∈ o.looksAt ops, ∀ j ∈ fl, gtmp ops j = some u → L j := by
 have hi : i < ops.size := (Array.getElem?_eq_some_iff.1 ho).1
 simp only [floatsOK, Bool.and_eq_true] at h
 have h := List.all_eq_true.1 h.2 i (List.mem_range.2 hi)
 rw [ho] at h
 simp only [Bool.and_eq_true] at h
 have h2 := h.2
 rw [if_neg (by omega)] at h2
 simp only [Bool.and_eq_true] at h2
 have h3 := h2.2
 rw [if_neg (by simpa using hm)] at h3
 simp only [Bool.and_eq_true] at h3
 refine ⟨fun j hj hji hjf => clos_L hL hLo (i := i) ?_, fun u hu j hj e => clos_L hL hLo (i := i) ?_⟩
 ·have := List.all_eq_true.1 h3.1 j (List.mem_range.2 hji)
  simp only [Bool.or_eq_true, decide_eq_true_eq, List.contains_iff_mem] at this
  rcases this with (h | h) | h
  ·omega
  ·exact absurd h hjf
  ·exact h
 ·have := List.all_eq_true.1 (List.all_eq_true.1 h3.2 u hu) j hj
  simpa [e] using this
structure Ahead (ops : Array Oper) (fl : List Nat) (v : Nat → Value) (listed : Array Bool) (a a' : Act) : Prop where
 defers : a'.defers = a.defers
 size : a'.tmps.size = a.tmps.size
 same : ∀ u, ¬ u ∈ flT ops fl → a'.tmps.getD u undef = a.tmps.getD u undef
 told : ∀ u, u ∈ flT ops fl → u < a.tmps.size ∧ a'.tmps.getD u undef = v u
 done : ∀ i ∈ fl, listed.getD i false = true → ∀ t, gtmp ops i = some t → a.tmps.getD t undef = v t
theorem upon_tr {F : Fence} {n : Nat} {P : Program} {o : Oper} {a a' : Act} {next next' : Act → World → Prop} {Q : Exit → Act → World → Prop} (h1 : ∀ v w, next' (a'.put o.dst v) w → next (a.put o.dst v) w)
 (h2 : ∀ d w, next' ({ a' with defers := d :: a'.defers }.put o.dst undef) w → next ({ a with defers := d :: a.defers }.put o.dst undef) w) {r : Result Next} (h : o.uponIn F n P a' next' (fun _ _ _ => False) r) : o.uponIn F n P a next Q r := by
 cases r with
 | ok x w' =>
   cases x <;> simp only [Oper.uponIn] at h ⊢
   case value => exact h1 _ _ h
   case skip => exact h1 _ _ h
   case defer => exact h2 _ _ h
   case enter => exact ⟨h.1, CallsIn.mono h.2 (fun e w'' he => by cases e <;> first | exact h1 _ _ he | exact he.elim | (obtain ⟨_, _, he⟩ := he; exact he.elim))⟩
   case row => exact ⟨h.1, RowsIn.mono h.2 (fun _ _ he => h1 _ _ he)⟩
   case round => exact ⟨h.1, RoundIn.mono h.2 (fun e w'' he => by cases e <;> first | exact h1 _ _ he | exact he.elim | (obtain ⟨_, _, he⟩ := he; exact he.elim))⟩
 | halt s w' => cases s <;> simp only [Oper.uponIn] at h ⊢
theorem semAt_plain {ro : Option Nat} {ρ : Operand → Value} {o : Oper} (h : plainOp o.op = true) : Oper.semAt ro ρ o = execOp ρ o :=
 Oper.semAt_eq ro ρ o fun c e => by rw [e] at h; cases h
theorem looksAt_guard {ops : Array Oper} {o : Oper} {j : Nat} {b : Bool} {g : Nat} (hg : o.guard = some (j, b)) (hgt : gtmp ops j = some g) : g ∈ o.looksAt ops := by
 unfold Oper.looksAt
 refine List.mem_append_right _ ?_
 rw [hg]
 simp only []
 rw [show (ops[j]?).bind (·.dst) = some g from hgt]
 simp
theorem looksAt_tmp {ops : Array Oper} {o : Oper} {u : Nat} (h : .tmp u ∈ o.op.operands) : u ∈ o.looksAt ops := by
 unfold Oper.looksAt
 exact List.mem_append_left _ (List.mem_filterMap.2 ⟨.tmp u, by simpa using h, rfl⟩)
theorem getD_put {a : Act} {t u : Nat} {v : Value} : (a.put (some t) v).tmps.getD u undef = if t = u ∧ u < a.tmps.size then v else a.tmps.getD u undef := by
 simp only [Act.put, Array.getD_eq_getD_getElem?, Array.getElem?_setIfInBounds]
 by_cases e : t = u
 ·subst e
  by_cases h : t < a.tmps.size
  ·rw [if_pos rfl, if_pos h, if_pos ⟨rfl, h⟩]; rfl
  ·rw [if_pos rfl, if_neg h, if_neg (fun x => h x.2)]
   simp [Array.getElem?_eq_none (Nat.le_of_not_lt h)]
 ·rw [if_neg e, if_neg (fun x => e x.1)]
theorem size_put {a : Act} {d : Option Nat} {v : Value} : (a.put d v).tmps.size = a.tmps.size := by
 cases d <;> simp [Act.put]
theorem mem_flT {ops : Array Oper} {fl : List Nat} {u : Nat} : u ∈ flT ops fl ↔ ∃ i ∈ fl, gtmp ops i = some u := by simp [flT, List.mem_filterMap]
section
variable {Γ : Ctx} {st : St} {as : List Act} {Φ : Fns} {ρ : Option Nat} {Q : Exit → Act → World → Prop} {ops : Array Oper} {q : Nat} {K : St → Prop} {fl : List Nat} {v : Nat → Value}
theorem float_know (hΦ : Sound Γ.toEnv Φ) (hs : floatsOK ops q fl = true) {i : Nat} {o : Oper} (ho : ops[i]? = some o) (hq : q ≤ i) (hm : i ∈ fl) {l : List Oper} {a' : Act} {β : Nat → Pl} {w : World} {t : Nat} {x : Value} (hd : o.dst = some t)
 (ht : t < a'.tmps.size) (hv : a'.tmps.getD t undef = x) (hx : (execOp a'.eval o).run Γ.P w = .ok (.value x) w) (S : Sim Γ st a' as β w) (h : goOps Γ.toEnv Φ ops (o :: l) st K) :
 ∃ st' β', Sim Γ st' a' as β' w ∧ goOps Γ.toEnv Φ ops l st' K := by
 have := goStep (Q := fun _ _ _ => False) (ρ := none) hΦ ho S h (next := fun a' w => ∃ st' β', Sim Γ st' a' as β' w ∧ goOps Γ.toEnv Φ ops l st' K) fun st a β w S h => ⟨st, β, S, h⟩
 simp only [wpOpIn, ho] at this
 rw [if_pos (by simp [Region.wanted, (floatsOK_in hs ho hq hm).2.1])] at this
 have := this.2
 rw [semAt_plain (floatsOK_plain hs ho), hx] at this
 simp only [Oper.uponIn, hd] at this
 have e : a'.put (some t) x = a' := by
  obtain ⟨tmps, ds⟩ := a'
  simp only [Act.put]
  congr 1
  apply Array.ext_getElem?
  intro k
  rw [Array.getElem?_setIfInBounds]
  by_cases ek : t = k
  ·subst ek
   rw [if_pos rfl, if_pos ht]
   rw [Array.getD_eq_getD_getElem?, Array.getElem?_eq_getElem ht] at hv
   rw [Array.getElem?_eq_getElem ht]
   simp at hv
   rw [hv]
  ·rw [if_neg ek]
 rw [e] at this
 exact this
theorem phaseF (hΦ : Sound Γ.toEnv Φ) (hs : floatsOK ops q fl = true) (hQ : ∀ st a β w, Sim Γ st a as β w → K st → Q .normal a w) :
 ∀ (fuel k : Nat) (listed : Array Bool) (st : St) (a a' : Act) (β : Nat → Pl) (w : World), listed.size = ops.size → unl listed ops.size ≤ fuel → q ≤ k → k ≤ ops.size → Closed ops (fun j => listed.getD j false = true) → (∀ i, i < q → listed.getD i true = true) →
  (∀ i, q ≤ i → i < ops.size → ¬ i ∈ fl → listed.getD i true = decide (i < k)) → Ahead ops fl v listed a a' → (∀ i ∈ fl, ∀ o, ops[i]? = some o → ∀ t, o.dst = some t → ∀ w, (execOp a.eval o).run Γ.P w = .ok (.value (v t)) w) →
  Sim Γ st a' as β w → goOps Γ.toEnv Φ ops (ops.toList.drop k) st K → wpAnyIn (Fw ρ) 0 Γ.P .any ops Q fuel listed a w := by
 have opd : ∀ i ∈ fl, ∀ o, ops[i]? = some o → ∀ x ∈ o.op.operands, ∀ u, x = .tmp u → ¬ u ∈ flT ops fl ∧ ¬ u ∈ writesFrom ops q := by
  intro i hi o ho x hx u e
  subst e
  have hu : u ∈ tmpsOf o.op.operands := by
   unfold tmpsOf
   exact List.mem_filterMap.2 ⟨.tmp u, by simpa using hx, rfl⟩
  have hw := (floatsOK_in hs ho (floatsOK_fl hs i hi).1 hi).2.2.2 u hu
  refine ⟨fun hf => hw ?_, hw⟩
  obtain ⟨j, hj, hg⟩ := mem_flT.1 hf
  have hjj := floatsOK_fl hs j hj
  unfold gtmp at hg
  cases hoj : ops[j]? with
  | none => rw [hoj] at hg; cases hg
  | some oj =>
    rw [hoj] at hg
    unfold writesFrom
    refine List.mem_filterMap.2 ⟨oj, ?_, hg⟩
    refine List.mem_iff_getElem?.2 ⟨j - q, ?_⟩
    rw [List.getElem?_drop, Nat.add_sub_cancel' hjj.1]
    simpa using hoj
 have evf : ∀ {listed : Array Bool} {a a' : Act}, Ahead ops fl v listed a a' → ∀ i ∈ fl, ∀ o, ops[i]? = some o → execOp a'.eval o = execOp a.eval o := by
  intro listed a a' hA i hi o ho
  refine execOp_congr o (fun cs b e => ?_) fun x hx => ?_
  ·have := floatsOK_plain hs ho
   rw [e] at this; cases this
  ·cases x with
   | tmp u => exact hA.same u (opd i hi o ho _ hx u rfl).1
   | _ => rfl
 -- addresses ahead of the next one
 have skip : ∀ (n k : Nat) (listed : Array Bool) (st : St) (a a' : Act) (β : Nat → Pl) (w : World), q ≤ k → k + n ≤ ops.size → (∀ i, k ≤ i → i < k + n → i ∈ fl) → Ahead ops fl v listed a a' →
  (∀ i ∈ fl, ∀ o, ops[i]? = some o → ∀ t, o.dst = some t → ∀ w, (execOp a.eval o).run Γ.P w = .ok (.value (v t)) w) → Sim Γ st a' as β w → goOps Γ.toEnv Φ ops (ops.toList.drop k) st K →
  ∃ st' β', Sim Γ st' a' as β' w ∧ goOps Γ.toEnv Φ ops (ops.toList.drop (k + n)) st' K := by
  intro n
  induction n with
  | zero => intro k listed st a a' β w hq hn hf hA hx S h; exact ⟨st, β, S, h⟩
  | succ n ih =>
    intro k listed st a a' β w hq hn hf hA hx S h
    have hk : k < ops.size := by omega
    have ho := Array.getElem?_eq_getElem hk
    have hmem := hf k (Nat.le_refl _) (by omega)
    obtain ⟨_, _, ⟨t, hd, _⟩, _⟩ := floatsOK_in hs ho hq hmem
    have hdrop : ops.toList.drop k = ops[k] :: ops.toList.drop (k + 1) := by
     rw [List.drop_eq_getElem_cons (by simpa using hk)]
     simp
    rw [hdrop] at h
    have hT : t ∈ flT ops fl := mem_flT.2 ⟨k, hmem, by simp [gtmp, ho, hd]⟩
    obtain ⟨ht, hv⟩ := hA.told t hT
    obtain ⟨st1, β1, S1, h1⟩ := float_know hΦ hs ho hq hmem hd (by rw [hA.size]; exact ht) hv (by rw [evf hA k hmem _ ho]; exact hx k hmem _ ho t hd w) S h
    obtain ⟨st2, β2, S2, h2⟩ := ih (k + 1) listed st1 a a' β1 w (by omega) (by omega) (fun i h1 h2 => hf i (by omega) (by omega)) hA hx S1 h1
    exact ⟨st2, β2, S2, by rw [show k + (n + 1) = k + 1 + n by omega]; exact h2⟩
 -- the end
 have fin : ∀ (k : Nat) (listed : Array Bool) (st : St) (a a' : Act) (β : Nat → Pl) (w : World), listed.size = ops.size → q ≤ k → k ≤ ops.size → (∀ i, i < ops.size → listed.getD i true = true) → (∀ i, q ≤ i → i < ops.size → ¬ i ∈ fl → listed.getD i true = decide (i < k)) → Ahead ops fl v listed a a' →
  (∀ i ∈ fl, ∀ o, ops[i]? = some o → ∀ t, o.dst = some t → ∀ w, (execOp a.eval o).run Γ.P w = .ok (.value (v t)) w) → Sim Γ st a' as β w → goOps Γ.toEnv Φ ops (ops.toList.drop k) st K → Q .normal a w := by
  intro k listed st a a' β w hsz hq hk hall hfr hA hx S h
  obtain ⟨st', β', S', h'⟩ := skip (ops.size - k) k listed st a a' β w hq (by omega) (fun i h1 h2 => by
   refine Classical.byContradiction fun hn => ?_
   have := hfr i (by omega) (by omega) hn
   rw [hall i (by omega)] at this
   simp at this; omega) hA hx S h
  rw [List.drop_of_length_le (by simp; omega)] at h'
  have e : a' = a := by
   obtain ⟨hd, hz, hsame, htold, hdone⟩ := hA
   obtain ⟨t1, d1⟩ := a
   obtain ⟨t2, d2⟩ := a'
   simp only at hd hz hsame htold hdone
   subst hd
   congr 1
   apply Array.ext hz
   intro i h1 h2
   have : t2.getD i undef = t1.getD i undef := by
    by_cases hi : i ∈ flT ops fl
    ·obtain ⟨j, hj, hg⟩ := mem_flT.1 hi
     rw [(htold i hi).2]
     refine (hdone j hj ?_ i hg).symm
     rw [getD_tf (by rw [hsz]; exact (floatsOK_fl hs j hj).2) false true]
     exact hall j (floatsOK_fl hs j hj).2
    ·exact hsame i hi
   simpa [Array.getD_eq_getD_getElem?, h1, h2] using this
  exact hQ st' a β' w (e ▸ S') h'
 intro fuel
 induction fuel with
 | zero =>
   intro k listed st a a' β w hsz hf hqk hk hcl hpre hfr hA hx S h
   have hall : ∀ i, i < ops.size → listed.getD i true = true := by
    intro i hi
    cases hl : listed.getD i true with
    | true => rfl
    | false => have := unl_pos hl hi; omega
   refine ⟨?_, fin k listed st a a' β w hsz hqk hk hall hfr hA hx S h⟩
   refine List.eq_nil_iff_forall_not_mem.2 fun j hj => ?_
   obtain ⟨h1, o, ho, _⟩ := mem_ready.1 hj
   rw [hall j (Array.getElem?_eq_some_iff.1 ho).1] at h1
   cases h1
 | succ fuel ih =>
   intro k listed st a a' β w hsz hf hqk hk hcl hpre hfr hA hx S h
   refine ⟨fun hnil => ?_, fun j hj => ?_⟩
   ·refine fin k listed st a a' β w hsz hqk hk (fun i hi => ?_) hfr hA hx S h
    cases hl : listed.getD i true with
    | true => rfl
    | false =>
      exfalso
      obtain ⟨i0, ⟨hi0, hu⟩, hmin⟩ := exists_min (T := fun i => i < ops.size ∧ listed.getD i true = false) ⟨i, hi, hl⟩
      have ho := Array.getElem?_eq_getElem hi0
      have : i0 ∈ Region.ready .any ops listed := by
       refine mem_ready.2 ⟨hu, _, ho, fun e he hb => ?_⟩
       have hlt := (floatsOK_at hs ho).1 e he hb
       rw [getD_tf (by omega) false true]
       cases h : listed.getD e.on true with
       | true => rfl
       | false => have := hmin e.on ⟨by omega, h⟩; omega
      rw [hnil] at this
      cases this
   ·obtain ⟨h1, o, ho, h2⟩ := mem_ready.1 hj
    have hjn := (Array.getElem?_eq_some_iff.1 ho).1
    have hjq : q ≤ j := by
     rcases Nat.lt_or_ge j q with hlt | hge
     ·rw [hpre j hlt] at h1; cases h1
     ·exact hge
    have hset : Closed ops (fun i => (listed.setIfInBounds j true).getD i false = true) := by
     intro m o' hm hlm e he hb
     have mono : ∀ i, listed.getD i false = true → (listed.setIfInBounds j true).getD i false = true := by
      intro i hi
      by_cases eij : j = i
      ·subst eij; exact getD_set_same (by omega) false
      ·rw [getD_set_ne false eij]; exact hi
     by_cases ejm : j = m
     ·subst ejm
      rw [ho] at hm
      cases hm
      exact mono _ (h2 e he hb)
     ·simp only [getD_set_ne false ejm] at hlm
      exact mono _ (hcl m o' hm hlm e he hb)
    have hcount : unl (listed.setIfInBounds j true) ops.size ≤ fuel := by
     have := unl_set (by omega) h1 hjn
     omega
    have hpre' : ∀ i, i < q → (listed.setIfInBounds j true).getD i true = true := fun i hi => by rw [getD_set_ne true (by omega)]; exact hpre i hi
    by_cases hm : j ∈ fl
    ·-- an address
     obtain ⟨⟨ax, hax⟩, hg, ⟨t, hd, huniq⟩, _⟩ := floatsOK_in hs ho hjq hm
     have hgt : gtmp ops j = some t := by simp [gtmp, ho, hd]
     have hT : t ∈ flT ops fl := mem_flT.2 ⟨j, hm, hgt⟩
     obtain ⟨htl, hvt⟩ := hA.told t hT
     simp only [wpOpIn, ho]
     rw [if_pos (by simp [Region.wanted, hg])]
     refine ⟨fun _ _ => trivial, ?_⟩
     rw [semAt_plain (floatsOK_plain hs ho), hx j hm o ho t hd w]
     simp only [Oper.uponIn, hd]
     refine ih k _ st (a.put (some t) (v t)) a' β w (by simp [hsz]) hcount hqk hk hset hpre' (fun i h3 h4 h5 => ?_) ?_ (fun i hi o' ho' t' hd' w' => ?_) S h
     ·rw [getD_set_ne true (by rintro rfl; exact h5 hm)]; exact hfr i h3 h4 h5
     ·refine ⟨by rw [hA.defers]; rfl, by rw [size_put]; exact hA.size, fun u hu => ?_, fun u hu => ?_, fun i hi hli t' ht' => ?_⟩
      ·rw [getD_put, if_neg (by rintro ⟨rfl, _⟩; exact hu hT)]; exact hA.same u hu
      ·rw [size_put]; exact hA.told u hu
      ·rw [getD_put]
       by_cases e : t = t'
       ·subst e; rw [if_pos ⟨rfl, htl⟩]
       ·rw [if_neg (fun x => e x.1)]
        have hne : j ≠ i := by rintro rfl; rw [hgt] at ht'; injection ht' with ht'; exact e ht'
        rw [getD_set_ne false hne] at hli
        exact hA.done i hi hli t' ht'
     ·have ee : execOp (a.put (some t) (v t)).eval o' = execOp a.eval o' := by
       refine execOp_congr o' (fun cs b e => ?_) fun x hx' => ?_
       ·have := floatsOK_plain hs ho'
        rw [e] at this; cases this
       ·cases x with
        | tmp u =>
          show (a.put (some t) (v t)).tmps.getD u undef = a.tmps.getD u undef
          rw [getD_put, if_neg]
          rintro ⟨rfl, _⟩
          exact (opd i hi o' ho' _ hx' _ rfl).1 hT
        | _ => rfl
      rw [ee]
      exact hx i hi o' ho' t' hd' w'
    ·-- the next one
     obtain ⟨hbefore, hlooks⟩ := floatsOK_out hs ho hjq hm hcl h2
     have hkj : k ≤ j := by
      have := hfr j hjq hjn hm
      rw [h1] at this
      simp at this; omega
     have hin : ∀ i, k ≤ i → i < k + (j - k) → i ∈ fl := by
      intro i h3 h4
      refine Classical.byContradiction fun hn => ?_
      have e1 := hbefore i (by omega) (by omega) hn
      have e2 := hfr i (by omega) (by omega) hn
      rw [getD_tf (by omega) false true, e2] at e1
      simp at e1; omega
     obtain ⟨st1, β1, S1, h1'⟩ := skip (j - k) k listed st a a' β w hqk (by omega) hin hA hx S h
     rw [show k + (j - k) = j by omega] at h1'
     have hdrop : ops.toList.drop j = o :: ops.toList.drop (j + 1) := by
      rw [List.drop_eq_getElem_cons (by simpa using hjn)]
      congr 1
      have := (Array.getElem?_eq_some_iff.1 ho).2
      simpa using this
     rw [hdrop] at h1'
     have hstep := goStep (Q := fun _ _ _ => False) (ρ := ρ) hΦ ho S1 h1' (next := fun a' w => ∃ st' β', Sim Γ st' a' as β' w ∧ goOps Γ.toEnv Φ ops (ops.toList.drop (j + 1)) st' K) fun st a β w S h => ⟨st, β, S, h⟩
     -- what it looks at is the same
     have look : ∀ u ∈ o.looksAt ops, a'.tmps.getD u undef = a.tmps.getD u undef := by
      intro u hu
      by_cases hi : u ∈ flT ops fl
      ·obtain ⟨i, hi', hg⟩ := mem_flT.1 hi
       rw [(hA.told u hi).2]
       exact (hA.done i hi' (hlooks u hu i hi' hg) u hg).symm
      ·exact hA.same u hi
     have hev : ∀ x ∈ o.op.operands, a'.eval x = a.eval x := by
      intro x hx'
      cases x with
      | tmp u => exact look u (looksAt_tmp hx')
      | _ => rfl
     have hdst : ∀ t, o.dst = some t → ¬ t ∈ flT ops fl := by
      intro t hd hT
      obtain ⟨i, hi', hg⟩ := mem_flT.1 hT
      have hii := floatsOK_fl hs i hi'
      obtain ⟨_, _, ⟨t2, hd2, huniq⟩, _⟩ := floatsOK_in hs (Array.getElem?_eq_getElem hii.2) hii.1 hi'
      have : t = t2 := by
       have e1 : gtmp ops i = some t2 := by simp [gtmp, Array.getElem?_eq_getElem hii.2, hd2]
       rw [hg] at e1; injection e1
      subst this
      exact huniq j hjq hjn (by rintro rfl; exact hm hi') (by simp [gtmp, ho, hd])
     have hyield : ∀ m, (∃ b, o.guard = some (m, b)) → yielded ops a'.tmps m = yielded ops a.tmps m := by
      rintro m ⟨b, hg⟩
      unfold yielded
      cases hgt : (ops[m]?).bind (·.dst) with
      | none => rfl
      | some g =>
        have hlk := look g (looksAt_guard hg (show gtmp ops m = some g from hgt))
        have hsz' := hA.size
        simp only [Option.bind_some]
        simp only [Array.getD_eq_getD_getElem?] at hlk
        by_cases hgl : g < a.tmps.size
        ·rw [Array.getElem?_eq_getElem hgl, Array.getElem?_eq_getElem (show g < a'.tmps.size by rw [hsz']; exact hgl)] at hlk
         rw [Array.getElem?_eq_getElem hgl, Array.getElem?_eq_getElem (show g < a'.tmps.size by rw [hsz']; exact hgl)]
         simp only [Option.getD_some] at hlk
         rw [hlk]
        ·rw [Array.getElem?_eq_none (show a'.tmps.size ≤ g by rw [hsz']; exact Nat.le_of_not_lt hgl), Array.getElem?_eq_none (show a.tmps.size ≤ g from Nat.le_of_not_lt hgl)]
     have hnext : ∀ (x : Value) (ds1 : List Deferred) (w : World), (∃ st' β', Sim Γ st' ((⟨a'.tmps, ds1⟩ : Act).put o.dst x) as β' w ∧ goOps Γ.toEnv Φ ops (ops.toList.drop (j + 1)) st' K) → wpAnyIn (Fw ρ) 0 Γ.P .any ops Q fuel (listed.setIfInBounds j true) ((⟨a.tmps, ds1⟩ : Act).put o.dst x) w := by
      rintro x ds1 w ⟨st', β', S', h'⟩
      refine ih (j + 1) _ st' _ _ β' w (by simp [hsz]) hcount (by omega) (by omega) hset hpre' (fun i h3 h4 h5 => ?_) ?_ (fun i hi o' ho' t' hd' w' => ?_) S' h'
      ·by_cases e : j = i
       ·subst e; rw [getD_set_same (by omega)]; simp
       ·rw [getD_set_ne true e, hfr i h3 h4 h5]
        by_cases hik : i < k
        ·simp [hik]; omega
        ·have : ¬ i < j + 1 := fun hlt => by
          exact h5 (hin i (by omega) (by omega))
         simp [hik, this]
      ·cases hd : o.dst with
       | none =>
         refine ⟨rfl, hA.size, hA.same, hA.told, fun i hi hli t' ht' => ?_⟩
         have hne : j ≠ i := by rintro rfl; exact hm hi
         rw [getD_set_ne false hne] at hli
         exact hA.done i hi hli t' ht'
       | some t =>
         have hnt := hdst t hd
         refine ⟨rfl, by rw [size_put, size_put]; exact hA.size, fun u hu => ?_, fun u hu => ?_, fun i hi hli t' ht' => ?_⟩
         ·rw [getD_put, getD_put]
          simp only [hA.size]
          split
          ·rfl
          ·exact hA.same u hu
         ·rw [size_put, getD_put, if_neg (by rintro ⟨rfl, _⟩; exact hnt hu)]
          exact hA.told u hu
         ·have hne : j ≠ i := by rintro rfl; exact hm hi
          rw [getD_set_ne false hne] at hli
          rw [getD_put, if_neg (by rintro ⟨rfl, _⟩; exact hnt (mem_flT.2 ⟨i, hi, ht'⟩))]
          exact hA.done i hi hli t' ht'
      ·have ee : execOp ((⟨a.tmps, ds1⟩ : Act).put o.dst x).eval o' = execOp a.eval o' := by
        refine execOp_congr o' (fun cs b e => ?_) fun y hy => ?_
        ·have := floatsOK_plain hs ho'
         rw [e] at this; cases this
        ·cases y with
         | tmp u =>
           show ((⟨a.tmps, ds1⟩ : Act).put o.dst x).tmps.getD u undef = a.tmps.getD u undef
           cases hd : o.dst with
           | none => rfl
           | some t =>
             rw [getD_put, if_neg]
             rintro ⟨rfl, _⟩
             refine (opd i hi o' ho' _ hy _ rfl).2 ?_
             unfold writesFrom
             refine List.mem_filterMap.2 ⟨o, ?_, hd⟩
             refine List.mem_iff_getElem?.2 ⟨j - q, ?_⟩
             rw [List.getElem?_drop, Nat.add_sub_cancel' hjq]
             simpa using ho
         | _ => rfl
       rw [ee]
       exact hx i hi o' ho' t' hd' w'
     simp only [wpOpIn, ho] at hstep ⊢
     have hwant : Region.wanted o (yielded ops a'.tmps) = Region.wanted o (yielded ops a.tmps) := by
      unfold Region.wanted
      cases hg : o.guard with
      | none => rfl
      | some mb =>
        obtain ⟨m, b⟩ := mb
        simp only [hyield m ⟨b, hg⟩]
     rw [hwant] at hstep
     have habout : o.about Γ.P w a'.eval = o.about Γ.P w a.eval := about_congr o w hev
     split
     ·rename_i hw
      rw [if_pos hw] at hstep
      refine ⟨fun _ _ => trivial, ?_⟩
      have hs2 := hstep.2
      have hp := floatsOK_plain hs ho
      rw [semAt_plain hp, execOp_congr o (fun cs b e => by rw [e] at hp; cases hp) hev] at hs2
      rw [semAt_plain hp]
      refine upon_tr (fun x w' hn => ?_) (fun d w' hn => ?_) hs2
      ·have := hnext x a.defers w'
       obtain ⟨ta, da⟩ := a
       obtain ⟨tb, db⟩ := a'
       have hdd : db = da := hA.defers
       subst hdd
       exact this hn
      ·have hdd : a'.defers = a.defers := hA.defers
       rw [hdd] at hn
       exact hnext undef (d :: a.defers) w' hn
     ·rename_i hw
      rw [if_neg hw] at hstep
      refine ⟨fun _ _ => trivial, ?_⟩
      have := hnext undef a.defers w
      obtain ⟨ta, da⟩ := a
      obtain ⟨tb, db⟩ := a'
      have hdd : db = da := hA.defers
      subst hdd
      exact this hstep.2
end
def adrs (E : Env) (s : St) : List SO → Option Tm
 | [] => some []
 | o :: l => match o.dst, o.op with
   | some t, .fieldAddr ty x f => match evFieldAddr E ty (evO E s x) f, adrs E s l with
     | .val d, some r => some ((t, d) :: r)
     | _, _ => none
   | _, _ => none
def flS (ops : Array Oper) (fl : List Nat) : List SO := fl.filterMap fun i => (ops[i]?).map (strip ops)
def tmS (sl : List SO) : List Nat := sl.filterMap (·.dst)
theorem flS_T {ops : Array Oper} {fl : List Nat} : tmS (flS ops fl) = flT ops fl := by
 unfold tmS flS flT gtmp
 induction fl with
 | nil => rfl
 | cons i r ih =>
   simp only [List.filterMap_cons]
   cases h : ops[i]? with
   | none => simpa [h] using ih
   | some o =>
     simp only [h, Option.map_some, Option.bind_some, List.filterMap_cons]
     have : (strip ops o).dst = o.dst := rfl
     rw [this, ih]
def St.puts (s : St) (fs : Tm) : St := ⟨⟨s.c.n, fs ++ s.c.t, s.c.m⟩, s.s, s.h⟩
theorem float_start {Γ : Ctx} {st : St} {a : Act} {as : List Act} {β : Nat → Pl} {w : World} (S : Sim Γ st a as β w) {ty : TypeId} {x : Operand} {f : Nat} {d : D} (h : evFieldAddr Γ.toEnv ty (evO Γ.toEnv st x) f = .val d) :
 ∃ v, RVD w (Im Γ β st.h w) β d v ∧ ∀ w2, (Instr.fieldAt ty (a.eval x) f).run Γ.P w2 = .ok v w2 := by
 have hx := S.eval x
 generalize a.eval x = vx at hx
 generalize evO Γ.toEnv st x = dx at h hx
 unfold evFieldAddr at h
 split at h
 ·rename_i off ft hf
  obtain ⟨gs, g, hu, hg, rfl, rfl⟩ := field_of hf
  split at h
  ·cases h
  ·rename_i hz
   have hz : szT Γ.P g.type ≠ 0 := hz
   split at h
   ·cases h
   ·rename_i hne
    have hne : kindT Γ.P g.type ≠ .other := fun e => hne e
    have key : ∀ (b o : Nat), vx = .pointer (some ⟨b, o, none⟩) → ∀ w2, (Instr.fieldAt ty vx f).run Γ.P w2 = .ok (.pointer (some ⟨b, o + g.offset, none⟩)) w2 := by
     rintro b o rfl w2
     simp [Instr.fieldAt, run_underlying hu, hg, Instr.sureAddr, fieldPlace, run_sizeOf w2 hne, hz, Addr.add_lit]
    split at h
    ·simp only [RVD] at hx
     obtain ⟨b, c, sz, hb, rfl⟩ := hx
     injection h with h
     subst h
     exact ⟨_, ref_ok hb, key _ _ rfl⟩
    ·simp only [RVD] at hx
     obtain ⟨b, c, sz, hb, rfl⟩ := hx
     injection h with h
     subst h
     exact ⟨_, by simp only [RVD]; exact ⟨b, c, sz, hb, by simp [Nat.add_assoc]⟩, key _ _ rfl⟩
    ·cases h
    ·cases h
 ·cases h
theorem sim_puts {Γ : Ctx} {st : St} {a : Act} {as : List Act} {β : Nat → Pl} {w : World} (S : Sim Γ st a as β w) : ∀ (sl : List SO) (fs : Tm), adrs Γ.toEnv st sl = some fs → (tmS sl).Nodup → (∀ t ∈ tmS sl, t < st.c.n) →
 ∃ a', Sim Γ (st.puts fs) a' as β w ∧ a'.defers = a.defers ∧ a'.tmps.size = a.tmps.size ∧ (∀ u, ¬ u ∈ tmS sl → a'.tmps.getD u undef = a.tmps.getD u undef) ∧ (∀ u ∈ tmS sl, u < a'.tmps.size) ∧
  ∀ o ∈ sl, ∀ t ty x f, o.dst = some t → o.op = .fieldAddr ty x f → ∀ w2, (Instr.fieldAt ty (a.eval x) f).run Γ.P w2 = .ok (a'.tmps.getD t undef) w2
 | [], fs, h, _, _ => by
   simp only [adrs, Option.some.injEq] at h
   subst h
   exact ⟨a, S, rfl, rfl, fun _ _ => rfl, fun u hu => by simp [tmS] at hu, fun o ho => by cases ho⟩
 | o :: l, fs, h, hnd, hlt => by
   simp only [adrs] at h
   split at h
   ·rename_i t ty x f hd hop
    split at h
    ·rename_i d r hev hr
     simp only [Option.some.injEq] at h
     subst h
     have htm : tmS (o :: l) = t :: tmS l := by simp [tmS, List.filterMap_cons, hd]
     rw [htm] at hnd hlt
     obtain ⟨hn1, hn2⟩ := List.nodup_cons.1 hnd
     obtain ⟨a', S', e1, e2, e3, e4, e5⟩ := sim_puts S l r hr hn2 fun u hu => hlt u (by simp [hu])
     obtain ⟨v, hv, hrun⟩ := float_start S hev
     have ht : t < st.c.n := hlt t (by simp)
     have hsz : a'.tmps.size = st.c.n := S'.cur.1
     refine ⟨a'.put (some t) v, S'.put ht hv, e1, by rw [size_put]; exact e2, fun u hu => ?_, fun u hu => ?_, fun o' ho' t' ty' x' f' hd' hop' w2 => ?_⟩
     ·rw [htm] at hu
      simp only [List.mem_cons, not_or] at hu
      rw [getD_put, if_neg (fun x => hu.1 x.1.symm)]
      exact e3 u hu.2
     ·rw [size_put]
      rw [htm] at hu
      rcases List.mem_cons.1 hu with rfl | hu
      ·omega
      ·exact e4 u hu
     ·rcases List.mem_cons.1 ho' with rfl | ho'
      ·rw [hd] at hd'; injection hd' with hd'; subst hd'
       rw [hop] at hop'; injection hop' with q1 q2 q3; subst q1 q2 q3
       rw [getD_put, if_pos ⟨rfl, by omega⟩]
       exact hrun w2
      ·have hne : t ≠ t' := by
        rintro rfl
        exact hn1 (List.mem_filterMap.2 ⟨o', ho', hd'⟩)
       rw [getD_put, if_neg (fun x => hne x.1)]
       exact e5 o' ho' t' ty' x' f' hd' hop' w2
    ·cases h
   ·cases h
section
variable {Γ : Ctx} {st : St} {as : List Act} {Φ : Fns} {ρ : Option Nat} {Q : Exit → Act → World → Prop} {ops : Array Oper} {q : Nat} {K : St → Prop} {fl : List Nat} {v : Nat → Value}
theorem phase1F (hΦ : Sound Γ.toEnv Φ) (hs : floatsOK ops q fl = true) (hQ : ∀ st a β w, Sim Γ st a as β w → K st → Q .normal a w) {tF : Tm} (hF : ∀ u, wr ops q u = none → look tF u = look st.c.t u)
 (hnd : (flT ops fl).Nodup) {fs : Tm} (hfs : adrs Γ.toEnv (st.withT tF) (flS ops fl) = some fs) (hdn : dstsOK ops ops.size st.c.n = true) (hc : ∀ i o t, i < q → ops[i]? = some o → o.dst = some t → t < st.c.n ∧ qCheck Γ.toEnv Φ ops st tF o t) (hK : goOps Γ.toEnv Φ ops (ops.toList.drop q) ((st.withT tF).puts fs) K) :
 ∀ (fuel : Nat) (listed : Array Bool) (t' : Tm) (a : Act) (β : Nat → Pl) (w : World), listed.size = ops.size → unl listed ops.size ≤ fuel → (∀ i, q ≤ i → i < ops.size → listed.getD i true = false) → Closed ops (fun k => listed.getD k false = true) →
  Sim Γ (st.withT t') a as β w → (∀ u, look t' u = lookV ops q st.c.t tF listed u) → wpAnyIn (Fw ρ) 0 Γ.P .any ops Q fuel listed a w := by
 have hqn := floatsOK_size hs
 have done : ∀ (fuel : Nat) (listed : Array Bool) (t' : Tm) (a : Act) (β : Nat → Pl) (w : World), listed.size = ops.size → unl listed ops.size ≤ fuel → (∀ i, q ≤ i → i < ops.size → listed.getD i true = false) → Closed ops (fun k => listed.getD k false = true) →
  Sim Γ (st.withT t') a as β w → (∀ u, look t' u = lookV ops q st.c.t tF listed u) → (∀ i, i < q → listed.getD i true = true) → wpAnyIn (Fw ρ) 0 Γ.P .any ops Q fuel listed a w := by
  intro fuel listed t' a β w hsz hf hl hcl S hlook hall
  have hex : ∀ i, i < ops.size → listed.getD i true = decide (i < q) := by
   intro i hi
   by_cases h : i < q
   ·rw [hall i h]; simp [h]
   ·rw [hl i (by omega) hi]; simp [h]
  obtain ⟨β', S'⟩ := (Ent.temps (t' := tF) fun u => by
   left
   rw [hlook u]
   unfold lookV
   split
   ·rename_i i hi
    have := (wr_dst hi).1
    rw [if_pos (by rw [getD_tf (by omega) false true]; exact hall i this)]
   ·rename_i hi
    exact hF u hi) Γ a as β w S
  have hcount := unl_exact hqn hex
  obtain ⟨a', S2, hd, hz, hsame, htold, hex2⟩ := sim_puts S' (flS ops fl) fs hfs (by rw [flS_T]; exact hnd) (fun t ht => by
   rw [flS_T] at ht
   obtain ⟨i, hi, hg⟩ := mem_flT.1 ht
   have hii := floatsOK_fl hs i hi
   have := List.all_eq_true.1 hdn (ops[i]'hii.2) (by rw [List.take_of_length_le (by simp)]; exact Array.mem_toList_iff.2 (Array.getElem_mem _))
   simp only [gtmp, Array.getElem?_eq_getElem hii.2, Option.bind_some] at hg
   rw [hg] at this
   simpa using this)
  refine phaseF (v := fun u => a'.tmps.getD u undef) hΦ hs hQ fuel q listed _ a a' β' w hsz hf (Nat.le_refl _) hqn hcl hall (fun i h1 h2 _ => hex i h2) ⟨hd, hz, fun u hu => hsame u (by rw [flS_T]; exact hu), fun u hu => ⟨?_, rfl⟩, fun i hi hli => ?_⟩ (fun i hi o ho t hdt w2 => ?_) S2 hK
  ·have := htold u (by rw [flS_T]; exact hu)
   rw [← hz]; exact this
  ·have := floatsOK_fl hs i hi
   rw [getD_tf (by omega) false true, hl i (by omega) this.2] at hli
   cases hli
  ·obtain ⟨⟨⟨ty, x, f⟩, hax⟩, _, _, _⟩ := floatsOK_in hs ho (floatsOK_fl hs i hi).1 hi
   have hop : o.op = .fieldAddr ty x f := by
    cases hop : o.op <;> rw [hop] at hax <;> simp [addrOp] at hax
    obtain ⟨rfl, rfl, rfl⟩ := hax; rfl
   have h3 := hex2 (strip ops o) (List.mem_filterMap.2 ⟨i, hi, by rw [ho]; rfl⟩) t ty x f hdt hop w2
   unfold execOp
   rw [hop]
   simp only []
   rw [Sem.run_bind, h3]
   rfl
 intro fuel
 induction fuel with
 | zero =>
   intro listed t' a β w hsz hf hl hcl S hlook
   refine done 0 listed t' a β w hsz hf hl hcl S hlook fun i hi => ?_
   cases h : listed.getD i true with
   | true => rfl
   | false => have := unl_pos h (show i < ops.size by omega); omega
 | succ fuel ih =>
   intro listed t' a β w hsz hf hl hcl S hlook
   by_cases hall : ∀ i, i < q → listed.getD i true = true
   ·exact done (fuel + 1) listed t' a β w hsz hf hl hcl S hlook hall
   ·have hsome : ∃ i, i < q ∧ listed.getD i true = false := by
     refine Classical.byContradiction fun hno => hall fun i hi => ?_
     cases h : listed.getD i true with
     | true => rfl
     | false => exact absurd ⟨i, hi, h⟩ hno
    refine ⟨fun hnil => ?_, fun j hj => ?_⟩
    ·exfalso
     obtain ⟨i, ⟨hi, hu⟩, hmin⟩ := exists_min hsome
     have ho := Array.getElem?_eq_getElem (show i < ops.size by omega)
     have : i ∈ Region.ready .any ops listed := by
      refine mem_ready.2 ⟨hu, _, ho, fun e he hb => ?_⟩
      have hlt := (floatsOK_at hs ho).1 e he hb
      rw [getD_tf (by omega) false true]
      cases h : listed.getD e.on true with
      | true => rfl
      | false => have := hmin e.on ⟨by omega, h⟩; omega
     rw [hnil] at this
     cases this
    ·obtain ⟨h1, o, ho, h2⟩ := mem_ready.1 hj
     have hjn := (Array.getElem?_eq_some_iff.1 ho).1
     have hjq : j < q := by
      rcases Nat.lt_or_ge j q with h | h
      ·exact h
      ·exfalso
       obtain ⟨i, hi, hu⟩ := hsome
       have := (floatsOK_at hs ho).2.2 h _ hcl h2 i (by omega)
       rw [getD_tf (by omega) false true, hu] at this
       cases this
     obtain ⟨⟨⟨t, hd, hw⟩, _⟩, hlooks⟩ := (floatsOK_at hs ho).2.1 hjq
     obtain ⟨htn, hck⟩ := hc j o t hjq ho hd
     refine qStep hΦ ho hd htn S (fun u hu => ?_) hck fun a' β' w' S' => ?_
     ·rw [hlook u]
      unfold lookV
      split
      ·rename_i i hi
       obtain ⟨e, he, e1, e2⟩ := hangs_ok (hlooks u hu i hi)
       rw [if_pos (by rw [← e1]; exact h2 e he e2)]
      ·rename_i hi
       exact (hF u hi).symm
     ·refine ih (listed.setIfInBounds j true) ((t, look tF t) :: t') a' β' w' (by simp [hsz]) ?_ (fun i hi hin => by rw [getD_set_ne true (by omega)]; exact hl i hi hin) ?_ S' fun u => ?_
      ·have := unl_set (by omega) h1 hjn
       omega
      ·intro k o' hk hlk e he hb
       have mono : ∀ i, listed.getD i false = true → (listed.setIfInBounds j true).getD i false = true := by
        intro i hi
        by_cases eij : j = i
        ·subst eij; exact getD_set_same (by omega) false
        ·rw [getD_set_ne false eij]; exact hi
       by_cases ejk : j = k
       ·subst ejk
        rw [ho] at hk
        cases hk
        exact mono _ (h2 e he hb)
       ·rw [getD_set_ne false ejk] at hlk
        exact mono _ (hcl k o' hk hlk e he hb)
      ·simp only [look]
       by_cases e : t = u
       ·subst e
        rw [if_pos rfl]
        unfold lookV
        rw [hw]
        simp only []
        rw [if_pos (getD_set_same (by omega) false)]
       ·rw [if_neg e, hlook u]
        unfold lookV
        split
        ·rename_i i hi
         have hne : j ≠ i := by
          rintro rfl
          have := (wr_dst hi).2
          simp only [gtmp, ho, Option.bind_some, hd, Option.some.injEq] at this
          exact e this
         rw [getD_set_ne false hne]
        ·rfl
end
theorem runQ_allF {E : Env} {Φ : Fns} {ops : Array Oper} {q : Nat} {K : St → Prop} {fl : List Nat} (hs : floatsOK ops q fl = true) : ∀ (l : List Oper) (i : Nat) (s : St), (ops.toList.take q).drop i = l → runQ E Φ ops l s K →
 ∃ tF : Tm, K (s.withT tF) ∧ (∀ u, (∀ j, i ≤ j → wr ops q u ≠ some j) → look tF u = look s.c.t u) ∧ ∀ j o t, i ≤ j → j < q → ops[j]? = some o → o.dst = some t → qCheck E Φ ops s tF o t
 | [], i, s, hl, h => by
   refine ⟨s.c.t, h, fun u _ => rfl, fun j o t hij hjq ho _ => ?_⟩
   have hqn := floatsOK_size hs
   have := congrArg List.length hl
   simp at this
   omega
 | o :: l, i, s, hl, h => by
   have hqn := floatsOK_size hs
   have hi : i < q := by
    have := congrArg List.length hl
    simp at this
    omega
   have ho : ops[i]? = some o := by
    have := congrArg List.head? hl
    rw [List.head?_drop, List.getElem?_take, if_pos hi] at this
    simpa using this
   have hl' : (ops.toList.take q).drop (i + 1) = l := by
    rw [← List.tail_drop, hl]; rfl
   obtain ⟨⟨⟨t, hd, hw⟩, hgd⟩, hlooks⟩ := (floatsOK_at hs ho).2.1 hi
   have hafter := (floatsOK_at hs ho).1
   have hbefore : ∀ u ∈ o.looksAt ops, ∀ j, wr ops q u = some j → j < i := by
    intro u hu j hj
    obtain ⟨e, he, e1, e2⟩ := hangs_ok (hlooks u hu j hj)
    rw [← e1]; exact hafter e he e2
   -- what is done with a value of t, from a state that looks as s
   have fin : ∀ (s0 : St) (t0 : Tm) (d : D), s0 = s.withT t0 → (∀ u, look s0.c.t u = look s.c.t u) → runQ E Φ ops l (s0.put t d) K → (∀ tF : Tm, (∀ u, (∀ j, i + 1 ≤ j → wr ops q u ≠ some j) → u ≠ t → look tF u = look s.c.t u) → look tF t = d → qCheck E Φ ops s tF o t) →
    ∃ tF : Tm, K (s.withT tF) ∧ (∀ u, (∀ j, i ≤ j → wr ops q u ≠ some j) → look tF u = look s.c.t u) ∧ ∀ j o t, i ≤ j → j < q → ops[j]? = some o → o.dst = some t → qCheck E Φ ops s tF o t := by
    intro s0 t0 d hs0 hlk hrun hck
    obtain ⟨tF, h1, h2, h3⟩ := runQ_allF hs l (i + 1) (s0.put t d) hl' hrun
    subst hs0
    refine ⟨tF, h1, fun u hu => ?_, fun j o' t' hij hjq ho' hd' => ?_⟩
    ·rw [h2 u fun j hj => hu j (by omega), look_put_ne, hlk u]
     rintro rfl
     exact hu i (Nat.le_refl _) hw
    ·rcases Nat.lt_or_ge i j with hlt | hge
     ·have := h3 j o' t' hlt hjq ho' hd'
      rw [show ((s.withT t0).put t d) = s.withT ((t, d) :: t0) from rfl, qCheck_withT] at this
      exact this
     ·have e : i = j := by omega
      subst e
      rw [ho] at ho'; injection ho' with ho'; subst ho'
      rw [hd] at hd'; injection hd' with hd'; subst hd'
      refine hck tF (fun u hu hne => ?_) ?_
      ·rw [h2 u hu, look_put_ne (Ne.symm hne), hlk u]
      ·rw [h2 t, look_put_eq]
       intro j hj e
       rw [hw] at e; injection e with e; omega
   -- the operands look the same
   have hopd : ∀ (tF : Tm) (s0 : St), (∀ u, look s0.c.t u = look s.c.t u) → (∀ u, (∀ j, i + 1 ≤ j → wr ops q u ≠ some j) → u ≠ t → look tF u = look s.c.t u) → ∀ x ∈ o.op.operands, evO E s0 x = evO E (s.withT tF) x := by
    intro tF s0 hlk h x hx
    refine evO_same fun u e => ?_
    subst e
    have hu : u ∈ o.looksAt ops := by
     unfold Oper.looksAt
     exact List.mem_append_left _ (List.mem_filterMap.2 ⟨.tmp u, by simpa using hx, rfl⟩)
    rw [hlk u]
    refine (h u (fun j hj e => ?_) ?_).symm
    ·have := hbefore u hu j e; omega
    ·rintro rfl
     have := hbefore _ hu i hw; omega
   have hrunok : ∀ (s0 : St) (t0 : Tm), s0 = s.withT t0 → (∀ u, look s0.c.t u = look s.c.t u) → ∀ (F : D → Prop), (evQ E Φ (evO E s0) s o.op).run F → ∃ d, F d ∧ ∀ tF : Tm, (∀ u, (∀ j, i + 1 ≤ j → wr ops q u ≠ some j) → u ≠ t → look tF u = look s.c.t u) → look tF t = d → (evQ E Φ (evO E (s.withT tF)) s o.op).ok fun d => look tF t = d := by
    intro s0 t0 hs0 hlk F hr
    obtain ⟨d, h1, h2⟩ := QA.run_ok hr
    refine ⟨d, h1, fun tF hF ht => ?_⟩
    rw [← evQ_congr o.op (hopd tF s0 hlk hF)]
    exact QA.ok_mono (fun d' e => ht.trans e) h2
   unfold runQ at h
   rw [hd] at h
   simp only [] at h
   cases hg : o.guard with
   | none =>
     rw [hg] at h
     simp only [] at h
     obtain ⟨d, h1, h2⟩ := hrunok s s.c.t rfl (fun _ => rfl) _ h
     refine fin s s.c.t d rfl (fun _ => rfl) h1 fun tF hF ht => ?_
     unfold qCheck
     rw [hg]
     exact h2 tF hF ht
   | some jb =>
     obtain ⟨j, b⟩ := jb
     rw [hg] at h
     simp only [] at h
     split at h
     ·exact h.elim
     ·rename_i g hgt
      have hgl : ∀ tF : Tm, (∀ u, (∀ j, i + 1 ≤ j → wr ops q u ≠ some j) → u ≠ t → look tF u = look s.c.t u) → look tF g = look s.c.t g := by
       intro tF hF
       have hu : g ∈ o.looksAt ops := by
        unfold Oper.looksAt
        refine List.mem_append_right _ ?_
        rw [hg]
        simp only []
        rw [show (ops[j]?).bind (·.dst) = some g from hgt]
        simp
       refine hF g (fun j hj e => ?_) ?_
       ·have := hbefore g hu j e; omega
       ·rintro rfl
        have := hbefore _ hu i hw; omega
      split at h
      ·rename_i c hc
       by_cases hcb : c = b
       ·subst hcb
        obtain ⟨d, h1, h2⟩ := hrunok (s.put g (.dat (.bool c))) _ rfl (fun u => look_put_same hc) _ (h.1 rfl)
        refine fin (s.put g (.dat (.bool c))) _ d rfl (fun u => look_put_same hc) h1 fun tF hF ht => ?_
        unfold qCheck
        rw [hg]
        simp only [hgt, hgl tF hF, hc, qGuard]
        exact ⟨fun _ => h2 tF hF ht, fun e => by cases c <;> cases e⟩
       ·have hcb' : c = !b := by cases c <;> cases b <;> simp_all
        have h1 := h.2 hcb'
        rw [← hcb'] at h1
        refine fin (s.put g (.dat (.bool c))) _ _ rfl (fun u => look_put_same hc) h1 fun tF hF ht => ?_
        unfold qCheck
        rw [hg]
        simp only [hgt, hgl tF hF, hc, qGuard]
        exact ⟨fun e => absurd e hcb, fun _ => ht⟩
      ·rename_i hc
       refine fin s s.c.t _ rfl (fun _ => rfl) h fun tF hF ht => ?_
       unfold qCheck
       rw [hg]
       simp only [hgt, hgl tF hF, hc, qGuard]
       exact ht
      ·exact h.elim
section
variable {E : Env} {Φ : Fns} {ρ : Option Nat} {st : St} {K : Exit → St → Prop}
theorem VC.drawFN {id : Nat} {ops : Array Oper} (hΦ : Sound E Φ) (hm : E.P.follows .mixedOrders = true) (q : Nat) (fl : List Nat) {sl : List SO} (hsl : flS ops fl = sl) (hs : floatsOK ops q fl = true) (hnd : (flT ops fl).Nodup) (hn : dstsOK ops ops.size st.c.n = true)
 (h : ∀ L : St → Prop, (∀ s fs, adrs E s sl = some fs → (∀ K' : St → Prop, (∀ s, K .normal s → K' s) → goL E Φ ((ops.toList.drop q).map (strip ops)) (s.puts fs) K') → L s) → runL E Φ ((ops.toList.take q).map (strip ops)) st L) :
 VC E ρ (.region id ops true) st K := fun Γ a as β w hΓ S => by
 subst hΓ
 subst hsl
 refine wpIn_region_any hm ?_
 have hqn := floatsOK_size hs
 have hr := h (fun s => ∃ fs, adrs Γ.toEnv s (flS ops fl) = some fs ∧ ∀ K' : St → Prop, (∀ s, K .normal s → K' s) → goL Γ.toEnv Φ ((ops.toList.drop q).map (strip ops)) (s.puts fs) K') fun s fs a b => ⟨fs, a, b⟩
 rw [runL_ok] at hr
 obtain ⟨tF, ⟨fs, hfs, hK⟩, hF, hq⟩ := runQ_allF hs _ 0 st rfl hr
 refine phase1F (Γ := Γ) (st := st) (as := as) (Q := fun e a w => ∃ st' β', Sim Γ st' a as β' w ∧ K e st') hΦ hs (K := K .normal) (fun st a β w S k => ⟨st, β, S, k⟩) (tF := tF) (fun u hu => hF u fun j _ e => ?_) hnd hfs hn (fun i o t hi ho ht => ⟨?_, hq i o t (Nat.zero_le _) hi ho ht⟩) ?_
  ops.size (Array.replicate ops.size false) st.c.t a β w.drew (by simp) (unl_le _ _) (fun i _ hi => by simp [Array.getD_eq_getD_getElem?, hi]) (fun k o _ hk => by simp [Array.getD_eq_getD_getElem?, Array.getElem?_replicate] at hk; split at hk <;> simp at hk) S.drew (fun u => ?_)
 ·rw [hu] at e; cases e
 ·have : o ∈ ops.toList.take ops.size := by
   refine List.mem_iff_getElem?.2 ⟨i, ?_⟩
   rw [List.getElem?_take, if_pos (Array.getElem?_eq_some_iff.1 ho).1]
   simpa using ho
  have := List.all_eq_true.1 hn o this
  rw [ht] at this
  simpa using this
 ·have := hK (K .normal) fun _ k => k
  rw [goL_ok] at this
  exact this
 ·unfold lookV
  split
  ·rename_i i hi
   have := (wr_dst hi).1
   rw [if_neg (by simp [Array.getD_eq_getD_getElem?, show i < ops.size by omega])]
  ·rfl
theorem VC.drawF {id : Nat} {ops : Array Oper} {y : Code} (hΦ : Sound E Φ) (hm : E.P.follows .mixedOrders = true) (q : Nat) (fl : List Nat) {sl : List SO} (hsl : flS ops fl = sl) (hs : floatsOK ops q fl = true) (hnd : (flT ops fl).Nodup) (hn : dstsOK ops ops.size st.c.n = true) (ts : List Nat)
 (h : ∀ L : St → Prop, (∀ s fs, adrs E s sl = some fs → (∀ K' : St → Prop, (∀ s, VC E ρ y (s.keep ts) K → K' s) → goL E Φ ((ops.toList.drop q).map (strip ops)) (s.puts fs) K') → L s) → runL E Φ ((ops.toList.take q).map (strip ops)) st L) :
 VC E ρ (.seq (.region id ops true) y) st K :=
 VC.seq (VC.drawFN hΦ hm q fl hsl hs hnd hn fun L hL => h L fun s fs hfs a => hL s fs hfs fun K' hK => a K' fun s hs => hK s (hs.ent (Ent.keep s ts)))
end
attribute [go_sem] adrs St.puts
end Go.Proofs.YtpajpkbipagjpaaGreatDoor.Vm
namespace Go.Proofs.YtpajpkbipagjpaaGreatDoor.Vm
open Go Go.RowKit Go.IntWalk
section
variable {E : Env} {Φ : Fns} {ρ : Option Nat} {st st' : St} {K : Exit → St → Prop} {ts : List Nat} {T q p p' : Prop} {f : St → Prop}
theorem rF {id n : Nat} {ops : Array Oper} {y : Code} {sl : List SO} {Q : (St → Prop) → Prop} (hΦ : Sound E Φ) (fl : List Nat) (ts : List Nat) (e : T)
 (h : ∀ L : St → Prop, (∀ s fs, adrs E s sl = some fs → (∀ K' : St → Prop, (∀ s, VC E ρ y (s.keep ts) K → K' s) → goL E Φ ((ops.toList.drop n).map (strip ops)) (s.puts fs) K') → L s) → Q L) (k : VC E ρ (.seq (.region id ops true) y) st K → p := by exact fun h => nx h)
 (hm : E.P.follows .mixedOrders = true := by kernel_rfl) (hsl : flS ops fl = sl := by
  simp only [flS, List.filterMap_cons, List.filterMap_nil, List.getElem?_toArray, List.getElem?_cons_succ, List.getElem?_cons_zero, Option.map_some, strip, stripG]
  exact rfl) (hs : floatsOK ops n fl = true := by kernel_rfl) (hnd : (flT ops fl).Nodup := by decide) (hn : dstsOK ops ops.size st.c.n = true := by kernel_rfl)
 (k2 : ∀ L : St → Prop, T → Q L → runL E Φ ((ops.toList.take n).map (strip ops)) st L := by
  intro L e h
  dsimp only [List.append, List.take, List.drop, List.map, strip, stripG]
  try simp only [gtmp, List.getElem?_toArray, List.getElem?_cons_succ, List.getElem?_cons_zero, Option.bind_some]
  simp -implicitDefEqProofs only [go_sem, e]
  exact h) : p := k (VC.drawF hΦ hm n fl hsl hs hnd hn ts fun L hL => k2 L e (h L hL))
theorem lfF {n : Nat} {ops : Array Oper} {y : Code} {L : St → Prop} {s : St} {sl : List SO} {fs : Tm} {Q : (St → Prop) → Prop} (hL : ∀ s fs, adrs E s sl = some fs → (∀ K' : St → Prop, (∀ s, VC E ρ y (s.keep ts) K → K' s) → goL E Φ ((ops.toList.drop n).map (strip ops)) (s.puts fs) K') → L s) (e : T)
 (h : ∀ K' : St → Prop, (∀ s, VC E ρ y (s.keep ts) K → K' s) → Q K') (hfs : adrs E s sl = some fs := by (simp -implicitDefEqProofs only [go_sem]; exact rfl))
 (k : ∀ K' : St → Prop, T → Q K' → goL E Φ ((ops.toList.drop n).map (strip ops)) (s.puts fs) K' := by
  intro K' e h
  dsimp only [List.append, List.drop, List.map, strip, stripG]
  try simp only [gtmp, List.getElem?_toArray, List.getElem?_cons_succ, List.getElem?_cons_zero, Option.bind_some]
  simp -implicitDefEqProofs only [go_sem, e]
  exact h) : L s := hL s fs hfs fun K' hK => k K' e (h K' hK)
theorem fi (e : T) {q1 : Prop} (h : q) (k : q1 → p := by exact fun h => nx h) (k2 : T → q → q1 := by
 intro e h
 simp -implicitDefEqProofs only [go_sem, e]
 try simp -implicitDefEqProofs only [go_sem, List.cons.injEq, Data.int.injEq, Data.bool.injEq, Data.agg.injEq, Data.lst.injEq, Data.str.injEq, e]
 exact h) : p := k (k2 e h)
theorem nlc {c : Code} (l0 i l e' sz : Nat) {cs : List D} (hq : q) (hm : st.noMark l := by (simp -implicitDefEqProofs only [go_sem]; try decide)) (hf : find st.h l0 = some (.cells cs false) := by (simp -implicitDefEqProofs only [go_sem]; exact rfl)) (hi : cs[i]? = some .nilsl := by rfl)
 (hsz : 0 < sz := by decide) (hl : l0 ≠ l := by decide) (k : q → VC E ρ c ((st.add l (.arr e' sz [] 0)).setB l0 (.cells ((D.erases l cs).set i (.sl l 0 0)) false)) K := by
  intro h
  apply VC.atR h
  simp -implicitDefEqProofs only [go_sem]
  exact rfl) : VC E ρ c st K := VC.ent (Ent.nilC l0 i l e' sz hsz hm hl hf hi) (k hq)
theorem nlt {c : Code} (t l e' sz : Nat) (hq : q) (hm : st.noMark l := by (simp -implicitDefEqProofs only [go_sem]; try decide)) (ht : look st.c.t t = .nilsl := by (simp -implicitDefEqProofs only [go_sem]; try exact rfl))
 (hsz : 0 < sz := by decide) (k : q → VC E ρ c ((st.add l (.arr e' sz [] 0)).put t (.sl l 0 0)) K := by
  intro h
  apply VC.atR h
  simp -implicitDefEqProofs only [go_sem]
  exact rfl) : VC E ρ c st K := VC.ent (Ent.nilT t l e' sz hsz hm ht) (k hq)
end
end Go.Proofs.YtpajpkbipagjpaaGreatDoor.Vm
namespace Go.Proofs.YtpajpkbipagjpaaGreatDoor.Vm
open Go Go.RowKit
theorem Pure.of_pure {E : Env} {g : Nat} {p : PFn} {ss : List Sig} {pre : Fun ss Prop} {res : Fun ss (List Data)} (hp : Pure E g p) (h : allS (fun ds r => p.pre ds ∧ p.res ds = r) ss pre res id) : Pure E g (PF ss pre res) := by
 intro w J args ds hJ hG hR hpre
 have h1 : p.pre ds ∧ p.res ds = ap [] ss res ds := allS_ok (z := []) ss pre res id h ds hpre
 rw [PF_res, ← h1.2]
 exact hp w J args ds hJ hG hR h1.1
end Go.Proofs.YtpajpkbipagjpaaGreatDoor.Vm
namespace Go.Proofs.YtpajpkbipagjpaaGreatDoor.Vm
open Go Go.RowKit Go.IntWalk
section
variable {E : Env} {Φ : Fns} {ρ : Option Nat} {st st1 : St} {K : Exit → St → Prop} {T q p : Prop}
theorem ec {g : Nat} {ds : List D} {K : D → St → Prop} {fn : Func} {c : Code} {rs : List ResultVar} {n : Nat} (hf : E.P.funcs[g]? = some fn) (hb : fn.body = some c) (hrs : fn.results.toList = rs) (hnt : fn.ntmps = n)
 (h : VC E none c st1 (retK E.P rs K)) (hn : ds.length ≤ n := by exact Nat.le_of_ble_eq_true rfl) (hs : st.enter n ds = st1 := by (simp -implicitDefEqProofs only [go_sem]; exact rfl)) : VCcall E g ds st K :=
 VCcall.enter hf hb hrs hnt hn (hs ▸ h)
theorem rt (e : T) (h : q) (k : T → q → p := by
 intro e h
 simp -implicitDefEqProofs only [go_sem, Rest, e]
 exact h) : p := k e h
theorem re {g : Operand} {ps : Array Tmp} {assign body : Code} {f : Nat} {ys : List D} {fn : Func} {c : Code} {rs : List ResultVar} {n : Nat} {s1 : Code → Code → St} (m l : Nat) (hf : E.P.funcs[f]? = some fn) (hb : fn.body = some c) (hrs : fn.results.toList = rs) (hnt : fn.ntmps = n)
 (h : ∀ A B, A = assign → B = body → VC E none c (s1 A B) (retK E.P rs (fun _ s => aftS E none l K s)))
 (hml : m ≠ l := by omega) (hm : st.noMark m := by (simp -implicitDefEqProofs only [go_sem]; try decide)) (hl : (st.add m .defer).noMark l := by (simp -implicitDefEqProofs only [go_sem]; try decide)) (hfr : find st.h l = none := by (simp -implicitDefEqProofs only [go_sem]))
 (hc : callable E.P f = true := by kernel_rfl) (hg : ∀ A B, evO E (st.ranged m l ps.toList A B) g = .fn (.func f) [] ys := by (intro A B; simp -implicitDefEqProofs only [go_sem]; exact rfl))
 (hn : (D.yld l :: ys).length ≤ n := by exact Nat.le_of_ble_eq_true rfl) (hs : ∀ A B, (st.ranged m l ps.toList A B).enter n (.yld l :: ys) = s1 A B := by (intro A B; simp -implicitDefEqProofs only [go_sem]; exact rfl)) : VC E none (.rangeFunc g ps assign body) st K :=
 VC.rangeO m l hml hm hl hfr hc hg fun A B hA hB => VCcall.enter hf hb hrs hnt hn (hs A B ▸ h A B hA hB)
theorem yd {l n : Nat} {tm : Tm} {ps : List Tmp} {ds : List D} {A B assign : Code} {p0 : Option Code} {K : D → St → Prop} (hA : A = assign) (h : VC E (some l) assign st1 (begK E l B K))
 (hf : find st.h l = some (.loop tm n ps A B .ready p0) := by (simp -implicitDefEqProofs only [go_sem]; exact rfl)) (hlen : ds.length = ps.length := by rfl) (hps : ∀ p ∈ ps, p < n := by decide)
 (hs : st.round l tm n ps ds = st1 := by (simp -implicitDefEqProofs only [go_sem]; exact rfl)) : VCyield E l ds st K :=
 VCyield.round hf hlen hps (hs ▸ hA ▸ h)
theorem yb {l n : Nat} {tm : Tm} {ps : List Tmp} {A B body : Code} {p0 : Option Code} {K : D → St → Prop} (hB : B = body) (h : VC E (some l) body st1 (endK l K))
 (hf : find st.h l = some (.loop tm n ps A B .ready p0) := by (simp -implicitDefEqProofs only [go_sem]; exact rfl))
 (hs : st.setB l (.loop tm n ps A B .busy p0) = st1 := by (simp -implicitDefEqProofs only [go_sem]; exact rfl)) : begK E l B K .normal st := by
 show begS E l B K st
 unfold begS
 rw [hf]
 show VC E (some l) B (st.setB l (.loop tm n ps A B .busy p0)) (endK l K)
 rw [hs, hB]; exact h
theorem ya {l n : Nat} {tm : Tm} {ps : List Tmp} {A B : Code} (h : K .normal st1) (hf : find st.h l = some (.loop tm n ps A B .ready none) := by (simp -implicitDefEqProofs only [go_sem]; exact rfl))
 (hs : st.setB l (.loop tm n ps A B .exhausted none) = st1 := by (simp -implicitDefEqProofs only [go_sem]; exact rfl)) : aftS E ρ l K st := by
 unfold aftS
 rw [hf]
 show K .normal (st.setB l (.loop tm n ps A B .exhausted none))
 rw [hs]; exact h
theorem yc {l n : Nat} {tm : Tm} {ps : List Tmp} {A B c : Code} (h : VC E ρ c st1 K) (hf : find st.h l = some (.loop tm n ps A B .done (some c)) := by (simp -implicitDefEqProofs only [go_sem]; exact rfl))
 (hs : st.setB l (.loop tm n ps A B .exhausted (some c)) = st1 := by (simp -implicitDefEqProofs only [go_sem]; exact rfl)) : aftS E ρ l K st := by
 unfold aftS
 rw [hf]
 show VC E ρ c (st.setB l (.loop tm n ps A B .exhausted (some c))) K
 rw [hs]; exact h
theorem rBL {id : Nat} {ops : Array Oper} {Q : (St → Prop) → Prop} (hΦ : Sound E Φ) (e : T) (h : ∀ K' : St → Prop, (∀ s, K .normal s → K' s) → Q K') (k : VC E ρ (.region id ops false) st K → p := by exact fun h => nx h)
 (k2 : ∀ K' : St → Prop, T → Q K' → goL E Φ (ops.toList.map (strip ops)) st K' := by
  intro K' e h
  dsimp only [List.append, List.take, List.drop, List.map, strip, stripG]
  try simp only [gtmp, List.getElem?_toArray, List.getElem?_cons_succ, List.getElem?_cons_zero, Option.bind_some]
  simp -implicitDefEqProofs only [go_sem, e]
  exact h) : p := k (VC.regLast hΦ fun K' hK => k2 K' e (h K' hK))
theorem lfL {K' : St → Prop} {s : St} (hK : ∀ s, K .normal s → K' s) (e : T) (h : q) (k : T → q → K .normal s := by
 intro e h
 apply K_atR h
 try simp -implicitDefEqProofs only [go_sem, e]
 try simp (disch := omega) only [i64_in, u64_in, tmodN, tdivN]
 exact rfl) : K' s := hK s (k e h)
end
end Go.Proofs.YtpajpkbipagjpaaGreatDoor.Vm
namespace Go.Proofs.YtpajpkbipagjpaaGreatDoor.Vm
open Go Go.RowKit Go.IntWalk
section
variable {E : Env} {Φ : Fns} {ρ : Option Nat} {st st1 : St} {K : Exit → St → Prop} {T q p : Prop}
theorem rdA {id l : Nat} {ops : Array Oper} {y : Code} {zs : List D} (hΦ : Sound E Φ) (n tq ty : Nat) (ts : List Nat) (e : T) (h : q) (k : VC E ρ (.seq (.region id ops true) y) st K → p := by exact fun h => nx h)
 (hm : E.P.follows .mixedOrders = true := by kernel_rfl) (hs : quietOK ops (n + 1) = true := by kernel_rfl) (hn : dstsOK ops (n + 1) st.c.n = true := by kernel_rfl)
 (ha : ∃ oa, ops[n]? = some oa ∧ oa.op = .alloc ty ∧ oa.guard = none ∧ oa.dst = some tq := by exact ⟨_, rfl, rfl, rfl, rfl⟩) (hl : fresh st.h = l := by (simp -implicitDefEqProofs only [go_sem, Nat.reduceLT, Nat.reduceAdd, Nat.reduceEqDiff, reduceIte, Nat.reduceMul, Nat.reduceSub, reduceCtorEq, Int.reduceNe, Int.reduceEq, ne_eq, Nat.reduceLeDiff, Nat.reduceMod, Nat.reduceDiv]; exact rfl))
 (hz : zeroT E.P ty = some zs := by (simp -implicitDefEqProofs only [go_sem, Nat.reduceLT, Nat.reduceAdd, Nat.reduceEqDiff, reduceIte, Nat.reduceMul, Nat.reduceSub, reduceCtorEq, Int.reduceNe, Int.reduceEq, ne_eq, Nat.reduceLeDiff, Nat.reduceMod, Nat.reduceDiv]; exact rfl)) (hnm : st.noMark l := by (simp -implicitDefEqProofs only [go_sem, Nat.reduceLT, Nat.reduceAdd, Nat.reduceEqDiff, reduceIte, Nat.reduceMul, Nat.reduceSub, reduceCtorEq, Int.reduceNe, Int.reduceEq, ne_eq, Nat.reduceLeDiff, Nat.reduceMod, Nat.reduceDiv]; try decide)) (hno : find st.h l = none := by (simp -implicitDefEqProofs only [go_sem, Nat.reduceLT, Nat.reduceAdd, Nat.reduceEqDiff, reduceIte, Nat.reduceMul, Nat.reduceSub, reduceCtorEq, Int.reduceNe, Int.reduceEq, ne_eq, Nat.reduceLeDiff, Nat.reduceMod, Nat.reduceDiv]; try rfl))
 (hE0 : Tm.erase l st.c.t = st.c.t := by (simp -implicitDefEqProofs only [go_sem, Nat.reduceLT, Nat.reduceAdd, Nat.reduceEqDiff, reduceIte, Nat.reduceMul, Nat.reduceSub, reduceCtorEq, Int.reduceNe, Int.reduceEq, ne_eq, Nat.reduceLeDiff, Nat.reduceMod, Nat.reduceDiv]; try rfl)) (hE1 : frsErase l st.s = st.s := by (simp -implicitDefEqProofs only [go_sem, Nat.reduceLT, Nat.reduceAdd, Nat.reduceEqDiff, reduceIte, Nat.reduceMul, Nat.reduceSub, reduceCtorEq, Int.reduceNe, Int.reduceEq, ne_eq, Nat.reduceLeDiff, Nat.reduceMod, Nat.reduceDiv]; try rfl)) (hE2 : hErase l st.h = st.h := by (simp -implicitDefEqProofs only [go_sem, Nat.reduceLT, Nat.reduceAdd, Nat.reduceEqDiff, reduceIte, Nat.reduceMul, Nat.reduceSub, reduceCtorEq, Int.reduceNe, Int.reduceEq, ne_eq, Nat.reduceLeDiff, Nat.reduceMod, Nat.reduceDiv]; try rfl))
 (k2 : T → Hid q → ∀ L : St → Prop, (∀ s, Tm.erase l s.c.t = s.c.t → (∀ K' : St → Prop, (∀ s, VC E ρ y (s.keep ts) K → K' s) → goL E Φ ((ops.toList.drop n).map (strip ops)) s K') → L s) → runL E Φ ((ops.toList.take n).map (strip ops)) st L := by
  intro e h L hL
  dsimp only [List.append, List.take, List.drop, List.map, strip, stripG]
  try simp only [gtmp, List.getElem?_toArray, List.getElem?_cons_succ, List.getElem?_cons_zero, Option.bind_some]
  simp -implicitDefEqProofs only [go_sem, e]
  repeat' first
   | (refine hL _ (by first | rfl | (simp -implicitDefEqProofs only [go_sem, Nat.reduceLT, Nat.reduceAdd, Nat.reduceEqDiff, reduceIte, Nat.reduceMul, Nat.reduceSub, reduceCtorEq, Int.reduceNe, Int.reduceEq, ne_eq, Nat.reduceLeDiff, Nat.reduceMod, Nat.reduceDiv]; done)) ?_; intro K' hK; dsimp only [List.append, List.drop, List.map, strip, stripG]; simp -implicitDefEqProofs only [go_sem, e])
   | (refine hK _ ?_; apply VC.atR h.out; (try simp -implicitDefEqProofs only [go_sem, e]); (try simp (disch := omega) only [i64_in, u64_in, tmodN, tdivN]); exact rfl)
   | with_reducible apply And.intro
   | exact sd
   | exact sde e
   | exact sdp e
   | ((first | with_reducible refine goA_id ?_ | with_reducible refine runA_id ?_); simp -implicitDefEqProofs (disch := omega) only [numsD_at, bytesD_at, i64_in, u64_in, tmodN, tdivN, e]; simp -implicitDefEqProofs only [go_sem, e])
   | fail) : p := k (VC.drawA1 hΦ hm n l tq ty hs hn ha hl hz hnm hno hE0 hE1 hE2 ts (k2 e ⟨h⟩))
end
end Go.Proofs.YtpajpkbipagjpaaGreatDoor.Vm
namespace Go.Proofs.YtpajpkbipagjpaaGreatDoor.Vm
open Go Go.RowKit Go.IntWalk
inductive OT where
 | stop
 | done
 | alt (j : Nat) (sub rest : OT)
def ordT (ops : Array Oper) : Nat → Array Bool → OT
 | 0, _ => .stop
 | f + 1, listed => match Region.ready .any ops listed with
   | [] => .stop
   | r => r.foldr (fun j o => .alt j (ordT ops f (listed.setIfInBounds j true)) o) .done
def runT (E : Env) (Φ : Fns) (ops : Array Oper) : OT → St → (St → Prop) → Prop
 | .stop, st, K => K st
 | .done, _, _ => True
 | .alt j sub rest, st, K => goL E Φ ((ops[j]?).toList.map (strip ops)) st (fun s => runT E Φ ops sub s K) ∧ runT E Φ ops rest st K
theorem runT_stop {E : Env} {Φ : Fns} {ops : Array Oper} {st : St} {K : St → Prop} : runT E Φ ops .stop st K = K st := rfl
theorem runT_done {E : Env} {Φ : Fns} {ops : Array Oper} {st : St} {K : St → Prop} : runT E Φ ops .done st K = True := rfl
theorem runT_alt {E : Env} {Φ : Fns} {ops : Array Oper} {st : St} {K : St → Prop} {j : Nat} {sub rest : OT} : runT E Φ ops (.alt j sub rest) st K = (goL E Φ ((ops[j]?).toList.map (strip ops)) st (fun s => runT E Φ ops sub s K) ∧ runT E Φ ops rest st K) := rfl
section
variable {Γ : Ctx} {st : St} {as : List Act} {Φ : Fns} {ρ : Option Nat} {Q : Exit → Act → World → Prop} {ops : Array Oper} {K : St → Prop}
theorem runT_mem {E : Env} {f : Nat} {listed : Array Bool} : ∀ (r : List Nat), runT E Φ ops (r.foldr (fun j o => .alt j (ordT ops f (listed.setIfInBounds j true)) o) .done) st K → ∀ j ∈ r, goL E Φ ((ops[j]?).toList.map (strip ops)) st (fun s => runT E Φ ops (ordT ops f (listed.setIfInBounds j true)) s K)
 | [], _, j, hj => by cases hj
 | i :: r, h, j, hj => by
   simp only [List.foldr_cons, runT] at h
   rcases List.mem_cons.1 hj with rfl | hj
   ·exact h.1
   ·exact runT_mem r h.2 j hj
theorem phaseT (hΦ : Sound Γ.toEnv Φ) (hQ : ∀ st a β w, Sim Γ st a as β w → K st → Q .normal a w) : ∀ (fuel : Nat) (listed : Array Bool) (st : St) (a : Act) (β : Nat → Pl) (w : World), listed.size = ops.size → unl listed ops.size ≤ fuel →
 Sim Γ st a as β w → runT Γ.toEnv Φ ops (ordT ops fuel listed) st K → wpAnyIn (Fw ρ) 0 Γ.P .any ops Q fuel listed a w := by
 intro fuel
 induction fuel with
 | zero =>
   intro listed st a β w hsz hf S h
   refine ⟨?_, hQ st a β w S h⟩
   refine List.eq_nil_iff_forall_not_mem.2 fun j hj => ?_
   obtain ⟨h1, o, ho, _⟩ := mem_ready.1 hj
   have := unl_pos h1 (Array.getElem?_eq_some_iff.1 ho).1
   omega
 | succ fuel ih =>
   intro listed st a β w hsz hf S h
   unfold ordT at h
   refine ⟨fun hnil => ?_, fun j hj => ?_⟩
   ·rw [hnil] at h
    exact hQ st a β w S h
   ·obtain ⟨h1, o, ho, _⟩ := mem_ready.1 hj
    have hjn := (Array.getElem?_eq_some_iff.1 ho).1
    have h' : goL Γ.toEnv Φ ((ops[j]?).toList.map (strip ops)) st (fun s => runT Γ.toEnv Φ ops (ordT ops fuel (listed.setIfInBounds j true)) s K) := by
     revert h
     cases hr : Region.ready .any ops listed with
     | nil => rw [hr] at hj; cases hj
     | cons i r => intro h; exact runT_mem (i :: r) h j (hr ▸ hj)
    rw [ho] at h'
    rw [goL_ok] at h'
    refine goStep (Q := Q) (ρ := ρ) hΦ ho S (l := []) h' fun st' a' β' w' S' h2 => ?_
    refine ih _ st' a' β' w' (by simpa using hsz) ?_ S' h2
    have := unl_set (listed := listed) (j := j) (by omega) h1 hjn
    omega
end
section
variable {E : Env} {Φ : Fns} {ρ : Option Nat} {st : St} {K : Exit → St → Prop} {T q p : Prop}
theorem VC.drawT {id : Nat} {ops : Array Oper} (hΦ : Sound E Φ) (hm : E.P.follows .mixedOrders = true) (o : OT) (ho : ordT ops ops.size (Array.replicate ops.size false) = o) (h : ∀ K' : St → Prop, (∀ s, K .normal s → K' s) → runT E Φ ops o st K') :
 VC E ρ (.region id ops true) st K := fun Γ a as β w hΓ S => by
 subst hΓ
 refine wpIn_region_any hm ?_
 exact phaseT (Γ := Γ) (as := as) (K := K .normal) (Q := fun e a w => ∃ st' β', Sim Γ st' a as β' w ∧ K e st') hΦ (fun st a β w S k => ⟨st, β, S, k⟩) ops.size (Array.replicate ops.size false) st a β w.drew (by simp) (unl_le _ _) S.drew (by rw [ho]; exact h _ fun _ k => k)
theorem dT {id : Nat} {ops : Array Oper} {y : Code} (hΦ : Sound E Φ) (o : OT) (ts : List Nat) (e : T) (h : q) (k : VC E ρ (.seq (.region id ops true) y) st K → p := by exact fun h => nx h)
 (hm : E.P.follows .mixedOrders = true := by kernel_rfl) (ho : ordT ops ops.size (Array.replicate ops.size false) = o := by kernel_rfl)
 (k2 : T → Hid q → ∀ K' : St → Prop, (∀ s, VC E ρ y (s.keep ts) K → K' s) → runT E Φ ops o st K' := by
  intro e h K' hK
  simp only [runT_alt, runT_stop, runT_done, List.getElem?_toArray, List.getElem?_cons_succ, List.getElem?_cons_zero, Option.toList_some, List.map_cons, List.map_nil]
  dsimp only [strip, stripG]
  try simp only [gtmp, List.getElem?_toArray, List.getElem?_cons_succ, List.getElem?_cons_zero, Option.bind_some]
  simp -implicitDefEqProofs only [go_sem, e]
  repeat' first
   | with_reducible apply And.intro
   | exact trivial
   | (refine hK _ ?_; apply VC.atR h.out; (try simp -implicitDefEqProofs only [go_sem, e]); (try simp (disch := omega) only [i64_in, u64_in, tmodN, tdivN]); first | exact rfl | done)
   | exact sd
   | exact sde e
   | exact sdp e
   | fail) : p := k (VC.seq (VC.drawT hΦ hm o ho fun K' hK => k2 e ⟨h⟩ K' fun s hs => hK s (hs.ent (Ent.keep s ts))))
end
end Go.Proofs.YtpajpkbipagjpaaGreatDoor.Vm
namespace Go.Proofs.YtpajpkbipagjpaaGreatDoor.Vm
open Go Go.RowKit Go.IntWalk
section
variable {E : Env} {Φ : Fns} {ρ : Option Nat} {st : St} {K : Exit → St → Prop}
end
end Go.Proofs.YtpajpkbipagjpaaGreatDoor.Vm
namespace Go.Proofs.YtpajpkbipagjpaaGreatDoor.Vm
open Go Go.RowKit Go.IntWalk
section
variable {Γ : Ctx} {st : St} {a : Act} {as : List Act} {β : Nat → Pl} {w : World} {Φ : Fns} {ρ : Option Nat} {Q : Exit → Act → World → Prop} {ops : Array Oper}
theorem qOne1 (hΦ : Sound Γ.toEnv Φ) {next : Act → World → Prop} {o : Oper} {t : Nat} {d : D} (hd : o.dst = some t) (htn : t < st.c.n) (S : Sim Γ st a as β w)
 (h : (evQ Γ.toEnv Φ (evO Γ.toEnv st) st o.op).ok fun d' => d = d') (hnext : ∀ a β w, Sim Γ (st.put t d) a as β w → next a w) : o.wpIn (Fw ρ) 0 Γ.P a w next Q := by
 by_cases hbs : ∃ t n ps, o.op = .buildSlice t n ps
 ·obtain ⟨ty, n, ps, hop⟩ := hbs
  rw [hop] at h
  simp only [evQ] at h
  have e : (ps.toList.map fun p => (p.1, evO Γ.toEnv st p.2)) = partsD Γ.toEnv st ps.toList := rfl
  rw [e] at h
  refine ⟨fun _ _ => trivial, ?_⟩
  rw [Oper.semAt_eq _ _ _ (fun c e => by rw [hop] at e; cases e)]
  have hx : (execOp a.eval o).run Γ.P w = Sem.run Γ.P (do pure (.value (← Instr.buildSlice ty n (ps.toList.map fun p => (p.1, a.eval p.2)).toArray)) : Sem Next) w := by
   have hps : (ps.toList.map fun p => (p.1, a.eval p.2)).toArray = ps.map fun p => (p.1, a.eval p.2) := by
    apply Array.ext'; simp
   rw [hps]
   unfold execOp
   rw [hop]
  rw [hx]
  refine upon_good (good_sliceQ S ty n ps.toList h) ?_
  rintro v d' st' β' w' S' hv ⟨rfl, h2⟩
  rw [hd]
  exact hnext _ β' w' (h2 ▸ S'.put htn hv)
 ·have hns : ∀ t n ps, o.op ≠ .buildSlice t n ps := fun t n ps e => hbs ⟨t, n, ps, e⟩
  have h' := evQ_ok (t := st.c.t) (E := Γ.toEnv) (Φ := Φ) (st := st) (f := evO Γ.toEnv st) o.op hns (fun _ _ => rfl) h
  refine ev_ok S hΦ o h' ?_ ?_ ?_ ?_
  ·rintro v d' st' β' w' S' hv ⟨rfl, h2⟩
   rw [hd]
   exact hnext _ β' w' (h2 ▸ S'.put htn hv)
  ·rintro st' β' w' S' h; exact h.elim
  ·intro g ds args _ h; exact h.elim
  ·intro l ds args b c sz _ _ h; exact h.elim
theorem goOps_q (hΦ : Sound Γ.toEnv Φ) {K : St → Prop} (hQ : ∀ st a β w, Sim Γ st a as β w → K st → Q .normal a w) : ∀ (l r : List Oper) (i : Nat) (st : St) (a : Act) (β : Nat → Pl) (w : World), ops.toList.drop i = l ++ r →
 (∀ o ∈ l, o.guard = none ∧ ∀ t, o.dst = some t → t < st.c.n) → Sim Γ st a as β w → runQ Γ.toEnv Φ ops l st (fun s => goOps Γ.toEnv Φ ops r s K) → wpOpsIn (Fw ρ) 0 Γ.P ops Q (List.range' i (l ++ r).length) a w
 | [], r, i, st, a, β, w, hl, _, S, h => goOps_ok hΦ hQ r i st a β w hl S h
 | o :: l, r, i, st, a, β, w, hl, hg, S, h => by
   have ho : ops[i]? = some o := by
    have := congrArg List.head? hl
    rw [List.head?_drop] at this
    simpa using this
   have hl' : ops.toList.drop (i + 1) = l ++ r := by
    rw [← List.tail_drop, hl]; rfl
   obtain ⟨hgu, hdn⟩ := hg o (by simp)
   simp only [List.cons_append, List.length_cons, List.range'_succ, wpOpsIn, ho]
   rw [if_pos (by simp [Region.wanted, hgu])]
   unfold runQ at h
   split at h
   ·exact h.elim
   ·rename_i t hd
    rw [hgu] at h
    obtain ⟨d, hk, hok⟩ := QA.run_ok h
    exact qOne1 hΦ hd (hdn t hd) S hok fun a' β' w' S' => goOps_q hΦ hQ l r (i + 1) (st.put t d) a' β' w' hl' (fun o' ho' => hg o' (by simp [ho'])) S' hk
end
def plainQ (ops : Array Oper) (q n : Nat) : Bool := (ops.toList.take q).all fun o => o.guard.isNone && match o.dst with | some t => decide (t < n) | none => true
section
variable {E : Env} {Φ : Fns} {ρ : Option Nat} {st st1 : St} {K : Exit → St → Prop} {T q p : Prop}
theorem VC.regQ {id : Nat} {ops : Array Oper} (hΦ : Sound E Φ) (n : Nat) (hs : plainQ ops n st.c.n = true)
 (h : ∀ L : St → Prop, (∀ s, (∀ K' : St → Prop, (∀ s, K .normal s → K' s) → goL E Φ ((ops.toList.drop n).map (strip ops)) s K') → L s) → runL E Φ ((ops.toList.take n).map (strip ops)) st L) :
 VC E ρ (.region id ops false) st K := fun Γ a as β w hΓ S => by
 subst hΓ
 have hr := h (fun s => goOps Γ.toEnv Φ ops (ops.toList.drop n) s (K .normal)) fun s a => by
  have := a (K .normal) fun _ k => k
  rwa [goL_ok] at this
 rw [runL_ok] at hr
 refine wpIn_region ?_
 have := goOps_q (Q := fun e a w => ∃ st' β', Sim Γ st' a as β' w ∧ K e st') (ρ := ρ.map Γ.pin) hΦ (K := K .normal) (fun st a β w S k => ⟨st, β, S, k⟩) (ops.toList.take n) (ops.toList.drop n) 0 st a β w (by simp) (fun o ho => by
  have := List.all_eq_true.1 hs o ho
  rw [Bool.and_eq_true, Option.isNone_iff_eq_none] at this
  refine ⟨this.1, fun t ht => ?_⟩
  have := this.2
  rw [ht] at this
  simpa using this) S hr
 rw [List.take_append_drop] at this
 simpa [List.range_eq_range'] using this
theorem VC.regQ1 {id : Nat} {ops : Array Oper} {y : Code} (hΦ : Sound E Φ) (n : Nat) (hs : plainQ ops n st.c.n = true) (ts : List Nat)
 (h : ∀ L : St → Prop, (∀ s, (∀ K' : St → Prop, (∀ s, VC E ρ y (s.keep ts) K → K' s) → goL E Φ ((ops.toList.drop n).map (strip ops)) s K') → L s) → runL E Φ ((ops.toList.take n).map (strip ops)) st L) :
 VC E ρ (.seq (.region id ops false) y) st K :=
 VC.seq (VC.regQ hΦ n hs fun L hL => h L fun s a => hL s fun K' hK => a K' fun s hs => hK s (hs.ent (Ent.keep s ts)))
theorem rq {id : Nat} {ops : Array Oper} {y : Code} (hΦ : Sound E Φ) (n : Nat) (ts : List Nat) (e : T) (h : q) (k : VC E ρ (.seq (.region id ops false) y) st K → p := by exact fun h => nx h) (hs : plainQ ops n st.c.n = true := by kernel_rfl)
 (k2 : T → Hid q → ∀ L : St → Prop, (∀ s, (∀ K' : St → Prop, (∀ s, VC E ρ y (s.keep ts) K → K' s) → goL E Φ ((ops.toList.drop n).map (strip ops)) s K') → L s) → runL E Φ ((ops.toList.take n).map (strip ops)) st L := by
 intro e h L hL
 dsimp only [List.append, List.take, List.drop, List.map, strip, stripG]
 try simp only [gtmp, List.getElem?_toArray, List.getElem?_cons_succ, List.getElem?_cons_zero, Option.bind_some]
 simp -implicitDefEqProofs only [go_sem, e]
 repeat' first
  | (refine hL _ ?_; intro K' hK; dsimp only [List.append, List.drop, List.map, strip, stripG]; simp -implicitDefEqProofs only [go_sem, e])
  | (refine hK _ ?_; apply VC.atR h.out; (try simp -implicitDefEqProofs only [go_sem, e]); (try simp (disch := omega) only [i64_in, u64_in, tmodN, tdivN]); exact rfl)
  | with_reducible apply And.intro
  | exact sd
  | exact sde e
  | exact sdp e
  | ((first | with_reducible refine goA_id ?_ | with_reducible refine runA_id ?_); simp -implicitDefEqProofs (disch := omega) only [numsD_at, bytesD_at, i64_in, u64_in, tmodN, tdivN, e]; simp -implicitDefEqProofs only [go_sem, e])
  | fail) : p := k (VC.regQ1 hΦ n hs ts (k2 e ⟨h⟩))
theorem rqB {id n : Nat} {ops : Array Oper} {y : Code} {Q : (St → Prop) → Prop} (hΦ : Sound E Φ) (ts : List Nat) (e : T)
 (h : ∀ L : St → Prop, (∀ s, (∀ K' : St → Prop, (∀ s, VC E ρ y (s.keep ts) K → K' s) → goL E Φ ((ops.toList.drop n).map (strip ops)) s K') → L s) → Q L) (k : VC E ρ (.seq (.region id ops false) y) st K → p := by exact fun h => nx h) (hs : plainQ ops n st.c.n = true := by kernel_rfl)
 (k2 : ∀ L : St → Prop, T → Q L → runL E Φ ((ops.toList.take n).map (strip ops)) st L := by
  intro L e h
  dsimp only [List.append, List.take, List.drop, List.map, strip, stripG]
  try simp only [gtmp, List.getElem?_toArray, List.getElem?_cons_succ, List.getElem?_cons_zero, Option.bind_some]
  simp -implicitDefEqProofs only [go_sem, e]
  exact h) : p := k (VC.regQ1 hΦ n hs ts fun L hL => k2 L e (h L hL))
theorem Sim.reord {Γ : Ctx} {a : Act} {as : List Act} {β : Nat → Pl} {w : World} (S : Sim Γ st a as β w) {h' : List (Nat × Blk)} (hh : ∀ k, find h' k = find st.h k) : Sim Γ ⟨st.c, st.s, h'⟩ a as β w ∧ Im Γ β h' w = Im Γ β st.h w := by
 have e : Im Γ β h' w = Im Γ β st.h w := by
  funext b o
  simp only [Im, hh]
 refine ⟨⟨S.below, S.hJ, e ▸ S.glob, fun l l' B B' b c c' sz sz' h1 h2 => S.apart l l' B B' b c c' sz sz' (hh l ▸ h1) (hh l' ▸ h2), e ▸ S.cur, e ▸ S.stk, fun l B h1 => e ▸ S.heap l B (hh l ▸ h1)⟩, e⟩
def Reord (s s' : St) : Prop := s'.c = s.c ∧ s'.s = s.s ∧ ∀ k, find s'.h k = find s.h k
theorem Sim.ro {Γ : Ctx} {a : Act} {as : List Act} {β : Nat → Pl} {w : World} (S : Sim Γ st a as β w) (h : Reord st st1) : Sim Γ st1 a as β w ∧ Im Γ β st1.h w = Im Γ β st.h w := by
 obtain ⟨c, s, h'⟩ := st1
 obtain ⟨rfl, rfl, hh⟩ := h
 exact S.reord hh
theorem Back.ro {Γ : Ctx} {a : Act} {as : List Act} {K : D → St → Prop} {e : Ending} {w : World} (h : Back Γ a as (fun d s => ∃ s', Reord s s' ∧ K d s') e w) : Back Γ a as K e w := by
 obtain ⟨v, d, st, β, h1, S, hv, s', hr, hk⟩ := h
 obtain ⟨S', e'⟩ := S.ro hr
 exact ⟨v, d, s', β, h1, S', e' ▸ hv, hk⟩
theorem VCyield.ro {l : Nat} {ds : List D} {K : D → St → Prop} (h : VCyield E l ds st (fun d s => ∃ s', Reord s s' ∧ K d s')) : VCyield E l ds st K := fun Γ a as β w args b c sz hΓ S hl hargs => by
 obtain ⟨f, tmps, assign, body, h1, h2⟩ := h Γ a as β w args b c sz hΓ S hl hargs
 exact ⟨f, tmps, assign, body, h1, RoundIn.mono (F := Fw none) h2 fun e w' hb => hb.ro⟩
theorem VCcall.ro {g : Nat} {ds : List D} {K : D → St → Prop} (hr : Reord st st1) (h : VCcall E g ds st1 K) : VCcall E g ds st K := fun Γ a as β w args hΓ S hargs => by
 obtain ⟨S', e⟩ := S.ro hr
 exact h Γ a as β w args hΓ S' (e ▸ hargs)
theorem find_ro {h h' : List (Nat × Blk)} (h1 : ∀ x ∈ h', find h x.1 = some x.2) (h2 : ∀ x ∈ h, (find h' x.1).isSome = true) : ∀ k, find h' k = find h k := by
 intro k
 have key : ∀ (l : List (Nat × Blk)), (∃ B, (k, B) ∈ l) ∨ find l k = none := by
  intro l
  induction l with
  | nil => exact .inr rfl
  | cons x l ih =>
    by_cases e : x.1 = k
    ·exact .inl ⟨x.2, by rw [← e]; simp⟩
    ·rcases ih with ⟨B, hB⟩ | h
     ·exact .inl ⟨B, by simp [hB]⟩
     ·exact .inr (by rw [find, if_neg e]; exact h)
 cases hf : find h' k with
 | some B => exact (h1 _ (find_mem hf)).symm
 | none =>
   rcases key h with ⟨B, hB⟩ | h
   ·have := h2 _ hB
    rw [hf] at this; cases this
   ·exact h.symm
def Cln (l : Nat) (c : Fr) (stk : List Fr) : Prop := Tm.erase l c.t = c.t ∧ frsErase l stk = stk ∧ ¬ l ∈ c.m ∧ noMark l stk
theorem Cln.push {l : Nat} {c f : Fr} {stk : List Fr} (h : Cln l c stk) (hf : Tm.erase l f.t = f.t) (hm : ¬ l ∈ f.m) : Cln l f (c :: stk) := by
 obtain ⟨h1, h2, h3, h4⟩ := h
 refine ⟨hf, ?_, hm, ?_⟩
 ·rw [frsErase, h2]
  show Fr.mk c.n (Tm.erase l c.t) c.m :: stk = _
  rw [h1]
 ·simp only [noMark]; exact ⟨h3, h4⟩
end
end Go.Proofs.YtpajpkbipagjpaaGreatDoor.Vm
