/- Bytes that are read; what the law OidBytes computes. No condition. -/
import Derived.Test.YtgfadocohpinmaaOaD
set_option linter.unusedVariables false
set_option linter.unusedSimpArgs false
namespace Go.Proofs.Ytgfadocohpinmaa.Oa
open Go Go.RowKit Go.Proofs.Ytgfadocohpinmaa.Vm
set_option maxRecDepth 100000
theorem shift_q (n j : Nat) (hj : j ≤ 8) : n / 2 ^ (70 - 7 * j) = n / 2 ^ (63 - 7 * j) / 128 := by
  rw [Nat.div_div_eq_div_mul, show 128 = 2 ^ 7 from rfl, ← Nat.pow_add]; congr 2; omega
/-! every word on the way is small -/
def allLe (p : Nat × List Nat) (bs : List UInt8) : Prop := ∀ k, k < bs.length → ((bs.take k).foldl scanS p).1 ≤ 72057594037927935
theorem allLe_append {p : Nat × List Nat} {a b : List UInt8} (ha : allLe p a) (hb : allLe (a.foldl scanS p) b) : allLe p (a ++ b) := by
  intro k hk
  rcases Nat.lt_or_ge k a.length with h | h
  · rw [List.take_append_of_le_length (by omega)]; exact ha k h
  · rw [List.take_append, List.take_of_length_le h, List.foldl_append]
    rw [List.length_append] at hk
    exact hb _ (by omega)
theorem allLe_nil (p : Nat × List Nat) : allLe p [] := fun k hk => absurd hk (Nat.not_lt_zero _)
theorem allLe_one {p : Nat × List Nat} {c : UInt8} (h : p.1 ≤ 72057594037927935) : allLe p [c] := by
  intro k hk
  have : k = 0 := by simpa using hk
  subst this
  exact h
theorem grp_one (n j : Nat) : grp n j = [] ∨ ∃ c, grp n j = [c] := by
  unfold grp; split
  · exact .inl rfl
  · exact .inr ⟨_, rfl⟩
theorem small_q (n j : Nat) (hn : n ≤ 9223372036854775807) (hj : j ≤ 9) : n / 2 ^ (70 - 7 * j) ≤ 72057594037927935 := by
  have h1 : (2 : Nat) ^ 7 ≤ 2 ^ (70 - 7 * j) := Nat.pow_le_pow_right (by decide) (by omega)
  have h2 : n / 2 ^ (70 - 7 * j) ≤ n / 2 ^ 7 := Nat.div_le_div_left h1 (by decide)
  omega
theorem allLe_encTo (n : Nat) (hn : n ≤ 9223372036854775807) (out : List Nat) : ∀ j, j ≤ 9 → allLe (0, out) (encTo n j)
  | 0, _ => allLe_nil _
  | j + 1, hj => by
    rw [encTo_succ]
    refine allLe_append (allLe_encTo n hn out j (by omega)) ?_
    rw [scan_encTo n hn out j (by omega)]
    rcases grp_one n j with h | ⟨c, h⟩
    · rw [h]; exact allLe_nil _
    · rw [h]; exact allLe_one (small_q n j hn (by omega))
theorem allLe_enc1 (n : Nat) (hn : n ≤ 9223372036854775807) (out : List Nat) : allLe (0, out) (enc1 n) := by
  unfold enc1
  rw [encTo_succ]
  refine allLe_append (allLe_encTo n hn out 9 (Nat.le_refl _)) ?_
  rw [scan_encTo n hn out 9 (Nat.le_refl _)]
  rcases grp_one n 9 with h | ⟨c, h⟩
  · rw [h]; exact allLe_nil _
  · rw [h]; exact allLe_one (small_q n 9 hn (by omega))
theorem allLe_flat (xs : List Nat) (hx : ∀ x ∈ xs, x ≤ 9223372036854775807) : ∀ out, allLe (0, out) (xs.flatMap enc1) := by
  induction xs with
  | nil => intro out; exact allLe_nil _
  | cons x r ih =>
    intro out
    rw [List.flatMap_cons]
    refine allLe_append (allLe_enc1 x (hx x (by simp)) out) ?_
    rw [scan_enc1 x (hx x (by simp))]
    exact ih (fun y hy => hx y (by simp [hy])) _
theorem fix_num {l : List Nat} (h : may l = true) (r : List Nat) : fixS (numL l ++ r) = l ++ r := by
  obtain ⟨a, b, c, d, e, f⟩ := may_all h
  match l, a with
  | x :: y :: s, _ =>
    rw [numL_cons]
    simp at c d
    simp only [List.cons_append, fixS, List.cons.injEq, and_true]
    omega
theorem scanN_all (b : List UInt8) : scanN b b.length = b.foldl scanS (0, []) := by unfold scanN; rw [List.take_length]
theorem okS_flat (xs : List Nat) (hx : ∀ x ∈ xs, x ≤ 9223372036854775807) : okS (xs.flatMap enc1) = true := okS_yes _ fun k hk => allLe_flat xs hx [] k hk
/-- What is written is read as it was. -/
theorem read_enc {l : List Nat} (h : may l = true) : readS (enc l) = some l := by
  have e : readX (enc l) = l := by
    unfold readX
    rw [scanN_all, enc_flat, scan_flat _ (numL_le h)]
    have := fix_num h []
    simpa using this
  have := readS_some (enc l) ⟨by rw [enc_flat]; exact okS_flat _ (numL_le h), by rw [e]; exact h, by rw [e]⟩
  rw [this, e]
theorem readS_facts {b : List UInt8} {l : List Nat} (h : readS b = some l) : may l = true ∧ enc l = b := by
  unfold readS at h
  split at h
  · rename_i hc
    injection h with h
    subst h
    exact ⟨hc.2.1, hc.2.2⟩
  · cases h
theorem enc1_zero : enc1 0 = [0] := by decide +kernel
theorem may_snoc {l : List Nat} (h : may l = true) (h20 : l.length < 20) : may (l ++ [0]) = true := by
  obtain ⟨a, b, c, d, e, f⟩ := may_all h
  match l, a with
  | x :: y :: s, _ =>
    refine decide_eq_true ⟨by simp, by simp at h20 ⊢; omega, by simpa using c, by simpa using d, (mx_all _ _).2 fun z hz => ?_, by simpa using f⟩
    rcases List.mem_append.1 hz with hz | hz
    · exact e z hz
    · simp at hz; omega
theorem read_more {b : List UInt8} {l : List Nat} (h : readS b = some l) (h20 : l.length < 20) : readS (b ++ [0]) = some (l ++ [0]) := by
  obtain ⟨hm, rfl⟩ := readS_facts h
  have e : enc (l ++ [0]) = enc l ++ [0] := by
    rw [enc_append (may_all hm).1]
    simp [enc1_zero]
  rw [← e]
  exact read_enc (may_snoc hm h20)
theorem read_full {b : List UInt8} {l : List Nat} (h : readS b = some l) (h20 : ¬ l.length < 20) : readS (b ++ [0]) = none := by
  obtain ⟨hm, rfl⟩ := readS_facts h
  refine readS_none _ fun hc => ?_
  have e : readX (enc l ++ [0]) = l ++ [0] := by
    unfold readX
    rw [scanN_all, List.foldl_append, enc_flat, scan_flat _ (numL_le hm)]
    show fixS (scanS (0, [] ++ numL l) 0).2 = _
    rw [show scanS (0, [] ++ numL l) 0 = (0, numL l ++ [0]) from by simp [scanS]]
    exact fix_num hm [0]
  rw [e] at hc
  have h1 := (may_all hc.2.1).2.1
  rw [List.length_append] at h1
  simp only [List.length_cons, List.length_nil] at h1
  omega
/-! the first bytes of numbers, the last one -/
def fsS (p : Bool × Bool) (c : UInt8) : Bool × Bool := (decide (c.toNat < 128), p.2 && (!p.1 || !decide (c.toNat = 128)))
def fs (b : List UInt8) (k : Nat) : Bool × Bool := (b.take k).foldl fsS (true, true)
theorem fs_zero (b : List UInt8) : fs b 0 = (true, true) := rfl
theorem fs_succ (b : List UInt8) (k : Nat) (h : k < b.length) : fs b (k + 1) = fsS (fs b k) (b.getD k 0) := by
  unfold fs
  rw [List.take_add_one, List.getElem?_eq_getElem h, Option.toList_some, List.foldl_append, List.getD_eq_getElem?_getD, List.getElem?_eq_getElem h]
  rfl
theorem fs_encTo (n : Nat) (hn : n ≤ 9223372036854775807) (s : Bool) : ∀ j, j ≤ 9 → (encTo n j).foldl fsS (true, s) = (decide (n / 2 ^ (70 - 7 * j) = 0), s) := by
  intro j
  induction j with
  | zero =>
    intro _
    rw [encTo_zero, decide_eq_true (Nat.div_eq_of_lt (by simp; omega))]; rfl
  | succ j ih =>
    intro hj
    rw [encTo_succ, List.foldl_append, ih (by omega), shift_q n j (by omega)]
    have e : 70 - 7 * (j + 1) = 63 - 7 * j := by omega
    rw [e]
    generalize hq : n / 2 ^ (63 - 7 * j) = q
    by_cases h0 : q = 0
    · rw [grp_skip (by omega) (by rw [hq]; exact h0)]
      subst h0; rfl
    · rw [grp_more (by omega) (by rw [hq]; exact h0), hq]
      have hb : (UInt8.ofNat (q % 128 + 128)).toNat = q % 128 + 128 := by rw [UInt8.toNat_ofNat', Nat.mod_eq_of_lt (by omega)]
      show fsS _ _ = _
      unfold fsS
      simp only [hb, Prod.mk.injEq]
      refine ⟨by rw [decide_eq_false (by omega), decide_eq_false h0], ?_⟩
      by_cases h1 : q / 128 = 0
      · rw [decide_eq_true h1, decide_eq_false (by omega)]; cases s <;> rfl
      · rw [decide_eq_false h1]; cases s <;> rfl
theorem fs_enc1 (n : Nat) (hn : n ≤ 9223372036854775807) (s : Bool) : (enc1 n).foldl fsS (true, s) = (true, s) := by
  unfold enc1
  rw [encTo_succ, List.foldl_append, fs_encTo n hn s 9 (Nat.le_refl _), grp_last rfl]
  have hb : (UInt8.ofNat (n / 2 ^ (63 - 7 * 9) % 128)).toNat = n % 128 := by rw [UInt8.toNat_ofNat', Nat.mod_eq_of_lt (by omega)]; simp
  show fsS _ _ = _
  unfold fsS
  simp only [hb, Prod.mk.injEq]
  refine ⟨decide_eq_true (by omega), ?_⟩
  rw [decide_eq_false (show ¬ n % 128 = 128 by omega)]
  cases s <;> simp
theorem fs_flat (xs : List Nat) (hx : ∀ x ∈ xs, x ≤ 9223372036854775807) : (xs.flatMap enc1).foldl fsS (true, true) = (true, true) := by
  induction xs with
  | nil => rfl
  | cons x r ih => rw [List.flatMap_cons, List.foldl_append, fs_enc1 x (hx x (by simp)), ih fun y hy => hx y (by simp [hy])]
theorem read_fs {b : List UInt8} {l : List Nat} (h : readS b = some l) : 0 < b.length ∧ fs b b.length = (true, true) := by
  obtain ⟨hm, rfl⟩ := readS_facts h
  refine ⟨?_, by unfold fs; rw [List.take_length, enc_flat]; exact fs_flat _ (numL_le hm)⟩
  rw [enc_flat]
  have := (may_all hm).1
  refine flat_len _ fun e => ?_
  have := congrArg List.length e
  simp [numL] at this
  omega
end Go.Proofs.Ytgfadocohpinmaa.Oa
namespace Go.Proofs.Ytgfadocohpinmaa.Oa
open Go Go.RowKit Go.Proofs.Ytgfadocohpinmaa.Vm Go.IntWalk
set_option maxRecDepth 100000
set_option maxHeartbeats 4000000
noncomputable def ΦB : Fns := tab [(5, aliveF), (9, readF)]
theorem ΦB_ok : Sound E ΦB := sound_cons (by kernel_rfl) alive_ok (sound_cons (by kernel_rfl) read_ok (sound_nil))
@[go_sem] theorem ΦB_5 : ΦB 5 = some aliveF := rfl
@[go_sem] theorem ΦB_9 : ΦB 9 = some readF := rfl
theorem lit0 (b : List UInt8) : bytesD b ++ [[.int .u8 0]] = bytesD (b ++ [0]) := bytesD_snoc b 0
theorem more_facts (b : List UInt8) : ((readS b).isSome = true → 0 < b.length ∧ (fs b b.length).1 = true ∧ (fs b b.length).2 = true) ∧ ((readS b).isSome = true → ((readS b).getD []).length < 20 → readS (b ++ [0]) = some ((readS b).getD [] ++ [0])) ∧
    ((readS b).isSome = true → ¬ ((readS b).getD []).length < 20 → readS (b ++ [0]) = none) := by
  cases h : readS b with
  | none => simp
  | some l =>
    have h1 := read_fs h
    refine ⟨fun _ => ⟨h1.1, by rw [h1.2], by rw [h1.2]⟩, fun _ h2 => read_more h h2, fun _ h2 => read_full h h2⟩
def obytesA (b : List UInt8) : List Vm.Data := [.lst (bytesD b)]
noncomputable def obytesF : PFn := PFn.of obytesA (fun b => True) (fun b => [.bool true])
theorem obytes_inj (x y : List UInt8) (h : obytesA x = obytesA y) : x = y := by
  simpa [obytesA, Prod.ext_iff, numsD_inj, bytesD_inj, Vm.Data.lst.injEq] using h
@[go_sem] theorem obytes_pre (b : List UInt8) : obytesF.pre [.lst (bytesD b)] = (True) := PFn.of_pre obytes_inj b
@[go_sem] theorem obytes_res (b : List UInt8) : obytesF.res [.lst (bytesD b)] = [.bool true] := PFn.of_res obytes_inj b
theorem obytes_ok : Pure E 4 obytesF := by
  apply Pure.of_body (rs := [.tmp 2]) (n := 109) Try.func4 rfl rfl rfl
  intro ds hds
  obtain ⟨b, rfl, hds⟩ := hds
  (try dsimp only at hds)
  rw [show obytesF.res (obytesA b) = [.bool true] from obytes_res b]
  skip
  refine ⟨Nat.le_of_ble_eq_true rfl, ?_⟩
  show VC E none _ (pureSt 109 [.lst (bytesD b)]) _
  apply VC.regt ΦB_ok [0]; intro K' hK; dsimp only [List.take, List.drop, List.map, strip, stripG]; simp -implicitDefEqProofs only [go_sem, Nat.reduceLT, Nat.reduceAdd, Nat.reduceEqDiff, reduceIte, Nat.reduceMul, Nat.reduceSub, reduceCtorEq, Int.reduceNe, Int.reduceEq, ne_eq, Nat.reduceLeDiff, Nat.reduceMod, Nat.reduceDiv]
  (repeat' first | (refine hK _ ?_; clear hK K') | with_reducible apply And.intro | (simp -implicitDefEqProofs (disch := omega) only [bytesD_at, numsD_at, i64_in, List.length_cons, List.length_nil, Nat.reduceAdd]; done) | (simp only [maxLen]; omega) | omega)
  all_goals
    apply VC.at
    · simp -implicitDefEqProofs only [go_sem, Nat.reduceLT, Nat.reduceAdd, Nat.reduceEqDiff, reduceIte, Nat.reduceMul, Nat.reduceSub, reduceCtorEq, Int.reduceNe, Int.reduceEq, ne_eq, Nat.reduceLeDiff, Nat.reduceMod, Nat.reduceDiv]; (try simp (disch := omega) only [i64_in, tmodn, tdivn]); exact rfl
    apply VC.regt ΦB_ok [0, 3]; intro K' hK; dsimp only [List.take, List.drop, List.map, strip, stripG]; simp -implicitDefEqProofs only [go_sem, Nat.reduceLT, Nat.reduceAdd, Nat.reduceEqDiff, reduceIte, Nat.reduceMul, Nat.reduceSub, reduceCtorEq, Int.reduceNe, Int.reduceEq, ne_eq, Nat.reduceLeDiff, Nat.reduceMod, Nat.reduceDiv]
    (repeat' first | (refine hK _ ?_; clear hK K') | with_reducible apply And.intro | (simp -implicitDefEqProofs (disch := omega) only [bytesD_at, numsD_at, i64_in, List.length_cons, List.length_nil, Nat.reduceAdd]; done) | (simp only [maxLen]; omega) | omega)
    all_goals
      apply VC.at
      · simp -implicitDefEqProofs only [go_sem, Nat.reduceLT, Nat.reduceAdd, Nat.reduceEqDiff, reduceIte, Nat.reduceMul, Nat.reduceSub, reduceCtorEq, Int.reduceNe, Int.reduceEq, ne_eq, Nat.reduceLeDiff, Nat.reduceMod, Nat.reduceDiv]; (try simp (disch := omega) only [i64_in, tmodn, tdivn]); exact rfl
      apply VC.seq
      apply VC.regt ΦB_ok [0, 3, 18]; intro K' hK; dsimp only [List.take, List.drop, List.map, strip, stripG]; simp only [gtmp, List.getElem?_toArray, List.getElem?_cons_succ, List.getElem?_cons_zero, Option.bind_some]; simp -implicitDefEqProofs only [go_sem, Nat.reduceLT, Nat.reduceAdd, Nat.reduceEqDiff, reduceIte, Nat.reduceMul, Nat.reduceSub, reduceCtorEq, Int.reduceNe, Int.reduceEq, ne_eq, Nat.reduceLeDiff, Nat.reduceMod, Nat.reduceDiv]
      (repeat' first | (refine hK _ ?_; clear hK K') | (first | apply goB_splitD | apply goA_splitD | apply goB_split | apply goA_split | apply goA_all) <;> intro _ <;> simp -implicitDefEqProofs only [go_sem, Nat.reduceLT, Nat.reduceAdd, Nat.reduceEqDiff, reduceIte, Nat.reduceMul, Nat.reduceSub, reduceCtorEq, Int.reduceNe, Int.reduceEq, ne_eq, Nat.reduceLeDiff, Nat.reduceMod, Nat.reduceDiv] | with_reducible apply And.intro | (simp -implicitDefEqProofs (disch := omega) only [bytesD_at, numsD_at, i64_in, List.length_cons, List.length_nil, Nat.reduceAdd]; done) | (simp only [maxLen]; omega) | omega)
      all_goals
        apply VC.at
        · simp -implicitDefEqProofs only [go_sem, Nat.reduceLT, Nat.reduceAdd, Nat.reduceEqDiff, reduceIte, Nat.reduceMul, Nat.reduceSub, reduceCtorEq, Int.reduceNe, Int.reduceEq, ne_eq, Nat.reduceLeDiff, Nat.reduceMod, Nat.reduceDiv]; (try simp (disch := omega) only [i64_in, tmodn, tdivn]); exact rfl
        first | (apply VC.condd; (focus (simp -implicitDefEqProofs only [go_sem, Nat.reduceLT, Nat.reduceAdd, Nat.reduceEqDiff, reduceIte, Nat.reduceMul, Nat.reduceSub, reduceCtorEq, Int.reduceNe, Int.reduceEq, ne_eq, Nat.reduceLeDiff, Nat.reduceMod, Nat.reduceDiv]; with_reducible exact rfl))) | (apply VC.condn; (focus (simp -implicitDefEqProofs only [go_sem, Nat.reduceLT, Nat.reduceAdd, Nat.reduceEqDiff, reduceIte, Nat.reduceMul, Nat.reduceSub, reduceCtorEq, Int.reduceNe, Int.reduceEq, ne_eq, Nat.reduceLeDiff, Nat.reduceMod, Nat.reduceDiv]; with_reducible exact rfl))) | (apply VC.condt; (focus (simp -implicitDefEqProofs only [go_sem, Nat.reduceLT, Nat.reduceAdd, Nat.reduceEqDiff, reduceIte, Nat.reduceMul, Nat.reduceSub, reduceCtorEq, Int.reduceNe, Int.reduceEq, ne_eq, Nat.reduceLeDiff, Nat.reduceMod, Nat.reduceDiv]; with_reducible exact rfl))) | (apply VC.condb; (focus (simp -implicitDefEqProofs only [go_sem, Nat.reduceLT, Nat.reduceAdd, Nat.reduceEqDiff, reduceIte, Nat.reduceMul, Nat.reduceSub, reduceCtorEq, Int.reduceNe, Int.reduceEq, ne_eq, Nat.reduceLeDiff, Nat.reduceMod, Nat.reduceDiv]; exact rfl)))
        · intro h; try exact absurd h (by decide)
          all_goals
            apply VC.regt ΦB_ok [2]; intro K' hK; dsimp only [List.take, List.drop, List.map, strip, stripG]; simp -implicitDefEqProofs only [go_sem, Nat.reduceLT, Nat.reduceAdd, Nat.reduceEqDiff, reduceIte, Nat.reduceMul, Nat.reduceSub, reduceCtorEq, Int.reduceNe, Int.reduceEq, ne_eq, Nat.reduceLeDiff, Nat.reduceMod, Nat.reduceDiv]
            (repeat' first | (refine hK _ ?_; clear hK K') | with_reducible apply And.intro | (simp -implicitDefEqProofs (disch := omega) only [bytesD_at, numsD_at, i64_in, List.length_cons, List.length_nil, Nat.reduceAdd]; done) | (simp only [maxLen]; omega) | omega)
            all_goals
              apply VC.at
              · simp -implicitDefEqProofs only [go_sem, Nat.reduceLT, Nat.reduceAdd, Nat.reduceEqDiff, reduceIte, Nat.reduceMul, Nat.reduceSub, reduceCtorEq, Int.reduceNe, Int.reduceEq, ne_eq, Nat.reduceLeDiff, Nat.reduceMod, Nat.reduceDiv]; (try simp (disch := omega) only [i64_in, tmodn, tdivn]); exact rfl
              apply VC.ret
              refine thenK_r ?_
              simp -implicitDefEqProofs only [go_sem, Nat.reduceLT, Nat.reduceAdd, Nat.reduceEqDiff, reduceIte, Nat.reduceMul, Nat.reduceSub, reduceCtorEq, Int.reduceNe, Int.reduceEq, ne_eq, Nat.reduceLeDiff, Nat.reduceMod, Nat.reduceDiv]
              all_goals (first | trivial | (exfalso; rename_i hq; rw [i64_in _ (by omega)] at hq; omega) | (rw [m3 (may_of (by assumption)) (by omega)]; rfl) | (simp_all; done) | (simp_all; omega))
        · intro h; try exact absurd h (by decide)
          all_goals
            apply VC.skip
            refine thenK_n ?_
            apply VC.regt ΦB_ok [0, 3, 4, 5]; intro K' hK; dsimp only [List.take, List.drop, List.map, strip, stripG]; simp -implicitDefEqProofs only [go_sem, Nat.reduceLT, Nat.reduceAdd, Nat.reduceEqDiff, reduceIte, Nat.reduceMul, Nat.reduceSub, reduceCtorEq, Int.reduceNe, Int.reduceEq, ne_eq, Nat.reduceLeDiff, Nat.reduceMod, Nat.reduceDiv]
            (repeat' first | (refine hK _ ?_; clear hK K') | with_reducible apply And.intro | (simp -implicitDefEqProofs (disch := omega) only [bytesD_at, numsD_at, i64_in, List.length_cons, List.length_nil, Nat.reduceAdd]; done) | (simp only [maxLen]; omega) | omega)
            all_goals
              apply VC.at
              · simp -implicitDefEqProofs only [go_sem, Nat.reduceLT, Nat.reduceAdd, Nat.reduceEqDiff, reduceIte, Nat.reduceMul, Nat.reduceSub, reduceCtorEq, Int.reduceNe, Int.reduceEq, ne_eq, Nat.reduceLeDiff, Nat.reduceMod, Nat.reduceDiv]; (try simp (disch := omega) only [i64_in, tmodn, tdivn]); exact rfl
              apply VC.regt ΦB_ok [0, 3, 4, 5, 6, 7]; intro K' hK; dsimp only [List.take, List.drop, List.map, strip, stripG]; simp -implicitDefEqProofs only [go_sem, Nat.reduceLT, Nat.reduceAdd, Nat.reduceEqDiff, reduceIte, Nat.reduceMul, Nat.reduceSub, reduceCtorEq, Int.reduceNe, Int.reduceEq, ne_eq, Nat.reduceLeDiff, Nat.reduceMod, Nat.reduceDiv]
              (repeat' first | (refine hK _ ?_; clear hK K') | with_reducible apply And.intro | (simp -implicitDefEqProofs (disch := omega) only [bytesD_at, numsD_at, i64_in, List.length_cons, List.length_nil, Nat.reduceAdd]; done) | (simp only [maxLen]; omega) | omega)
              all_goals
                apply VC.at
                · simp -implicitDefEqProofs only [go_sem, Nat.reduceLT, Nat.reduceAdd, Nat.reduceEqDiff, reduceIte, Nat.reduceMul, Nat.reduceSub, reduceCtorEq, Int.reduceNe, Int.reduceEq, ne_eq, Nat.reduceLeDiff, Nat.reduceMod, Nat.reduceDiv]; (try simp (disch := omega) only [i64_in, tmodn, tdivn]); exact rfl
                apply VC.seq
                apply VC.regt ΦB_ok [0, 3, 4, 5, 6, 7, 26, 27]; intro K' hK; dsimp only [List.take, List.drop, List.map, strip, stripG]; simp -implicitDefEqProofs only [go_sem, Nat.reduceLT, Nat.reduceAdd, Nat.reduceEqDiff, reduceIte, Nat.reduceMul, Nat.reduceSub, reduceCtorEq, Int.reduceNe, Int.reduceEq, ne_eq, Nat.reduceLeDiff, Nat.reduceMod, Nat.reduceDiv]
                (repeat' first | (refine hK _ ?_; clear hK K') | with_reducible apply And.intro | (simp -implicitDefEqProofs (disch := omega) only [bytesD_at, numsD_at, i64_in, List.length_cons, List.length_nil, Nat.reduceAdd]; done) | (simp only [maxLen]; omega) | omega)
                all_goals
                  apply VC.at
                  · simp -implicitDefEqProofs only [go_sem, Nat.reduceLT, Nat.reduceAdd, Nat.reduceEqDiff, reduceIte, Nat.reduceMul, Nat.reduceSub, reduceCtorEq, Int.reduceNe, Int.reduceEq, ne_eq, Nat.reduceLeDiff, Nat.reduceMod, Nat.reduceDiv]; (try simp (disch := omega) only [i64_in, tmodn, tdivn]); exact rfl
                  apply VC.block
                  refine VC.loopP (ι := Nat) [0, 3, 4, 5, 26] (fun k => [(27, .dat (.int .i64 (k : Int))), (6, .dat (.bool (fs b k).1)), (7, .dat (.bool (fs b k).2))]) (fun _ => []) (fun k => k ≤ b.length) (fun k => b.length - k) 0 (Nat.zero_le _) ?_ ?_
                  · refine Ent.to rfl rfl rfl ?_ ?_ <;> (simp -implicitDefEqProofs only [go_sem, Nat.reduceLT, Nat.reduceAdd, Nat.reduceEqDiff, reduceIte, Nat.reduceMul, Nat.reduceSub, reduceCtorEq, Int.reduceNe, Int.reduceEq, ne_eq, Nat.reduceLeDiff, Nat.reduceMod, Nat.reduceDiv, fs_zero]; (try simp only [D.dat.injEq, Vm.Data.int.injEq, true_and, and_true, and_self, eq_self]); (try omega))
                  · intro k hk; (try dsimp only at hk)
                    apply VC.at
                    · simp -implicitDefEqProofs only [go_sem, Nat.reduceLT, Nat.reduceAdd, Nat.reduceEqDiff, reduceIte, Nat.reduceMul, Nat.reduceSub, reduceCtorEq, Int.reduceNe, Int.reduceEq, ne_eq, Nat.reduceLeDiff, Nat.reduceMod, Nat.reduceDiv]; (try simp (disch := omega) only [i64_in, tmodn, tdivn]); exact rfl
                    apply VC.regt ΦB_ok [0, 3, 4, 5, 6, 7, 26, 27, 28]; intro K' hK; dsimp only [List.take, List.drop, List.map, strip, stripG]; simp -implicitDefEqProofs only [go_sem, Nat.reduceLT, Nat.reduceAdd, Nat.reduceEqDiff, reduceIte, Nat.reduceMul, Nat.reduceSub, reduceCtorEq, Int.reduceNe, Int.reduceEq, ne_eq, Nat.reduceLeDiff, Nat.reduceMod, Nat.reduceDiv]
                    (repeat' first | (refine hK _ ?_; clear hK K') | with_reducible apply And.intro | (simp -implicitDefEqProofs (disch := omega) only [bytesD_at, numsD_at, i64_in, List.length_cons, List.length_nil, Nat.reduceAdd]; done) | (simp only [maxLen]; omega) | omega)
                    all_goals
                      apply VC.at
                      · simp -implicitDefEqProofs only [go_sem, Nat.reduceLT, Nat.reduceAdd, Nat.reduceEqDiff, reduceIte, Nat.reduceMul, Nat.reduceSub, reduceCtorEq, Int.reduceNe, Int.reduceEq, ne_eq, Nat.reduceLeDiff, Nat.reduceMod, Nat.reduceDiv]; (try simp (disch := omega) only [i64_in, tmodn, tdivn]); exact rfl
                      apply VC.seq
                      first | (apply VC.condd; (focus (simp -implicitDefEqProofs only [go_sem, Nat.reduceLT, Nat.reduceAdd, Nat.reduceEqDiff, reduceIte, Nat.reduceMul, Nat.reduceSub, reduceCtorEq, Int.reduceNe, Int.reduceEq, ne_eq, Nat.reduceLeDiff, Nat.reduceMod, Nat.reduceDiv]; with_reducible exact rfl))) | (apply VC.condn; (focus (simp -implicitDefEqProofs only [go_sem, Nat.reduceLT, Nat.reduceAdd, Nat.reduceEqDiff, reduceIte, Nat.reduceMul, Nat.reduceSub, reduceCtorEq, Int.reduceNe, Int.reduceEq, ne_eq, Nat.reduceLeDiff, Nat.reduceMod, Nat.reduceDiv]; with_reducible exact rfl))) | (apply VC.condt; (focus (simp -implicitDefEqProofs only [go_sem, Nat.reduceLT, Nat.reduceAdd, Nat.reduceEqDiff, reduceIte, Nat.reduceMul, Nat.reduceSub, reduceCtorEq, Int.reduceNe, Int.reduceEq, ne_eq, Nat.reduceLeDiff, Nat.reduceMod, Nat.reduceDiv]; with_reducible exact rfl))) | (apply VC.condb; (focus (simp -implicitDefEqProofs only [go_sem, Nat.reduceLT, Nat.reduceAdd, Nat.reduceEqDiff, reduceIte, Nat.reduceMul, Nat.reduceSub, reduceCtorEq, Int.reduceNe, Int.reduceEq, ne_eq, Nat.reduceLeDiff, Nat.reduceMod, Nat.reduceDiv]; exact rfl)))
                      · intro h; try exact absurd h (by decide)
                        all_goals
                          apply VC.skip
                          refine thenK_n ?_
                          apply VC.seq
                          apply VC.block
                          apply VC.regt ΦB_ok [0, 3, 4, 5, 6, 7, 8, 26, 27]; intro K' hK; dsimp only [List.take, List.drop, List.map, strip, stripG]; simp -implicitDefEqProofs only [go_sem, Nat.reduceLT, Nat.reduceAdd, Nat.reduceEqDiff, reduceIte, Nat.reduceMul, Nat.reduceSub, reduceCtorEq, Int.reduceNe, Int.reduceEq, ne_eq, Nat.reduceLeDiff, Nat.reduceMod, Nat.reduceDiv]
                          (repeat' first | (refine hK _ ?_; clear hK K') | with_reducible apply And.intro | (simp -implicitDefEqProofs (disch := omega) only [bytesD_at, numsD_at, i64_in, List.length_cons, List.length_nil, Nat.reduceAdd]; done) | (simp only [maxLen]; omega) | omega)
                          all_goals
                            apply VC.at
                            · simp -implicitDefEqProofs only [go_sem, Nat.reduceLT, Nat.reduceAdd, Nat.reduceEqDiff, reduceIte, Nat.reduceMul, Nat.reduceSub, reduceCtorEq, Int.reduceNe, Int.reduceEq, ne_eq, Nat.reduceLeDiff, Nat.reduceMod, Nat.reduceDiv]; (try simp (disch := omega) only [i64_in, tmodn, tdivn]); exact rfl
                            apply VC.regt ΦB_ok [0, 3, 4, 5, 7, 8, 26, 27]; intro K' hK; dsimp only [List.take, List.drop, List.map, strip, stripG]; simp only [gtmp, List.getElem?_toArray, List.getElem?_cons_succ, List.getElem?_cons_zero, Option.bind_some]; simp -implicitDefEqProofs only [go_sem, Nat.reduceLT, Nat.reduceAdd, Nat.reduceEqDiff, reduceIte, Nat.reduceMul, Nat.reduceSub, reduceCtorEq, Int.reduceNe, Int.reduceEq, ne_eq, Nat.reduceLeDiff, Nat.reduceMod, Nat.reduceDiv]
                            (repeat' first | (refine hK _ ?_; clear hK K') | (first | apply goB_splitD | apply goA_splitD | apply goB_split | apply goA_split | apply goA_all) <;> intro _ <;> simp -implicitDefEqProofs only [go_sem, Nat.reduceLT, Nat.reduceAdd, Nat.reduceEqDiff, reduceIte, Nat.reduceMul, Nat.reduceSub, reduceCtorEq, Int.reduceNe, Int.reduceEq, ne_eq, Nat.reduceLeDiff, Nat.reduceMod, Nat.reduceDiv] | ((first | with_reducible refine runA_id ?_ | with_reducible refine goA_id ?_); simp -implicitDefEqProofs (disch := omega) only [bytesD_at, numsD_at, i64_in]; simp -implicitDefEqProofs only [go_sem, Nat.reduceLT, Nat.reduceAdd, Nat.reduceEqDiff, reduceIte, Nat.reduceMul, Nat.reduceSub, reduceCtorEq, Int.reduceNe, Int.reduceEq, ne_eq, Nat.reduceLeDiff, Nat.reduceMod, Nat.reduceDiv]) | with_reducible apply And.intro | (simp -implicitDefEqProofs (disch := omega) only [bytesD_at, numsD_at, i64_in, List.length_cons, List.length_nil, Nat.reduceAdd]; done) | (simp only [maxLen]; omega) | omega)
                            all_goals
                              apply VC.at
                              · simp -implicitDefEqProofs only [go_sem, Nat.reduceLT, Nat.reduceAdd, Nat.reduceEqDiff, reduceIte, Nat.reduceMul, Nat.reduceSub, reduceCtorEq, Int.reduceNe, Int.reduceEq, ne_eq, Nat.reduceLeDiff, Nat.reduceMod, Nat.reduceDiv]; (try simp (disch := omega) only [i64_in, tmodn, tdivn]); exact rfl
                              apply VC.regLast ΦB_ok; intro K' hK; dsimp only [List.take, List.drop, List.map, strip, stripG]; simp -implicitDefEqProofs only [go_sem, Nat.reduceLT, Nat.reduceAdd, Nat.reduceEqDiff, reduceIte, Nat.reduceMul, Nat.reduceSub, reduceCtorEq, Int.reduceNe, Int.reduceEq, ne_eq, Nat.reduceLeDiff, Nat.reduceMod, Nat.reduceDiv]
                              (repeat' first | (refine hK _ ?_; clear hK K') | ((first | with_reducible refine runA_id ?_ | with_reducible refine goA_id ?_); simp -implicitDefEqProofs (disch := omega) only [bytesD_at, numsD_at, i64_in]; simp -implicitDefEqProofs only [go_sem, Nat.reduceLT, Nat.reduceAdd, Nat.reduceEqDiff, reduceIte, Nat.reduceMul, Nat.reduceSub, reduceCtorEq, Int.reduceNe, Int.reduceEq, ne_eq, Nat.reduceLeDiff, Nat.reduceMod, Nat.reduceDiv]) | with_reducible apply And.intro | (simp -implicitDefEqProofs (disch := omega) only [bytesD_at, numsD_at, i64_in, List.length_cons, List.length_nil, Nat.reduceAdd]; done) | (simp only [maxLen]; omega) | omega)
                              all_goals
                                refine blockK_n ?_
                                refine thenK_n ?_
                                apply VC.regLast ΦB_ok; intro K' hK; dsimp only [List.take, List.drop, List.map, strip, stripG]; simp -implicitDefEqProofs only [go_sem, Nat.reduceLT, Nat.reduceAdd, Nat.reduceEqDiff, reduceIte, Nat.reduceMul, Nat.reduceSub, reduceCtorEq, Int.reduceNe, Int.reduceEq, ne_eq, Nat.reduceLeDiff, Nat.reduceMod, Nat.reduceDiv]
                                (repeat' first | (refine hK _ ?_; clear hK K') | with_reducible apply And.intro | (simp -implicitDefEqProofs (disch := omega) only [bytesD_at, numsD_at, i64_in, List.length_cons, List.length_nil, Nat.reduceAdd]; done) | (simp only [maxLen]; omega) | omega)
                                all_goals
                                  refine thenK_n ?_
                                  have es := fs_succ b k (by omega)
                                  refine ⟨k + 1, by omega, Ent.to rfl rfl rfl ?_ ?_, by omega⟩
                                  · simp -implicitDefEqProofs only [go_sem, Nat.reduceLT, Nat.reduceAdd, Nat.reduceEqDiff, reduceIte, Nat.reduceMul, Nat.reduceSub, reduceCtorEq, Int.reduceNe, Int.reduceEq, ne_eq, Nat.reduceLeDiff, Nat.reduceMod, Nat.reduceDiv, es, fsS]; (try simp (disch := omega) only [i64_in, tmodn, tdivn]); (try simp only [D.dat.injEq, Vm.Data.int.injEq, true_and, and_true, and_self, eq_self]); (try omega); (try simp_all); (try omega); (try trace_state)
                                  · simp -implicitDefEqProofs only [go_sem, Nat.reduceLT, Nat.reduceAdd, Nat.reduceEqDiff, reduceIte, Nat.reduceMul, Nat.reduceSub, reduceCtorEq, Int.reduceNe, Int.reduceEq, ne_eq, Nat.reduceLeDiff, Nat.reduceMod, Nat.reduceDiv]
                      · intro h; try exact absurd h (by decide)
                        all_goals
                          apply VC.exit
                          refine thenK_e ?_
                          refine thenK_e ?_
                          refine blockK_e ?_
                          refine thenK_n ?_
                          apply VC.seq
                          have ek : k = b.length := by omega
                          obtain ⟨m1, m2, m3⟩ := more_facts b
                          rw [← ek] at m1
                          apply VC.regt ΦB_ok [0, 3, 4, 5, 62]; intro K' hK; dsimp only [List.take, List.drop, List.map, strip, stripG]; simp only [gtmp, List.getElem?_toArray, List.getElem?_cons_succ, List.getElem?_cons_zero, Option.bind_some]; simp -implicitDefEqProofs only [go_sem, Nat.reduceLT, Nat.reduceAdd, Nat.reduceEqDiff, reduceIte, Nat.reduceMul, Nat.reduceSub, reduceCtorEq, Int.reduceNe, Int.reduceEq, ne_eq, Nat.reduceLeDiff, Nat.reduceMod, Nat.reduceDiv]
                          (repeat' first | (refine hK _ ?_; clear hK K') | (first | apply goB_splitD | apply goA_splitD | apply goB_split | apply goA_split | apply goA_all) <;> intro _ <;> simp -implicitDefEqProofs only [go_sem, Nat.reduceLT, Nat.reduceAdd, Nat.reduceEqDiff, reduceIte, Nat.reduceMul, Nat.reduceSub, reduceCtorEq, Int.reduceNe, Int.reduceEq, ne_eq, Nat.reduceLeDiff, Nat.reduceMod, Nat.reduceDiv] | with_reducible apply And.intro | (simp -implicitDefEqProofs (disch := omega) only [bytesD_at, numsD_at, i64_in, List.length_cons, List.length_nil, Nat.reduceAdd]; done) | (simp only [maxLen]; omega) | omega)
                          all_goals
                            apply VC.at
                            · simp -implicitDefEqProofs only [go_sem, Nat.reduceLT, Nat.reduceAdd, Nat.reduceEqDiff, reduceIte, Nat.reduceMul, Nat.reduceSub, reduceCtorEq, Int.reduceNe, Int.reduceEq, ne_eq, Nat.reduceLeDiff, Nat.reduceMod, Nat.reduceDiv]; (try simp (disch := omega) only [i64_in, tmodn, tdivn]); exact rfl
                            first | (apply VC.condd; (focus (simp -implicitDefEqProofs only [go_sem, Nat.reduceLT, Nat.reduceAdd, Nat.reduceEqDiff, reduceIte, Nat.reduceMul, Nat.reduceSub, reduceCtorEq, Int.reduceNe, Int.reduceEq, ne_eq, Nat.reduceLeDiff, Nat.reduceMod, Nat.reduceDiv]; with_reducible exact rfl))) | (apply VC.condn; (focus (simp -implicitDefEqProofs only [go_sem, Nat.reduceLT, Nat.reduceAdd, Nat.reduceEqDiff, reduceIte, Nat.reduceMul, Nat.reduceSub, reduceCtorEq, Int.reduceNe, Int.reduceEq, ne_eq, Nat.reduceLeDiff, Nat.reduceMod, Nat.reduceDiv]; with_reducible exact rfl))) | (apply VC.condt; (focus (simp -implicitDefEqProofs only [go_sem, Nat.reduceLT, Nat.reduceAdd, Nat.reduceEqDiff, reduceIte, Nat.reduceMul, Nat.reduceSub, reduceCtorEq, Int.reduceNe, Int.reduceEq, ne_eq, Nat.reduceLeDiff, Nat.reduceMod, Nat.reduceDiv]; with_reducible exact rfl))) | (apply VC.condb; (focus (simp -implicitDefEqProofs only [go_sem, Nat.reduceLT, Nat.reduceAdd, Nat.reduceEqDiff, reduceIte, Nat.reduceMul, Nat.reduceSub, reduceCtorEq, Int.reduceNe, Int.reduceEq, ne_eq, Nat.reduceLeDiff, Nat.reduceMod, Nat.reduceDiv]; exact rfl)))
                            · intro h; try exact absurd h (by decide)
                              all_goals
                                apply VC.regt ΦB_ok [2]; intro K' hK; dsimp only [List.take, List.drop, List.map, strip, stripG]; simp -implicitDefEqProofs only [go_sem, Nat.reduceLT, Nat.reduceAdd, Nat.reduceEqDiff, reduceIte, Nat.reduceMul, Nat.reduceSub, reduceCtorEq, Int.reduceNe, Int.reduceEq, ne_eq, Nat.reduceLeDiff, Nat.reduceMod, Nat.reduceDiv]
                                (repeat' first | (refine hK _ ?_; clear hK K') | with_reducible apply And.intro | (simp -implicitDefEqProofs (disch := omega) only [bytesD_at, numsD_at, i64_in, List.length_cons, List.length_nil, Nat.reduceAdd]; done) | (simp only [maxLen]; omega) | omega)
                                all_goals
                                  apply VC.at
                                  · simp -implicitDefEqProofs only [go_sem, Nat.reduceLT, Nat.reduceAdd, Nat.reduceEqDiff, reduceIte, Nat.reduceMul, Nat.reduceSub, reduceCtorEq, Int.reduceNe, Int.reduceEq, ne_eq, Nat.reduceLeDiff, Nat.reduceMod, Nat.reduceDiv]; (try simp (disch := omega) only [i64_in, tmodn, tdivn]); exact rfl
                                  apply VC.ret
                                  refine thenK_r ?_
                                  simp -implicitDefEqProofs only [go_sem, Nat.reduceLT, Nat.reduceAdd, Nat.reduceEqDiff, reduceIte, Nat.reduceMul, Nat.reduceSub, reduceCtorEq, Int.reduceNe, Int.reduceEq, ne_eq, Nat.reduceLeDiff, Nat.reduceMod, Nat.reduceDiv]
                                  all_goals (first | trivial | (exfalso; rename_i hq; rw [i64_in _ (by omega)] at hq; omega) | (rw [m3 (may_of (by assumption)) (by omega)]; rfl) | (simp_all; done) | (simp_all; omega))
                            · intro h; try exact absurd h (by decide)
                              all_goals
                                apply VC.skip
                                refine thenK_n ?_
                                have htk : List.take (b.length + 1) (b ++ [0]) = b ++ [0] := List.take_of_length_le (by simp)
                                have hl1 : (b ++ [0]).length = b.length + 1 := by simp
                                apply VC.regt ΦB_ok [3, 4, 5, 9, 10]; intro K' hK; dsimp only [List.take, List.drop, List.map, strip, stripG]; simp -implicitDefEqProofs only [go_sem, Nat.reduceLT, Nat.reduceAdd, Nat.reduceEqDiff, reduceIte, Nat.reduceMul, Nat.reduceSub, reduceCtorEq, Int.reduceNe, Int.reduceEq, ne_eq, Nat.reduceLeDiff, Nat.reduceMod, Nat.reduceDiv, lit0, htk, hl1]
                                (repeat' first | (refine hK _ ?_; clear hK K') | with_reducible apply And.intro | (simp -implicitDefEqProofs (disch := omega) only [bytesD_at, numsD_at, i64_in, List.length_cons, List.length_nil, Nat.reduceAdd]; done) | (simp only [maxLen]; omega) | omega)
                                all_goals
                                  apply VC.at
                                  · simp -implicitDefEqProofs only [go_sem, Nat.reduceLT, Nat.reduceAdd, Nat.reduceEqDiff, reduceIte, Nat.reduceMul, Nat.reduceSub, reduceCtorEq, Int.reduceNe, Int.reduceEq, ne_eq, Nat.reduceLeDiff, Nat.reduceMod, Nat.reduceDiv, lit0, htk, hl1]; (try simp (disch := omega) only [i64_in, tmodn, tdivn]); exact rfl
                                  apply VC.seq
                                  apply VC.regt ΦB_ok [3, 4, 5, 9, 10, 78]; intro K' hK; dsimp only [List.take, List.drop, List.map, strip, stripG]; simp only [gtmp, List.getElem?_toArray, List.getElem?_cons_succ, List.getElem?_cons_zero, Option.bind_some]; simp -implicitDefEqProofs only [go_sem, Nat.reduceLT, Nat.reduceAdd, Nat.reduceEqDiff, reduceIte, Nat.reduceMul, Nat.reduceSub, reduceCtorEq, Int.reduceNe, Int.reduceEq, ne_eq, Nat.reduceLeDiff, Nat.reduceMod, Nat.reduceDiv]
                                  (repeat' first | (refine hK _ ?_; clear hK K') | (first | apply goB_splitD | apply goA_splitD | apply goB_split | apply goA_split | apply goA_all) <;> intro _ <;> simp -implicitDefEqProofs only [go_sem, Nat.reduceLT, Nat.reduceAdd, Nat.reduceEqDiff, reduceIte, Nat.reduceMul, Nat.reduceSub, reduceCtorEq, Int.reduceNe, Int.reduceEq, ne_eq, Nat.reduceLeDiff, Nat.reduceMod, Nat.reduceDiv] | with_reducible apply And.intro | (simp -implicitDefEqProofs (disch := omega) only [bytesD_at, numsD_at, i64_in, List.length_cons, List.length_nil, Nat.reduceAdd]; done) | (simp only [maxLen]; omega) | omega)
                                  all_goals
                                    apply VC.at
                                    · simp -implicitDefEqProofs only [go_sem, Nat.reduceLT, Nat.reduceAdd, Nat.reduceEqDiff, reduceIte, Nat.reduceMul, Nat.reduceSub, reduceCtorEq, Int.reduceNe, Int.reduceEq, ne_eq, Nat.reduceLeDiff, Nat.reduceMod, Nat.reduceDiv]; (try simp (disch := omega) only [i64_in, tmodn, tdivn]); exact rfl
                                    first | (apply VC.condd; (focus (simp -implicitDefEqProofs only [go_sem, Nat.reduceLT, Nat.reduceAdd, Nat.reduceEqDiff, reduceIte, Nat.reduceMul, Nat.reduceSub, reduceCtorEq, Int.reduceNe, Int.reduceEq, ne_eq, Nat.reduceLeDiff, Nat.reduceMod, Nat.reduceDiv]; with_reducible exact rfl))) | (apply VC.condn; (focus (simp -implicitDefEqProofs only [go_sem, Nat.reduceLT, Nat.reduceAdd, Nat.reduceEqDiff, reduceIte, Nat.reduceMul, Nat.reduceSub, reduceCtorEq, Int.reduceNe, Int.reduceEq, ne_eq, Nat.reduceLeDiff, Nat.reduceMod, Nat.reduceDiv]; with_reducible exact rfl))) | (apply VC.condt; (focus (simp -implicitDefEqProofs only [go_sem, Nat.reduceLT, Nat.reduceAdd, Nat.reduceEqDiff, reduceIte, Nat.reduceMul, Nat.reduceSub, reduceCtorEq, Int.reduceNe, Int.reduceEq, ne_eq, Nat.reduceLeDiff, Nat.reduceMod, Nat.reduceDiv]; with_reducible exact rfl))) | (apply VC.condb; (focus (simp -implicitDefEqProofs only [go_sem, Nat.reduceLT, Nat.reduceAdd, Nat.reduceEqDiff, reduceIte, Nat.reduceMul, Nat.reduceSub, reduceCtorEq, Int.reduceNe, Int.reduceEq, ne_eq, Nat.reduceLeDiff, Nat.reduceMod, Nat.reduceDiv]; exact rfl)))
                                    · intro h; try exact absurd h (by decide)
                                      all_goals
                                        have hs : (readS b).isSome = true := may_of (by assumption)
                                        have hm := m2 hs (by omega)
                                        rw [hm]
                                        have hg : ((readS b).getD [] ++ [0]).getD ((readS b).getD []).length 0 = 0 := by simp [List.getD_eq_getElem?_getD]
                                        have hl2 : ((readS b).getD [] ++ [0]).length = ((readS b).getD []).length + 1 := by simp
                                        apply VC.regt ΦB_ok [2]; intro K' hK; dsimp only [List.take, List.drop, List.map, strip, stripG]; simp only [gtmp, List.getElem?_toArray, List.getElem?_cons_succ, List.getElem?_cons_zero, Option.bind_some]; simp -implicitDefEqProofs only [go_sem, Nat.reduceLT, Nat.reduceAdd, Nat.reduceEqDiff, reduceIte, Nat.reduceMul, Nat.reduceSub, reduceCtorEq, Int.reduceNe, Int.reduceEq, ne_eq, Nat.reduceLeDiff, Nat.reduceMod, Nat.reduceDiv, hg, hl2, Option.getD_some, Option.isSome_some]
                                        (repeat' first | (refine hK _ ?_; clear hK K') | (first | apply goB_splitD | apply goA_splitD | apply goB_split | apply goA_split | apply goA_all) <;> intro _ <;> simp -implicitDefEqProofs only [go_sem, Nat.reduceLT, Nat.reduceAdd, Nat.reduceEqDiff, reduceIte, Nat.reduceMul, Nat.reduceSub, reduceCtorEq, Int.reduceNe, Int.reduceEq, ne_eq, Nat.reduceLeDiff, Nat.reduceMod, Nat.reduceDiv, hg, hl2, Option.getD_some, Option.isSome_some] | ((first | with_reducible refine runA_id ?_ | with_reducible refine goA_id ?_); simp -implicitDefEqProofs (disch := omega) only [bytesD_at, numsD_at, i64_in]; simp -implicitDefEqProofs only [go_sem, Nat.reduceLT, Nat.reduceAdd, Nat.reduceEqDiff, reduceIte, Nat.reduceMul, Nat.reduceSub, reduceCtorEq, Int.reduceNe, Int.reduceEq, ne_eq, Nat.reduceLeDiff, Nat.reduceMod, Nat.reduceDiv, hg, hl2, Option.getD_some, Option.isSome_some]) | with_reducible apply And.intro | (simp -implicitDefEqProofs (disch := omega) only [bytesD_at, numsD_at, i64_in, List.length_cons, List.length_nil, Nat.reduceAdd]; done) | (simp only [maxLen]; omega) | omega)
                                        all_goals
                                          apply VC.at
                                          · simp -implicitDefEqProofs only [go_sem, Nat.reduceLT, Nat.reduceAdd, Nat.reduceEqDiff, reduceIte, Nat.reduceMul, Nat.reduceSub, reduceCtorEq, Int.reduceNe, Int.reduceEq, ne_eq, Nat.reduceLeDiff, Nat.reduceMod, Nat.reduceDiv, hg, hl2, Option.getD_some, Option.isSome_some]; (try simp (disch := omega) only [i64_in, tmodn, tdivn]); exact rfl
                                          apply VC.ret
                                          refine thenK_r ?_
                                          simp -implicitDefEqProofs only [go_sem, Nat.reduceLT, Nat.reduceAdd, Nat.reduceEqDiff, reduceIte, Nat.reduceMul, Nat.reduceSub, reduceCtorEq, Int.reduceNe, Int.reduceEq, ne_eq, Nat.reduceLeDiff, Nat.reduceMod, Nat.reduceDiv]
                                          all_goals (first | trivial | (exfalso; rename_i hq; rw [i64_in _ (by omega)] at hq; omega) | (rw [m3 (may_of (by assumption)) (by omega)]; rfl) | (simp_all; done) | (simp_all; omega))
                                    · intro h; try exact absurd h (by decide)
                                      all_goals
                                        apply VC.skip
                                        refine thenK_n ?_
                                        apply VC.regt ΦB_ok [2]; intro K' hK; dsimp only [List.take, List.drop, List.map, strip, stripG]; simp only [gtmp, List.getElem?_toArray, List.getElem?_cons_succ, List.getElem?_cons_zero, Option.bind_some]; simp -implicitDefEqProofs only [go_sem, Nat.reduceLT, Nat.reduceAdd, Nat.reduceEqDiff, reduceIte, Nat.reduceMul, Nat.reduceSub, reduceCtorEq, Int.reduceNe, Int.reduceEq, ne_eq, Nat.reduceLeDiff, Nat.reduceMod, Nat.reduceDiv]
                                        (repeat' first | (refine hK _ ?_; clear hK K') | (first | apply goB_splitD | apply goA_splitD | apply goB_split | apply goA_split | apply goA_all) <;> intro _ <;> simp -implicitDefEqProofs only [go_sem, Nat.reduceLT, Nat.reduceAdd, Nat.reduceEqDiff, reduceIte, Nat.reduceMul, Nat.reduceSub, reduceCtorEq, Int.reduceNe, Int.reduceEq, ne_eq, Nat.reduceLeDiff, Nat.reduceMod, Nat.reduceDiv] | with_reducible apply And.intro | (simp -implicitDefEqProofs (disch := omega) only [bytesD_at, numsD_at, i64_in, List.length_cons, List.length_nil, Nat.reduceAdd]; done) | (simp only [maxLen]; omega) | omega)
                                        all_goals
                                          apply VC.at
                                          · simp -implicitDefEqProofs only [go_sem, Nat.reduceLT, Nat.reduceAdd, Nat.reduceEqDiff, reduceIte, Nat.reduceMul, Nat.reduceSub, reduceCtorEq, Int.reduceNe, Int.reduceEq, ne_eq, Nat.reduceLeDiff, Nat.reduceMod, Nat.reduceDiv]; (try simp (disch := omega) only [i64_in, tmodn, tdivn]); exact rfl
                                          apply VC.ret
                                          simp -implicitDefEqProofs only [go_sem, Nat.reduceLT, Nat.reduceAdd, Nat.reduceEqDiff, reduceIte, Nat.reduceMul, Nat.reduceSub, reduceCtorEq, Int.reduceNe, Int.reduceEq, ne_eq, Nat.reduceLeDiff, Nat.reduceMod, Nat.reduceDiv]
                                          all_goals (first | trivial | (exfalso; rename_i hq; rw [i64_in _ (by omega)] at hq; omega) | (rw [m3 (may_of (by assumption)) (by omega)]; rfl) | (simp_all; done) | (simp_all; omega))
end Go.Proofs.Ytgfadocohpinmaa.Oa

