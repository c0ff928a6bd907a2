/- Texts of numbers, apart from any program; what the law OidTexts computes. No condition. -/
import Derived.Test.YtgfadocohpinmaaDoorOaC
set_option linter.unusedVariables false
set_option linter.unusedSimpArgs false
namespace Go.Proofs.YtgfadocohpinmaaDoor.Oa
open Go Go.RowKit Go.Proofs.YtgfadocohpinmaaDoor.Vm Go.IntWalk
set_option maxRecDepth 100000
set_option maxHeartbeats 4000000
def valS (s : List UInt8) (k : Nat) : Nat := (s.take k).foldl (fun n c => 10 * n + (c.toNat - 48)) 0
def digOk (c : UInt8) : Bool := decide (48 ≤ c.toNat ∧ c.toNat ≤ 57)
def wordOk (s : List UInt8) : Bool := decide (0 < s.length ∧ s.length ≤ 19 ∧ ¬ (1 < s.length ∧ (s.getD 0 0).toNat = 48)) && s.all digOk
theorem valS_zero (s : List UInt8) : valS s 0 = 0 := rfl
theorem valS_succ (s : List UInt8) (k : Nat) (h : k < s.length) : valS s (k + 1) = 10 * valS s k + ((s.getD k 0).toNat - 48) := by
  unfold valS
  rw [List.take_add_one, List.getElem?_eq_getElem h, Option.toList_some, List.foldl_append, List.getD_eq_getElem?_getD, List.getElem?_eq_getElem h]
  rfl
theorem word_no1 (s : List UInt8) (h : ¬ (0 < s.length ∧ s.length ≤ 19 ∧ ¬ (1 < s.length ∧ (s.getD 0 0).toNat = 48))) : wordOk s = false := by
  unfold wordOk; rw [decide_eq_false h]; rfl
theorem word_no2 (s : List UInt8) (k : Nat) (hk : k < s.length) (h : ¬ (48 ≤ (s.getD k 0).toNat ∧ (s.getD k 0).toNat ≤ 57)) : wordOk s = false := by
  unfold wordOk
  rw [Bool.and_eq_false_iff]; right
  refine Bool.eq_false_iff.2 fun e => ?_
  have := List.all_eq_true.1 e (s.getD k 0) (by rw [List.getD_eq_getElem?_getD, List.getElem?_eq_getElem hk]; exact List.getElem_mem hk)
  exact h (of_decide_eq_true this)
theorem word_yes (s : List UInt8) (h : 0 < s.length ∧ s.length ≤ 19 ∧ ¬ (1 < s.length ∧ (s.getD 0 0).toNat = 48)) (hj : ∀ j, j < s.length → 48 ≤ (s.getD j 0).toNat ∧ (s.getD j 0).toNat ≤ 57) : wordOk s = true := by
  unfold wordOk
  rw [decide_eq_true h, Bool.true_and]
  refine List.all_eq_true.2 fun c hc => ?_
  obtain ⟨j, hj', e⟩ := List.mem_iff_getElem.1 hc
  have := hj j hj'
  rw [List.getD_eq_getElem?_getD, List.getElem?_eq_getElem hj', e] at this
  exact decide_eq_true this
def numV (s : List UInt8) : Nat := if wordOk s then valS s s.length else 0
def numOk (s : List UInt8) : Bool := wordOk s && decide (valS s s.length ≤ 9223372036854775807)
theorem pow_step (k n d : Nat) (h : n < 10 ^ k) (hd : d ≤ 9) : 10 * n + d < 10 ^ (k + 1) := by rw [Nat.pow_succ]; omega
theorem pow_small (k n : Nat) (h : n < 10 ^ k) (hk : k ≤ 18) : n < 1000000000000000000 := Nat.lt_of_lt_of_le h (Nat.pow_le_pow_right (by decide) hk)
theorem str_at {s : List UInt8} {k : Nat} (h : k < s.length) : s[k]? = some (s.getD k 0) := by rw [List.getD_eq_getElem?_getD, List.getElem?_eq_getElem h]; rfl
def rnumA (s : List UInt8) : List Vm.Data := [.str s]
noncomputable def rnumF : PFn := PFn.of rnumA (fun s => s.length ≤ 4611686018427387904) (fun s => [.int .u64 ((numV s : Nat) : Int), .bool (numOk s)])
theorem rnum_inj (x y : List UInt8) (h : rnumA x = rnumA y) : x = y := by
  simpa [rnumA, Prod.ext_iff, numsD_inj, bytesD_inj, Vm.Data.lst.injEq, Int.natCast_inj] using h
@[go_sem] theorem rnum_pre (s : List UInt8) : rnumF.pre [.str s] = (s.length ≤ 4611686018427387904) := PFn.of_pre rnum_inj s
@[go_sem] theorem rnum_res (s : List UInt8) : rnumF.res [.str s] = [.int .u64 ((numV s : Nat) : Int), .bool (numOk s)] := PFn.of_res rnum_inj s
theorem rnum_ok : Pure E 31 rnumF := by
  apply Pure.of_body (rs := [.tmp 2, .tmp 3]) (n := 51) Tryd.func31 rfl rfl rfl
  intro ds hds
  obtain ⟨s, rfl, hds⟩ := hds
  (try dsimp only at hds)
  rw [show rnumF.res (rnumA s) = [.int .u64 ((numV s : Nat) : Int), .bool (numOk s)] from rnum_res s]
  skip
  refine ⟨Nat.le_of_ble_eq_true rfl, ?_⟩
  show VC E none _ (pureSt 51 [.str s]) _
  apply VC.regt sound_nil [0]; intro K' hK; dsimp only [List.take, List.drop, List.map, strip, stripG]; simp -implicitDefEqProofs only [go_sem, Nat.reduceLT, Nat.reduceAdd, Nat.reduceEqDiff, reduceIte, Nat.reduceMul, Nat.reduceSub, reduceCtorEq, Int.reduceNe, Int.reduceEq, ne_eq, Nat.reduceLeDiff, Nat.reduceMod, Nat.reduceDiv]
  (repeat' first | (refine hK _ ?_; clear hK K') | with_reducible apply And.intro | (simp -implicitDefEqProofs (disch := omega) only [str_at, i64_in, u64_in, u8_in, List.length_cons, List.length_nil, Nat.reduceAdd]; done) | omega)
  all_goals
    apply VC.at
    · simp -implicitDefEqProofs only [go_sem, Nat.reduceLT, Nat.reduceAdd, Nat.reduceEqDiff, reduceIte, Nat.reduceMul, Nat.reduceSub, reduceCtorEq, Int.reduceNe, Int.reduceEq, ne_eq, Nat.reduceLeDiff, Nat.reduceMod, Nat.reduceDiv]; (try simp (disch := omega) only [i64_in, tmodn, tdivn]); exact rfl
    apply VC.seq
    apply VC.regt sound_nil [0, 23]; intro K' hK; dsimp only [List.take, List.drop, List.map, strip, stripG]; simp only [gtmp, List.getElem?_toArray, List.getElem?_cons_succ, List.getElem?_cons_zero, Option.bind_some]; simp -implicitDefEqProofs only [go_sem, Nat.reduceLT, Nat.reduceAdd, Nat.reduceEqDiff, reduceIte, Nat.reduceMul, Nat.reduceSub, reduceCtorEq, Int.reduceNe, Int.reduceEq, ne_eq, Nat.reduceLeDiff, Nat.reduceMod, Nat.reduceDiv]
    (repeat' first | (refine hK _ ?_; clear hK K') | (first | apply goB_splitD | apply goA_splitD | apply goB_split | apply goA_split | apply goA_all) <;> intro _ <;> simp -implicitDefEqProofs only [go_sem, Nat.reduceLT, Nat.reduceAdd, Nat.reduceEqDiff, reduceIte, Nat.reduceMul, Nat.reduceSub, reduceCtorEq, Int.reduceNe, Int.reduceEq, ne_eq, Nat.reduceLeDiff, Nat.reduceMod, Nat.reduceDiv] | ((first | with_reducible refine runA_id ?_ | with_reducible refine goA_id ?_); simp -implicitDefEqProofs (disch := omega) only [str_at, i64_in, u64_in, u8_in]; simp -implicitDefEqProofs only [go_sem, Nat.reduceLT, Nat.reduceAdd, Nat.reduceEqDiff, reduceIte, Nat.reduceMul, Nat.reduceSub, reduceCtorEq, Int.reduceNe, Int.reduceEq, ne_eq, Nat.reduceLeDiff, Nat.reduceMod, Nat.reduceDiv]) | with_reducible apply And.intro | (simp -implicitDefEqProofs (disch := omega) only [str_at, i64_in, u64_in, u8_in, List.length_cons, List.length_nil, Nat.reduceAdd]; done) | omega)
    all_goals
      apply VC.at
      · simp -implicitDefEqProofs only [go_sem, Nat.reduceLT, Nat.reduceAdd, Nat.reduceEqDiff, reduceIte, Nat.reduceMul, Nat.reduceSub, reduceCtorEq, Int.reduceNe, Int.reduceEq, ne_eq, Nat.reduceLeDiff, Nat.reduceMod, Nat.reduceDiv]; (try simp (disch := omega) only [i64_in, tmodn, tdivn]); exact rfl
      first | (apply VC.condd; (focus (simp -implicitDefEqProofs only [go_sem, Nat.reduceLT, Nat.reduceAdd, Nat.reduceEqDiff, reduceIte, Nat.reduceMul, Nat.reduceSub, reduceCtorEq, Int.reduceNe, Int.reduceEq, ne_eq, Nat.reduceLeDiff, Nat.reduceMod, Nat.reduceDiv]; with_reducible exact rfl))) | (apply VC.condn; (focus (simp -implicitDefEqProofs only [go_sem, Nat.reduceLT, Nat.reduceAdd, Nat.reduceEqDiff, reduceIte, Nat.reduceMul, Nat.reduceSub, reduceCtorEq, Int.reduceNe, Int.reduceEq, ne_eq, Nat.reduceLeDiff, Nat.reduceMod, Nat.reduceDiv]; with_reducible exact rfl))) | (apply VC.condt; (focus (simp -implicitDefEqProofs only [go_sem, Nat.reduceLT, Nat.reduceAdd, Nat.reduceEqDiff, reduceIte, Nat.reduceMul, Nat.reduceSub, reduceCtorEq, Int.reduceNe, Int.reduceEq, ne_eq, Nat.reduceLeDiff, Nat.reduceMod, Nat.reduceDiv]; with_reducible exact rfl))) | (apply VC.condb; (focus (simp -implicitDefEqProofs only [go_sem, Nat.reduceLT, Nat.reduceAdd, Nat.reduceEqDiff, reduceIte, Nat.reduceMul, Nat.reduceSub, reduceCtorEq, Int.reduceNe, Int.reduceEq, ne_eq, Nat.reduceLeDiff, Nat.reduceMod, Nat.reduceDiv]; exact rfl)))
      · intro h; try exact absurd h (by decide)
        all_goals
          apply VC.regt sound_nil [2, 3]; intro K' hK; dsimp only [List.take, List.drop, List.map, strip, stripG]; simp -implicitDefEqProofs only [go_sem, Nat.reduceLT, Nat.reduceAdd, Nat.reduceEqDiff, reduceIte, Nat.reduceMul, Nat.reduceSub, reduceCtorEq, Int.reduceNe, Int.reduceEq, ne_eq, Nat.reduceLeDiff, Nat.reduceMod, Nat.reduceDiv]
          (repeat' first | (refine hK _ ?_; clear hK K') | with_reducible apply And.intro | (simp -implicitDefEqProofs (disch := omega) only [str_at, i64_in, u64_in, u8_in, List.length_cons, List.length_nil, Nat.reduceAdd]; done) | omega)
          all_goals
            apply VC.at
            · simp -implicitDefEqProofs only [go_sem, Nat.reduceLT, Nat.reduceAdd, Nat.reduceEqDiff, reduceIte, Nat.reduceMul, Nat.reduceSub, reduceCtorEq, Int.reduceNe, Int.reduceEq, ne_eq, Nat.reduceLeDiff, Nat.reduceMod, Nat.reduceDiv]; (try simp (disch := omega) only [i64_in, tmodn, tdivn]); exact rfl
            apply VC.ret
            refine thenK_r ?_
            simp -implicitDefEqProofs only [go_sem, Nat.reduceLT, Nat.reduceAdd, Nat.reduceEqDiff, reduceIte, Nat.reduceMul, Nat.reduceSub, reduceCtorEq, Int.reduceNe, Int.reduceEq, ne_eq, Nat.reduceLeDiff, Nat.reduceMod, Nat.reduceDiv]
            all_goals (unfold numV numOk; first | (rw [word_no1 s (by omega)]; rfl) | (rw [word_no2 s k (by omega) (by omega)]; rfl) | (rw [word_yes s hc (fun j h' => hj j (by omega)), show k = s.length by omega]; simp; omega))
      · intro h; try exact absurd h (by decide)
        all_goals
          apply VC.skip
          refine thenK_n ?_
          have hc : 0 < s.length ∧ s.length ≤ 19 ∧ ¬ (1 < s.length ∧ (s.getD 0 0).toNat = 48) := by first | omega
          apply VC.regt sound_nil [0, 4]; intro K' hK; dsimp only [List.take, List.drop, List.map, strip, stripG]; simp -implicitDefEqProofs only [go_sem, Nat.reduceLT, Nat.reduceAdd, Nat.reduceEqDiff, reduceIte, Nat.reduceMul, Nat.reduceSub, reduceCtorEq, Int.reduceNe, Int.reduceEq, ne_eq, Nat.reduceLeDiff, Nat.reduceMod, Nat.reduceDiv]
          (repeat' first | (refine hK _ ?_; clear hK K') | with_reducible apply And.intro | (simp -implicitDefEqProofs (disch := omega) only [str_at, i64_in, u64_in, u8_in, List.length_cons, List.length_nil, Nat.reduceAdd]; done) | omega)
          all_goals
            apply VC.at
            · simp -implicitDefEqProofs only [go_sem, Nat.reduceLT, Nat.reduceAdd, Nat.reduceEqDiff, reduceIte, Nat.reduceMul, Nat.reduceSub, reduceCtorEq, Int.reduceNe, Int.reduceEq, ne_eq, Nat.reduceLeDiff, Nat.reduceMod, Nat.reduceDiv]; (try simp (disch := omega) only [i64_in, tmodn, tdivn]); exact rfl
            apply VC.seq
            apply VC.regt sound_nil [0, 4, 5]; intro K' hK; dsimp only [List.take, List.drop, List.map, strip, stripG]; simp -implicitDefEqProofs only [go_sem, Nat.reduceLT, Nat.reduceAdd, Nat.reduceEqDiff, reduceIte, Nat.reduceMul, Nat.reduceSub, reduceCtorEq, Int.reduceNe, Int.reduceEq, ne_eq, Nat.reduceLeDiff, Nat.reduceMod, Nat.reduceDiv]
            (repeat' first | (refine hK _ ?_; clear hK K') | with_reducible apply And.intro | (simp -implicitDefEqProofs (disch := omega) only [str_at, i64_in, u64_in, u8_in, List.length_cons, List.length_nil, Nat.reduceAdd]; done) | omega)
            all_goals
              apply VC.at
              · simp -implicitDefEqProofs only [go_sem, Nat.reduceLT, Nat.reduceAdd, Nat.reduceEqDiff, reduceIte, Nat.reduceMul, Nat.reduceSub, reduceCtorEq, Int.reduceNe, Int.reduceEq, ne_eq, Nat.reduceLeDiff, Nat.reduceMod, Nat.reduceDiv]; (try simp (disch := omega) only [i64_in, tmodn, tdivn]); exact rfl
              apply VC.block
              refine VC.loopP (ι := Nat) [0] (fun i => [(5, .dat (.int .i64 (i : Int))), (4, .dat (.int .u64 ((valS s i : Nat) : Int)))]) (fun _ => []) (fun i => i ≤ s.length ∧ valS s i < 10 ^ i ∧ ∀ j, j < i → 48 ≤ (s.getD j 0).toNat ∧ (s.getD j 0).toNat ≤ 57) (fun i => s.length - i) 0 ?_ ?_ ?_
              · exact ⟨Nat.zero_le _, by simp [valS_zero], fun j hj => absurd hj (Nat.not_lt_zero _)⟩
              · refine Ent.to rfl rfl rfl ?_ ?_ <;> (simp -implicitDefEqProofs only [go_sem, Nat.reduceLT, Nat.reduceAdd, Nat.reduceEqDiff, reduceIte, Nat.reduceMul, Nat.reduceSub, reduceCtorEq, Int.reduceNe, Int.reduceEq, ne_eq, Nat.reduceLeDiff, Nat.reduceMod, Nat.reduceDiv]; (try simp only [D.dat.injEq, Vm.Data.int.injEq, true_and, and_true, and_self, eq_self]); (try omega); (try ((repeat' apply And.intro) <;> first | omega | rfl)))
              · rintro k hp; (try dsimp only at hp); obtain ⟨hk, hv, hj⟩ := hp
                apply VC.at
                · simp -implicitDefEqProofs only [go_sem, Nat.reduceLT, Nat.reduceAdd, Nat.reduceEqDiff, reduceIte, Nat.reduceMul, Nat.reduceSub, reduceCtorEq, Int.reduceNe, Int.reduceEq, ne_eq, Nat.reduceLeDiff, Nat.reduceMod, Nat.reduceDiv]; (try simp (disch := omega) only [i64_in, tmodn, tdivn]); exact rfl
                apply VC.seq
                apply VC.regt sound_nil [0, 4, 5, 27]; intro K' hK; dsimp only [List.take, List.drop, List.map, strip, stripG]; simp -implicitDefEqProofs only [go_sem, Nat.reduceLT, Nat.reduceAdd, Nat.reduceEqDiff, reduceIte, Nat.reduceMul, Nat.reduceSub, reduceCtorEq, Int.reduceNe, Int.reduceEq, ne_eq, Nat.reduceLeDiff, Nat.reduceMod, Nat.reduceDiv]
                (repeat' first | (refine hK _ ?_; clear hK K') | with_reducible apply And.intro | (simp -implicitDefEqProofs (disch := omega) only [str_at, i64_in, u64_in, u8_in, List.length_cons, List.length_nil, Nat.reduceAdd]; done) | omega)
                all_goals
                  apply VC.at
                  · simp -implicitDefEqProofs only [go_sem, Nat.reduceLT, Nat.reduceAdd, Nat.reduceEqDiff, reduceIte, Nat.reduceMul, Nat.reduceSub, reduceCtorEq, Int.reduceNe, Int.reduceEq, ne_eq, Nat.reduceLeDiff, Nat.reduceMod, Nat.reduceDiv]; (try simp (disch := omega) only [i64_in, tmodn, tdivn]); exact rfl
                  first | (apply VC.condd; (focus (simp -implicitDefEqProofs only [go_sem, Nat.reduceLT, Nat.reduceAdd, Nat.reduceEqDiff, reduceIte, Nat.reduceMul, Nat.reduceSub, reduceCtorEq, Int.reduceNe, Int.reduceEq, ne_eq, Nat.reduceLeDiff, Nat.reduceMod, Nat.reduceDiv]; with_reducible exact rfl))) | (apply VC.condn; (focus (simp -implicitDefEqProofs only [go_sem, Nat.reduceLT, Nat.reduceAdd, Nat.reduceEqDiff, reduceIte, Nat.reduceMul, Nat.reduceSub, reduceCtorEq, Int.reduceNe, Int.reduceEq, ne_eq, Nat.reduceLeDiff, Nat.reduceMod, Nat.reduceDiv]; with_reducible exact rfl))) | (apply VC.condt; (focus (simp -implicitDefEqProofs only [go_sem, Nat.reduceLT, Nat.reduceAdd, Nat.reduceEqDiff, reduceIte, Nat.reduceMul, Nat.reduceSub, reduceCtorEq, Int.reduceNe, Int.reduceEq, ne_eq, Nat.reduceLeDiff, Nat.reduceMod, Nat.reduceDiv]; with_reducible exact rfl))) | (apply VC.condb; (focus (simp -implicitDefEqProofs only [go_sem, Nat.reduceLT, Nat.reduceAdd, Nat.reduceEqDiff, reduceIte, Nat.reduceMul, Nat.reduceSub, reduceCtorEq, Int.reduceNe, Int.reduceEq, ne_eq, Nat.reduceLeDiff, Nat.reduceMod, Nat.reduceDiv]; exact rfl)))
                  · intro h; try exact absurd h (by decide)
                    all_goals
                      apply VC.skip
                      refine thenK_n ?_
                      apply VC.seq
                      apply VC.block
                      apply VC.seq
                      apply VC.regt sound_nil [0, 4, 5, 39]; intro K' hK; dsimp only [List.take, List.drop, List.map, strip, stripG]; simp only [gtmp, List.getElem?_toArray, List.getElem?_cons_succ, List.getElem?_cons_zero, Option.bind_some]; simp -implicitDefEqProofs only [go_sem, Nat.reduceLT, Nat.reduceAdd, Nat.reduceEqDiff, reduceIte, Nat.reduceMul, Nat.reduceSub, reduceCtorEq, Int.reduceNe, Int.reduceEq, ne_eq, Nat.reduceLeDiff, Nat.reduceMod, Nat.reduceDiv]
                      (repeat' first | (refine hK _ ?_; clear hK K') | (first | apply goB_splitD | apply goA_splitD | apply goB_split | apply goA_split | apply goA_all) <;> intro _ <;> simp -implicitDefEqProofs only [go_sem, Nat.reduceLT, Nat.reduceAdd, Nat.reduceEqDiff, reduceIte, Nat.reduceMul, Nat.reduceSub, reduceCtorEq, Int.reduceNe, Int.reduceEq, ne_eq, Nat.reduceLeDiff, Nat.reduceMod, Nat.reduceDiv] | ((first | with_reducible refine runA_id ?_ | with_reducible refine goA_id ?_); simp -implicitDefEqProofs (disch := omega) only [str_at, i64_in, u64_in, u8_in]; simp -implicitDefEqProofs only [go_sem, Nat.reduceLT, Nat.reduceAdd, Nat.reduceEqDiff, reduceIte, Nat.reduceMul, Nat.reduceSub, reduceCtorEq, Int.reduceNe, Int.reduceEq, ne_eq, Nat.reduceLeDiff, Nat.reduceMod, Nat.reduceDiv]) | with_reducible apply And.intro | (simp -implicitDefEqProofs (disch := omega) only [str_at, i64_in, u64_in, u8_in, List.length_cons, List.length_nil, Nat.reduceAdd]; done) | omega)
                      all_goals
                        apply VC.at
                        · simp -implicitDefEqProofs only [go_sem, Nat.reduceLT, Nat.reduceAdd, Nat.reduceEqDiff, reduceIte, Nat.reduceMul, Nat.reduceSub, reduceCtorEq, Int.reduceNe, Int.reduceEq, ne_eq, Nat.reduceLeDiff, Nat.reduceMod, Nat.reduceDiv]; (try simp (disch := omega) only [i64_in, tmodn, tdivn]); exact rfl
                        first | (apply VC.condd; (focus (simp -implicitDefEqProofs only [go_sem, Nat.reduceLT, Nat.reduceAdd, Nat.reduceEqDiff, reduceIte, Nat.reduceMul, Nat.reduceSub, reduceCtorEq, Int.reduceNe, Int.reduceEq, ne_eq, Nat.reduceLeDiff, Nat.reduceMod, Nat.reduceDiv]; with_reducible exact rfl))) | (apply VC.condn; (focus (simp -implicitDefEqProofs only [go_sem, Nat.reduceLT, Nat.reduceAdd, Nat.reduceEqDiff, reduceIte, Nat.reduceMul, Nat.reduceSub, reduceCtorEq, Int.reduceNe, Int.reduceEq, ne_eq, Nat.reduceLeDiff, Nat.reduceMod, Nat.reduceDiv]; with_reducible exact rfl))) | (apply VC.condt; (focus (simp -implicitDefEqProofs only [go_sem, Nat.reduceLT, Nat.reduceAdd, Nat.reduceEqDiff, reduceIte, Nat.reduceMul, Nat.reduceSub, reduceCtorEq, Int.reduceNe, Int.reduceEq, ne_eq, Nat.reduceLeDiff, Nat.reduceMod, Nat.reduceDiv]; with_reducible exact rfl))) | (apply VC.condb; (focus (simp -implicitDefEqProofs only [go_sem, Nat.reduceLT, Nat.reduceAdd, Nat.reduceEqDiff, reduceIte, Nat.reduceMul, Nat.reduceSub, reduceCtorEq, Int.reduceNe, Int.reduceEq, ne_eq, Nat.reduceLeDiff, Nat.reduceMod, Nat.reduceDiv]; exact rfl)))
                        · intro h; try exact absurd h (by decide)
                          all_goals
                            apply VC.regt sound_nil [2, 3]; intro K' hK; dsimp only [List.take, List.drop, List.map, strip, stripG]; simp -implicitDefEqProofs only [go_sem, Nat.reduceLT, Nat.reduceAdd, Nat.reduceEqDiff, reduceIte, Nat.reduceMul, Nat.reduceSub, reduceCtorEq, Int.reduceNe, Int.reduceEq, ne_eq, Nat.reduceLeDiff, Nat.reduceMod, Nat.reduceDiv]
                            (repeat' first | (refine hK _ ?_; clear hK K') | with_reducible apply And.intro | (simp -implicitDefEqProofs (disch := omega) only [str_at, i64_in, u64_in, u8_in, List.length_cons, List.length_nil, Nat.reduceAdd]; done) | omega)
                            all_goals
                              apply VC.at
                              · simp -implicitDefEqProofs only [go_sem, Nat.reduceLT, Nat.reduceAdd, Nat.reduceEqDiff, reduceIte, Nat.reduceMul, Nat.reduceSub, reduceCtorEq, Int.reduceNe, Int.reduceEq, ne_eq, Nat.reduceLeDiff, Nat.reduceMod, Nat.reduceDiv]; (try simp (disch := omega) only [i64_in, tmodn, tdivn]); exact rfl
                              apply VC.ret
                              refine thenK_r ?_
                              refine blockK_r ?_
                              refine thenK_r ?_
                              refine thenK_r ?_
                              refine blockK_r ?_
                              refine thenK_r ?_
                              simp -implicitDefEqProofs only [go_sem, Nat.reduceLT, Nat.reduceAdd, Nat.reduceEqDiff, reduceIte, Nat.reduceMul, Nat.reduceSub, reduceCtorEq, Int.reduceNe, Int.reduceEq, ne_eq, Nat.reduceLeDiff, Nat.reduceMod, Nat.reduceDiv]
                              all_goals (unfold numV numOk; first | (rw [word_no1 s (by omega)]; rfl) | (rw [word_no2 s k (by omega) (by omega)]; rfl) | (rw [word_yes s hc (fun j h' => hj j (by omega)), show k = s.length by omega]; simp; omega))
                        · intro h; try exact absurd h (by decide)
                          all_goals
                            apply VC.skip
                            refine thenK_n ?_
                            have hvs := pow_small k _ hv (by omega)
                            apply VC.regLast sound_nil; intro K' hK; dsimp only [List.take, List.drop, List.map, strip, stripG]; simp -implicitDefEqProofs only [go_sem, Nat.reduceLT, Nat.reduceAdd, Nat.reduceEqDiff, reduceIte, Nat.reduceMul, Nat.reduceSub, reduceCtorEq, Int.reduceNe, Int.reduceEq, ne_eq, Nat.reduceLeDiff, Nat.reduceMod, Nat.reduceDiv]
                            (repeat' first | (refine hK _ ?_; clear hK K') | ((first | with_reducible refine runA_id ?_ | with_reducible refine goA_id ?_); simp -implicitDefEqProofs (disch := omega) only [str_at, i64_in, u64_in, u8_in]; simp -implicitDefEqProofs only [go_sem, Nat.reduceLT, Nat.reduceAdd, Nat.reduceEqDiff, reduceIte, Nat.reduceMul, Nat.reduceSub, reduceCtorEq, Int.reduceNe, Int.reduceEq, ne_eq, Nat.reduceLeDiff, Nat.reduceMod, Nat.reduceDiv]) | with_reducible apply And.intro | (simp -implicitDefEqProofs (disch := omega) only [str_at, i64_in, u64_in, u8_in, List.length_cons, List.length_nil, Nat.reduceAdd]; done) | omega)
                            all_goals
                              refine blockK_n ?_
                              refine thenK_n ?_
                              apply VC.regLast sound_nil; intro K' hK; dsimp only [List.take, List.drop, List.map, strip, stripG]; simp -implicitDefEqProofs only [go_sem, Nat.reduceLT, Nat.reduceAdd, Nat.reduceEqDiff, reduceIte, Nat.reduceMul, Nat.reduceSub, reduceCtorEq, Int.reduceNe, Int.reduceEq, ne_eq, Nat.reduceLeDiff, Nat.reduceMod, Nat.reduceDiv]
                              (repeat' first | (refine hK _ ?_; clear hK K') | with_reducible apply And.intro | (simp -implicitDefEqProofs (disch := omega) only [str_at, i64_in, u64_in, u8_in, List.length_cons, List.length_nil, Nat.reduceAdd]; done) | omega)
                              all_goals
                                refine thenK_n ?_
                                refine ⟨(k + 1), ?_, Ent.to rfl rfl rfl ?_ ?_, ?_⟩
                                · refine ⟨by omega, by rw [valS_succ s k (by omega)]; exact pow_step k _ _ hv (by omega), fun j h' => ?_⟩
                                  rcases Nat.lt_or_ge j k with h2 | h2
                                  · exact hj j h2
                                  · obtain rfl : j = k := by omega
                                    omega
                                · simp -implicitDefEqProofs only [go_sem, Nat.reduceLT, Nat.reduceAdd, Nat.reduceEqDiff, reduceIte, Nat.reduceMul, Nat.reduceSub, reduceCtorEq, Int.reduceNe, Int.reduceEq, ne_eq, Nat.reduceLeDiff, Nat.reduceMod, Nat.reduceDiv]; (try simp (disch := omega) only [i64_in, tmodn, tdivn]); rw [valS_succ s k (by omega)]; (try simp (disch := omega) only [u8_in, u64_in]); (try simp only [D.dat.injEq, Vm.Data.int.injEq, true_and, and_true, and_self, eq_self]); first | omega
                                · simp -implicitDefEqProofs only [go_sem, Nat.reduceLT, Nat.reduceAdd, Nat.reduceEqDiff, reduceIte, Nat.reduceMul, Nat.reduceSub, reduceCtorEq, Int.reduceNe, Int.reduceEq, ne_eq, Nat.reduceLeDiff, Nat.reduceMod, Nat.reduceDiv]; (try simp (disch := omega) only [i64_in, tmodn, tdivn]); (try simp only [D.dat.injEq, Vm.Data.int.injEq, true_and, and_true, and_self, eq_self]); (try omega); (try ((repeat' apply And.intro) <;> first | omega | rfl))
                                · omega
                  · intro h; try exact absurd h (by decide)
                    all_goals
                      apply VC.exit
                      refine thenK_e ?_
                      refine thenK_e ?_
                      refine blockK_e ?_
                      refine thenK_n ?_
                      apply VC.regt sound_nil [2, 3]; intro K' hK; dsimp only [List.take, List.drop, List.map, strip, stripG]; simp -implicitDefEqProofs only [go_sem, Nat.reduceLT, Nat.reduceAdd, Nat.reduceEqDiff, reduceIte, Nat.reduceMul, Nat.reduceSub, reduceCtorEq, Int.reduceNe, Int.reduceEq, ne_eq, Nat.reduceLeDiff, Nat.reduceMod, Nat.reduceDiv]
                      (repeat' first | (refine hK _ ?_; clear hK K') | with_reducible apply And.intro | (simp -implicitDefEqProofs (disch := omega) only [str_at, i64_in, u64_in, u8_in, List.length_cons, List.length_nil, Nat.reduceAdd]; done) | omega)
                      all_goals
                        apply VC.at
                        · simp -implicitDefEqProofs only [go_sem, Nat.reduceLT, Nat.reduceAdd, Nat.reduceEqDiff, reduceIte, Nat.reduceMul, Nat.reduceSub, reduceCtorEq, Int.reduceNe, Int.reduceEq, ne_eq, Nat.reduceLeDiff, Nat.reduceMod, Nat.reduceDiv]; (try simp (disch := omega) only [i64_in, tmodn, tdivn]); exact rfl
                        apply VC.ret
                        simp -implicitDefEqProofs only [go_sem, Nat.reduceLT, Nat.reduceAdd, Nat.reduceEqDiff, reduceIte, Nat.reduceMul, Nat.reduceSub, reduceCtorEq, Int.reduceNe, Int.reduceEq, ne_eq, Nat.reduceLeDiff, Nat.reduceMod, Nat.reduceDiv]
                        all_goals (unfold numV numOk; first | (rw [word_no1 s (by omega)]; rfl) | (rw [word_no2 s k (by omega) (by omega)]; rfl) | (rw [word_yes s hc (fun j h' => hj j (by omega)), show k = s.length by omega]; simp; omega))
end Go.Proofs.YtgfadocohpinmaaDoor.Oa
namespace Go.Proofs.YtgfadocohpinmaaDoor.Oa
open Go Go.RowKit Go.Proofs.YtgfadocohpinmaaDoor.Vm Go.IntWalk
set_option maxRecDepth 100000
set_option maxHeartbeats 4000000
noncomputable def ΦR5 : Fns := tab [(31, rnumF), (12, rmayF)]
theorem ΦR5_ok : Sound E ΦR5 := sound_cons (by kernel_rfl) rnum_ok (sound_cons (by kernel_rfl) rmay_ok (sound_nil))
@[go_sem] theorem ΦR5_31 : ΦR5 31 = some rnumF := rfl
@[go_sem] theorem ΦR5_12 : ΦR5 12 = some rmayF := rfl
def parseC : List UInt8 → List UInt8 → List Nat → Option (List Nat)
  | [], cur, out => if numOk cur then some (out ++ [numV cur]) else none
  | c :: r, cur, out => if c.toNat = 46 then (if numOk cur then parseC r [] (out ++ [numV cur]) else none) else parseC r (cur ++ [c]) out
def wd (s : List UInt8) (f i : Nat) : List UInt8 := (s.drop f).take (i - f)
def contP (s : List UInt8) (i f : Nat) (out : List Nat) : Option (List Nat) := if i ≤ s.length then parseC (s.drop i) (wd s f i) out else some out
/-- The document's answer: the numbers of a text. -/
def parseR (s : List UInt8) : Option (List Nat) := match parseC s [] [] with
  | some l => if may l then some l else none
  | none => none
theorem contP_start (s : List UInt8) : contP s 0 0 [] = parseC s [] [] := by simp [contP, wd]
theorem drop_cons {s : List UInt8} {i : Nat} (h : i < s.length) : s.drop i = s.getD i 0 :: s.drop (i + 1) := by
  rw [List.drop_eq_getElem_cons h, List.getD_eq_getElem?_getD, List.getElem?_eq_getElem h]; rfl
theorem wd_succ (s : List UInt8) (f i : Nat) (h : i < s.length) (hf : f ≤ i) : wd s f (i + 1) = wd s f i ++ [s.getD i 0] := by
  unfold wd
  rw [show i + 1 - f = (i - f) + 1 by omega, List.take_add_one, List.getElem?_drop, show f + (i - f) = i by omega, List.getElem?_eq_getElem h, List.getD_eq_getElem?_getD, List.getElem?_eq_getElem h]
  rfl
theorem wd_self (s : List UInt8) (f : Nat) : wd s f f = [] := by simp [wd]
theorem wd_len (s : List UInt8) (f i : Nat) : (wd s f i).length ≤ s.length := by simp only [wd, List.length_take, List.length_drop]; omega
theorem contP_skip (s : List UInt8) (i f : Nat) (out : List Nat) (h : i < s.length) (hf : f ≤ i) (h' : (s.getD i 0).toNat ≠ 46) : contP s (i + 1) f out = contP s i f out := by
  unfold contP
  rw [if_pos (by omega), if_pos (by omega), drop_cons h, wd_succ s f i h hf]
  simp only [parseC, if_neg h']
theorem contP_word (s : List UInt8) (i f : Nat) (out : List Nat) (h : i ≤ s.length) (h' : i < s.length → (s.getD i 0).toNat = 46) (hok : numOk (wd s f i) = true) : contP s (i + 1) (i + 1) (out ++ [numV (wd s f i)]) = contP s i f out := by
  unfold contP
  rw [if_pos h]
  rcases Nat.lt_or_ge i s.length with h1 | h1
  · rw [if_pos (by omega), drop_cons h1, wd_self]
    simp only [parseC, if_pos (h' h1), hok, if_true]
  · rw [if_neg (by omega), List.drop_eq_nil_of_le h1]
    simp only [parseC, hok, if_true]
theorem contP_bad (s : List UInt8) (i f : Nat) (out : List Nat) (h : i ≤ s.length) (h' : i < s.length → (s.getD i 0).toNat = 46) (hok : numOk (wd s f i) = false) : contP s i f out = none := by
  unfold contP
  rw [if_pos h]
  rcases Nat.lt_or_ge i s.length with h1 | h1
  · rw [drop_cons h1]
    simp only [parseC, if_pos (h' h1), hok]; rfl
  · rw [List.drop_eq_nil_of_le h1]
    simp only [parseC, hok]; rfl
theorem contP_end (s : List UInt8) (i f : Nat) (out : List Nat) (h : s.length < i) : contP s i f out = some out := if_neg (by omega)
theorem wd_eq (s : List UInt8) (f i : Nat) : List.take ((i : Int) - (f : Int)).toNat (List.drop f s) = wd s f i := by unfold wd; rw [show ((i : Int) - (f : Int)).toNat = i - f by omega]
theorem parseR_bad {s : List UInt8} (h : parseC s [] [] = none) : parseR s = none := by unfold parseR; rw [h]
theorem parseR_no {s : List UInt8} {out : List Nat} (h : parseC s [] [] = some out) (h' : may out = false) : parseR s = none := by unfold parseR; rw [h]; dsimp only; rw [h']; rfl
theorem parseR_yes {s : List UInt8} {out : List Nat} (h : parseC s [] [] = some out) (h' : may out = true) : parseR s = some out := by unfold parseR; rw [h]; dsimp only; rw [if_pos h']
theorem sub_nat (a b : Nat) : ((a : Int) - (b : Int)).toNat = a - b := by omega
def rparseA (s : List UInt8) : List Vm.Data := [.str s]
noncomputable def rparseF : PFn := PFn.of rparseA (fun s => s.length ≤ 100000) (fun s => [.lst (numsD ((parseR s).getD [])), .int .i64 (if (parseR s).isSome then 0 else 140)])
theorem rparse_inj (x y : List UInt8) (h : rparseA x = rparseA y) : x = y := by
  simpa [rparseA, Prod.ext_iff, numsD_inj, bytesD_inj, Vm.Data.lst.injEq, Int.natCast_inj] using h
@[go_sem] theorem rparse_pre (s : List UInt8) : rparseF.pre [.str s] = (s.length ≤ 100000) := PFn.of_pre rparse_inj s
@[go_sem] theorem rparse_res (s : List UInt8) : rparseF.res [.str s] = [.lst (numsD ((parseR s).getD [])), .int .i64 (if (parseR s).isSome then 0 else 140)] := PFn.of_res rparse_inj s
theorem rparse_ok : Pure E 11 rparseF := by
  apply Pure.of_body (rs := [.tmp 2, .tmp 3]) (n := 47) Tryd.func11 rfl rfl rfl
  intro ds hds
  obtain ⟨s, rfl, hds⟩ := hds
  (try dsimp only at hds)
  rw [show rparseF.res (rparseA s) = [.lst (numsD ((parseR s).getD [])), .int .i64 (if (parseR s).isSome then 0 else 140)] from rparse_res s]
  skip
  refine ⟨Nat.le_of_ble_eq_true rfl, ?_⟩
  show VC E none _ (pureSt 47 [.str s]) _
  apply VC.regt ΦR5_ok [0]; intro K' hK; dsimp only [List.take, List.drop, List.map, strip, stripG]; simp -implicitDefEqProofs only [go_sem, Nat.reduceLT, Nat.reduceAdd, Nat.reduceEqDiff, reduceIte, Nat.reduceMul, Nat.reduceSub, reduceCtorEq, Int.reduceNe, Int.reduceEq, ne_eq, Nat.reduceLeDiff, Nat.reduceMod, Nat.reduceDiv]
  (repeat' first | (refine hK _ ?_; clear hK K') | with_reducible apply And.intro | (simp -implicitDefEqProofs (disch := omega) only [i64_in, u64_in, Int.toNat_natCast, sub_nat, List.length_cons, List.length_nil, Nat.reduceAdd]; done) | (simp only [maxLen]; omega) | omega | (simp only [List.length_take, List.length_drop]; omega) | (simp only [numsD_len]; omega))
  all_goals
    apply VC.at
    · simp -implicitDefEqProofs only [go_sem, Nat.reduceLT, Nat.reduceAdd, Nat.reduceEqDiff, reduceIte, Nat.reduceMul, Nat.reduceSub, reduceCtorEq, Int.reduceNe, Int.reduceEq, ne_eq, Nat.reduceLeDiff, Nat.reduceMod, Nat.reduceDiv]; (try simp (disch := omega) only [i64_in, tmodn, tdivn]); exact rfl
    apply VC.regt ΦR5_ok [0, 4]; intro K' hK; dsimp only [List.take, List.drop, List.map, strip, stripG]; simp -implicitDefEqProofs only [go_sem, Nat.reduceLT, Nat.reduceAdd, Nat.reduceEqDiff, reduceIte, Nat.reduceMul, Nat.reduceSub, reduceCtorEq, Int.reduceNe, Int.reduceEq, ne_eq, Nat.reduceLeDiff, Nat.reduceMod, Nat.reduceDiv]
    (repeat' first | (refine hK _ ?_; clear hK K') | with_reducible apply And.intro | (simp -implicitDefEqProofs (disch := omega) only [i64_in, u64_in, Int.toNat_natCast, sub_nat, List.length_cons, List.length_nil, Nat.reduceAdd]; done) | (simp only [maxLen]; omega) | omega | (simp only [List.length_take, List.length_drop]; omega) | (simp only [numsD_len]; omega))
    all_goals
      apply VC.at
      · simp -implicitDefEqProofs only [go_sem, Nat.reduceLT, Nat.reduceAdd, Nat.reduceEqDiff, reduceIte, Nat.reduceMul, Nat.reduceSub, reduceCtorEq, Int.reduceNe, Int.reduceEq, ne_eq, Nat.reduceLeDiff, Nat.reduceMod, Nat.reduceDiv]; (try simp (disch := omega) only [i64_in, tmodn, tdivn]); exact rfl
      apply VC.regt ΦR5_ok [0, 4, 5]; intro K' hK; dsimp only [List.take, List.drop, List.map, strip, stripG]; simp -implicitDefEqProofs only [go_sem, Nat.reduceLT, Nat.reduceAdd, Nat.reduceEqDiff, reduceIte, Nat.reduceMul, Nat.reduceSub, reduceCtorEq, Int.reduceNe, Int.reduceEq, ne_eq, Nat.reduceLeDiff, Nat.reduceMod, Nat.reduceDiv]
      (repeat' first | (refine hK _ ?_; clear hK K') | with_reducible apply And.intro | (simp -implicitDefEqProofs (disch := omega) only [i64_in, u64_in, Int.toNat_natCast, sub_nat, List.length_cons, List.length_nil, Nat.reduceAdd]; done) | (simp only [maxLen]; omega) | omega | (simp only [List.length_take, List.length_drop]; omega) | (simp only [numsD_len]; omega))
      all_goals
        apply VC.at
        · simp -implicitDefEqProofs only [go_sem, Nat.reduceLT, Nat.reduceAdd, Nat.reduceEqDiff, reduceIte, Nat.reduceMul, Nat.reduceSub, reduceCtorEq, Int.reduceNe, Int.reduceEq, ne_eq, Nat.reduceLeDiff, Nat.reduceMod, Nat.reduceDiv]; (try simp (disch := omega) only [i64_in, tmodn, tdivn]); exact rfl
        apply VC.seq
        apply VC.regt ΦR5_ok [0, 4, 5, 6]; intro K' hK; dsimp only [List.take, List.drop, List.map, strip, stripG]; simp -implicitDefEqProofs only [go_sem, Nat.reduceLT, Nat.reduceAdd, Nat.reduceEqDiff, reduceIte, Nat.reduceMul, Nat.reduceSub, reduceCtorEq, Int.reduceNe, Int.reduceEq, ne_eq, Nat.reduceLeDiff, Nat.reduceMod, Nat.reduceDiv]
        (repeat' first | (refine hK _ ?_; clear hK K') | with_reducible apply And.intro | (simp -implicitDefEqProofs (disch := omega) only [i64_in, u64_in, Int.toNat_natCast, sub_nat, List.length_cons, List.length_nil, Nat.reduceAdd]; done) | (simp only [maxLen]; omega) | omega | (simp only [List.length_take, List.length_drop]; omega) | (simp only [numsD_len]; omega))
        all_goals
          apply VC.at
          · simp -implicitDefEqProofs only [go_sem, Nat.reduceLT, Nat.reduceAdd, Nat.reduceEqDiff, reduceIte, Nat.reduceMul, Nat.reduceSub, reduceCtorEq, Int.reduceNe, Int.reduceEq, ne_eq, Nat.reduceLeDiff, Nat.reduceMod, Nat.reduceDiv]; (try simp (disch := omega) only [i64_in, tmodn, tdivn]); exact rfl
          apply VC.block
          refine VC.loopP (ι := Nat × Nat × List Nat) [0] (fun i => [(6, .dat (.int .i64 (i.1 : Int))), (5, .dat (.int .i64 (i.2.1 : Int))), (4, .sl 1 0 i.2.2.length)]) (fun i => [(1, .arr 36 1 (numsD i.2.2) 0)]) (fun i => i.1 ≤ s.length + 1 ∧ i.2.1 ≤ i.1 ∧ i.2.2.length ≤ i.1 ∧ contP s i.1 i.2.1 i.2.2 = parseC s [] []) (fun i => s.length + 1 - i.1) (0, 0, []) ⟨Nat.zero_le _, Nat.zero_le _, Nat.le_refl _, contP_start s⟩ ?_ ?_
          · refine (Ent.nilT 4 1 36 1 (by decide) (by simp -implicitDefEqProofs only [go_sem, Nat.reduceLT, Nat.reduceAdd, Nat.reduceEqDiff, reduceIte, Nat.reduceMul, Nat.reduceSub, reduceCtorEq, Int.reduceNe, Int.reduceEq, ne_eq, Nat.reduceLeDiff, Nat.reduceMod, Nat.reduceDiv]) (by simp -implicitDefEqProofs only [go_sem, Nat.reduceLT, Nat.reduceAdd, Nat.reduceEqDiff, reduceIte, Nat.reduceMul, Nat.reduceSub, reduceCtorEq, Int.reduceNe, Int.reduceEq, ne_eq, Nat.reduceLeDiff, Nat.reduceMod, Nat.reduceDiv])).trans (Ent.to rfl rfl rfl ?_ ?_)
            · simp -implicitDefEqProofs only [go_sem, Nat.reduceLT, Nat.reduceAdd, Nat.reduceEqDiff, reduceIte, Nat.reduceMul, Nat.reduceSub, reduceCtorEq, Int.reduceNe, Int.reduceEq, ne_eq, Nat.reduceLeDiff, Nat.reduceMod, Nat.reduceDiv]; (try simp only [D.dat.injEq, Vm.Data.int.injEq, true_and, and_true, and_self, eq_self]); (try omega); (try ((repeat' apply And.intro) <;> first | omega | rfl))
            · (repeat' (first | exact all_nil | (refine all_cons ?_ ?_))) <;> (simp -implicitDefEqProofs only [go_sem, Nat.reduceLT, Nat.reduceAdd, Nat.reduceEqDiff, reduceIte, Nat.reduceMul, Nat.reduceSub, reduceCtorEq, Int.reduceNe, Int.reduceEq, ne_eq, Nat.reduceLeDiff, Nat.reduceMod, Nat.reduceDiv]; (try rfl); try rfl)
          · rintro ⟨i, f, out⟩ hp; (try dsimp only at hp); obtain ⟨hi, hf, hl, hc⟩ := hp
            apply VC.at
            · simp -implicitDefEqProofs only [go_sem, Nat.reduceLT, Nat.reduceAdd, Nat.reduceEqDiff, reduceIte, Nat.reduceMul, Nat.reduceSub, reduceCtorEq, Int.reduceNe, Int.reduceEq, ne_eq, Nat.reduceLeDiff, Nat.reduceMod, Nat.reduceDiv]; (try simp (disch := omega) only [i64_in, tmodn, tdivn]); exact rfl
            apply VC.seq
            apply VC.regt ΦR5_ok [0, 4, 5, 6, 13]; intro K' hK; dsimp only [List.take, List.drop, List.map, strip, stripG]; simp -implicitDefEqProofs only [go_sem, Nat.reduceLT, Nat.reduceAdd, Nat.reduceEqDiff, reduceIte, Nat.reduceMul, Nat.reduceSub, reduceCtorEq, Int.reduceNe, Int.reduceEq, ne_eq, Nat.reduceLeDiff, Nat.reduceMod, Nat.reduceDiv]
            (repeat' first | (refine hK _ ?_; clear hK K') | with_reducible apply And.intro | (simp -implicitDefEqProofs (disch := omega) only [i64_in, u64_in, Int.toNat_natCast, sub_nat, List.length_cons, List.length_nil, Nat.reduceAdd]; done) | (simp only [maxLen]; omega) | omega | (simp only [List.length_take, List.length_drop]; omega) | (simp only [numsD_len]; omega))
            all_goals
              apply VC.at
              · simp -implicitDefEqProofs only [go_sem, Nat.reduceLT, Nat.reduceAdd, Nat.reduceEqDiff, reduceIte, Nat.reduceMul, Nat.reduceSub, reduceCtorEq, Int.reduceNe, Int.reduceEq, ne_eq, Nat.reduceLeDiff, Nat.reduceMod, Nat.reduceDiv]; (try simp (disch := omega) only [i64_in, tmodn, tdivn]); exact rfl
              first | (apply VC.condd; (focus (simp -implicitDefEqProofs only [go_sem, Nat.reduceLT, Nat.reduceAdd, Nat.reduceEqDiff, reduceIte, Nat.reduceMul, Nat.reduceSub, reduceCtorEq, Int.reduceNe, Int.reduceEq, ne_eq, Nat.reduceLeDiff, Nat.reduceMod, Nat.reduceDiv]; with_reducible exact rfl))) | (apply VC.condn; (focus (simp -implicitDefEqProofs only [go_sem, Nat.reduceLT, Nat.reduceAdd, Nat.reduceEqDiff, reduceIte, Nat.reduceMul, Nat.reduceSub, reduceCtorEq, Int.reduceNe, Int.reduceEq, ne_eq, Nat.reduceLeDiff, Nat.reduceMod, Nat.reduceDiv]; with_reducible exact rfl))) | (apply VC.condt; (focus (simp -implicitDefEqProofs only [go_sem, Nat.reduceLT, Nat.reduceAdd, Nat.reduceEqDiff, reduceIte, Nat.reduceMul, Nat.reduceSub, reduceCtorEq, Int.reduceNe, Int.reduceEq, ne_eq, Nat.reduceLeDiff, Nat.reduceMod, Nat.reduceDiv]; with_reducible exact rfl))) | (apply VC.condb; (focus (simp -implicitDefEqProofs only [go_sem, Nat.reduceLT, Nat.reduceAdd, Nat.reduceEqDiff, reduceIte, Nat.reduceMul, Nat.reduceSub, reduceCtorEq, Int.reduceNe, Int.reduceEq, ne_eq, Nat.reduceLeDiff, Nat.reduceMod, Nat.reduceDiv]; exact rfl)))
              · intro h; try exact absurd h (by decide)
                all_goals
                  apply VC.skip
                  refine thenK_n ?_
                  apply VC.seq
                  apply VC.block
                  apply VC.seq
                  apply VC.regt ΦR5_ok [0, 4, 5, 6, 25]; intro K' hK; dsimp only [List.take, List.drop, List.map, strip, stripG]; simp only [gtmp, List.getElem?_toArray, List.getElem?_cons_succ, List.getElem?_cons_zero, Option.bind_some]; simp -implicitDefEqProofs only [go_sem, Nat.reduceLT, Nat.reduceAdd, Nat.reduceEqDiff, reduceIte, Nat.reduceMul, Nat.reduceSub, reduceCtorEq, Int.reduceNe, Int.reduceEq, ne_eq, Nat.reduceLeDiff, Nat.reduceMod, Nat.reduceDiv]
                  (repeat' first | (refine hK _ ?_; clear hK K') | (first | apply goB_splitD | apply goA_splitD | apply goB_split | apply goA_split | apply goA_all) <;> intro _ <;> simp -implicitDefEqProofs only [go_sem, Nat.reduceLT, Nat.reduceAdd, Nat.reduceEqDiff, reduceIte, Nat.reduceMul, Nat.reduceSub, reduceCtorEq, Int.reduceNe, Int.reduceEq, ne_eq, Nat.reduceLeDiff, Nat.reduceMod, Nat.reduceDiv] | ((first | with_reducible refine runA_id ?_ | with_reducible refine goA_id ?_); simp -implicitDefEqProofs (disch := omega) only [i64_in, u64_in, Int.toNat_natCast, sub_nat]; simp -implicitDefEqProofs only [go_sem, Nat.reduceLT, Nat.reduceAdd, Nat.reduceEqDiff, reduceIte, Nat.reduceMul, Nat.reduceSub, reduceCtorEq, Int.reduceNe, Int.reduceEq, ne_eq, Nat.reduceLeDiff, Nat.reduceMod, Nat.reduceDiv]) | with_reducible apply And.intro | (simp -implicitDefEqProofs (disch := omega) only [i64_in, u64_in, Int.toNat_natCast, sub_nat, List.length_cons, List.length_nil, Nat.reduceAdd]; done) | (simp only [maxLen]; omega) | omega | (simp only [List.length_take, List.length_drop]; omega) | (simp only [numsD_len]; omega))
                  all_goals
                    apply VC.at
                    · simp -implicitDefEqProofs only [go_sem, Nat.reduceLT, Nat.reduceAdd, Nat.reduceEqDiff, reduceIte, Nat.reduceMul, Nat.reduceSub, reduceCtorEq, Int.reduceNe, Int.reduceEq, ne_eq, Nat.reduceLeDiff, Nat.reduceMod, Nat.reduceDiv]; (try simp (disch := omega) only [i64_in, tmodn, tdivn]); exact rfl
                    first | (apply VC.condd; (focus (simp -implicitDefEqProofs only [go_sem, Nat.reduceLT, Nat.reduceAdd, Nat.reduceEqDiff, reduceIte, Nat.reduceMul, Nat.reduceSub, reduceCtorEq, Int.reduceNe, Int.reduceEq, ne_eq, Nat.reduceLeDiff, Nat.reduceMod, Nat.reduceDiv]; with_reducible exact rfl))) | (apply VC.condn; (focus (simp -implicitDefEqProofs only [go_sem, Nat.reduceLT, Nat.reduceAdd, Nat.reduceEqDiff, reduceIte, Nat.reduceMul, Nat.reduceSub, reduceCtorEq, Int.reduceNe, Int.reduceEq, ne_eq, Nat.reduceLeDiff, Nat.reduceMod, Nat.reduceDiv]; with_reducible exact rfl))) | (apply VC.condt; (focus (simp -implicitDefEqProofs only [go_sem, Nat.reduceLT, Nat.reduceAdd, Nat.reduceEqDiff, reduceIte, Nat.reduceMul, Nat.reduceSub, reduceCtorEq, Int.reduceNe, Int.reduceEq, ne_eq, Nat.reduceLeDiff, Nat.reduceMod, Nat.reduceDiv]; with_reducible exact rfl))) | (apply VC.condb; (focus (simp -implicitDefEqProofs only [go_sem, Nat.reduceLT, Nat.reduceAdd, Nat.reduceEqDiff, reduceIte, Nat.reduceMul, Nat.reduceSub, reduceCtorEq, Int.reduceNe, Int.reduceEq, ne_eq, Nat.reduceLeDiff, Nat.reduceMod, Nat.reduceDiv]; exact rfl)))
                    · intro h; try exact absurd h (by decide)
                      all_goals
                        apply VC.exit
                        refine thenK_e ?_
                        refine blockK_e ?_
                        refine thenK_n ?_
                        apply VC.regLast ΦR5_ok; intro K' hK; dsimp only [List.take, List.drop, List.map, strip, stripG]; simp -implicitDefEqProofs only [go_sem, Nat.reduceLT, Nat.reduceAdd, Nat.reduceEqDiff, reduceIte, Nat.reduceMul, Nat.reduceSub, reduceCtorEq, Int.reduceNe, Int.reduceEq, ne_eq, Nat.reduceLeDiff, Nat.reduceMod, Nat.reduceDiv]
                        (repeat' first | (refine hK _ ?_; clear hK K') | with_reducible apply And.intro | (simp -implicitDefEqProofs (disch := omega) only [i64_in, u64_in, Int.toNat_natCast, sub_nat, List.length_cons, List.length_nil, Nat.reduceAdd]; done) | (simp only [maxLen]; omega) | omega | (simp only [List.length_take, List.length_drop]; omega) | (simp only [numsD_len]; omega))
                        all_goals
                          refine thenK_n ?_
                          first
                            | (refine ⟨(i + 1, f, out), ⟨by omega, by dsimp only; omega, by dsimp only; omega, ?_⟩, Ent.to rfl rfl rfl (by simp -implicitDefEqProofs only [go_sem, Nat.reduceLT, Nat.reduceAdd, Nat.reduceEqDiff, reduceIte, Nat.reduceMul, Nat.reduceSub, reduceCtorEq, Int.reduceNe, Int.reduceEq, ne_eq, Nat.reduceLeDiff, Nat.reduceMod, Nat.reduceDiv]; (try simp (disch := omega) only [i64_in, tmodn, tdivn]); (try simp only [D.dat.injEq, Vm.Data.int.injEq, true_and, and_true, and_self, eq_self]); (try omega); (try ((repeat' apply And.intro) <;> first | omega | rfl))) (by (repeat' (first | exact all_nil | (refine all_cons ?_ ?_))) <;> (simp -implicitDefEqProofs only [go_sem, Nat.reduceLT, Nat.reduceAdd, Nat.reduceEqDiff, reduceIte, Nat.reduceMul, Nat.reduceSub, reduceCtorEq, Int.reduceNe, Int.reduceEq, ne_eq, Nat.reduceLeDiff, Nat.reduceMod, Nat.reduceDiv]; (try rfl); try rfl)), by dsimp only; omega⟩
                               dsimp only; rw [contP_skip s i f out (by omega) hf (by omega)]; exact hc)
                            | (refine ⟨(i + 1, i + 1, out ++ [numV (wd s f i)]), ⟨by omega, by dsimp only; omega, by simp only [List.length_append, List.length_cons, List.length_nil]; omega, ?_⟩, Ent.to rfl rfl rfl (by simp -implicitDefEqProofs only [go_sem, Nat.reduceLT, Nat.reduceAdd, Nat.reduceEqDiff, reduceIte, Nat.reduceMul, Nat.reduceSub, reduceCtorEq, Int.reduceNe, Int.reduceEq, ne_eq, Nat.reduceLeDiff, Nat.reduceMod, Nat.reduceDiv]; (try simp (disch := omega) only [i64_in, tmodn, tdivn]); (try simp only [List.length_append, List.length_cons, List.length_nil]); (try simp only [D.dat.injEq, Vm.Data.int.injEq, true_and, and_true, and_self, eq_self]); (try omega); (try ((repeat' apply And.intro) <;> first | omega | rfl))) (by (repeat' (first | exact all_nil | (refine all_cons ?_ ?_))) <;> (simp -implicitDefEqProofs only [go_sem, Nat.reduceLT, Nat.reduceAdd, Nat.reduceEqDiff, reduceIte, Nat.reduceMul, Nat.reduceSub, reduceCtorEq, Int.reduceNe, Int.reduceEq, ne_eq, Nat.reduceLeDiff, Nat.reduceMod, Nat.reduceDiv]; (try rfl); try (simp only [numsD_snoc]))), by dsimp only; omega⟩
                               dsimp only; rw [contP_word s i f out (by omega) (fun h9 => by omega) hok]; exact hc)
                    · intro h; try exact absurd h (by decide)
                      all_goals
                        apply VC.skip
                        refine thenK_n ?_
                        apply VC.regt ΦR5_ok [0, 4, 6, 7, 8]; intro K' hK; dsimp only [List.take, List.drop, List.map, strip, stripG]; simp -implicitDefEqProofs only [go_sem, Nat.reduceLT, Nat.reduceAdd, Nat.reduceEqDiff, reduceIte, Nat.reduceMul, Nat.reduceSub, reduceCtorEq, Int.reduceNe, Int.reduceEq, ne_eq, Nat.reduceLeDiff, Nat.reduceMod, Nat.reduceDiv]
                        (repeat' first | (refine hK _ ?_; clear hK K') | ((first | with_reducible refine runA_id ?_ | with_reducible refine goA_id ?_); simp -implicitDefEqProofs (disch := omega) only [i64_in, u64_in, Int.toNat_natCast, sub_nat]; simp -implicitDefEqProofs only [go_sem, Nat.reduceLT, Nat.reduceAdd, Nat.reduceEqDiff, reduceIte, Nat.reduceMul, Nat.reduceSub, reduceCtorEq, Int.reduceNe, Int.reduceEq, ne_eq, Nat.reduceLeDiff, Nat.reduceMod, Nat.reduceDiv]) | with_reducible apply And.intro | (simp -implicitDefEqProofs (disch := omega) only [i64_in, u64_in, Int.toNat_natCast, sub_nat, List.length_cons, List.length_nil, Nat.reduceAdd]; done) | (simp only [maxLen]; omega) | omega | (simp only [List.length_take, List.length_drop]; omega) | (simp only [numsD_len]; omega))
                        all_goals
                          apply VC.at
                          · simp -implicitDefEqProofs only [go_sem, Nat.reduceLT, Nat.reduceAdd, Nat.reduceEqDiff, reduceIte, Nat.reduceMul, Nat.reduceSub, reduceCtorEq, Int.reduceNe, Int.reduceEq, ne_eq, Nat.reduceLeDiff, Nat.reduceMod, Nat.reduceDiv]; (try simp (disch := omega) only [i64_in, tmodn, tdivn]); (try simp only [wd_eq]); exact rfl
                          apply VC.seq
                          apply VC.regt ΦR5_ok [0, 4, 6, 7, 35]; intro K' hK; dsimp only [List.take, List.drop, List.map, strip, stripG]; simp -implicitDefEqProofs only [go_sem, Nat.reduceLT, Nat.reduceAdd, Nat.reduceEqDiff, reduceIte, Nat.reduceMul, Nat.reduceSub, reduceCtorEq, Int.reduceNe, Int.reduceEq, ne_eq, Nat.reduceLeDiff, Nat.reduceMod, Nat.reduceDiv]
                          (repeat' first | (refine hK _ ?_; clear hK K') | with_reducible apply And.intro | (simp -implicitDefEqProofs (disch := omega) only [i64_in, u64_in, Int.toNat_natCast, sub_nat, List.length_cons, List.length_nil, Nat.reduceAdd]; done) | (simp only [maxLen]; omega) | omega | (simp only [List.length_take, List.length_drop]; omega) | (simp only [numsD_len]; omega))
                          all_goals
                            apply VC.at
                            · simp -implicitDefEqProofs only [go_sem, Nat.reduceLT, Nat.reduceAdd, Nat.reduceEqDiff, reduceIte, Nat.reduceMul, Nat.reduceSub, reduceCtorEq, Int.reduceNe, Int.reduceEq, ne_eq, Nat.reduceLeDiff, Nat.reduceMod, Nat.reduceDiv]; (try simp (disch := omega) only [i64_in, tmodn, tdivn]); exact rfl
                            first | (apply VC.condd; (focus (simp -implicitDefEqProofs only [go_sem, Nat.reduceLT, Nat.reduceAdd, Nat.reduceEqDiff, reduceIte, Nat.reduceMul, Nat.reduceSub, reduceCtorEq, Int.reduceNe, Int.reduceEq, ne_eq, Nat.reduceLeDiff, Nat.reduceMod, Nat.reduceDiv]; with_reducible exact rfl))) | (apply VC.condn; (focus (simp -implicitDefEqProofs only [go_sem, Nat.reduceLT, Nat.reduceAdd, Nat.reduceEqDiff, reduceIte, Nat.reduceMul, Nat.reduceSub, reduceCtorEq, Int.reduceNe, Int.reduceEq, ne_eq, Nat.reduceLeDiff, Nat.reduceMod, Nat.reduceDiv]; with_reducible exact rfl))) | (apply VC.condt; (focus (simp -implicitDefEqProofs only [go_sem, Nat.reduceLT, Nat.reduceAdd, Nat.reduceEqDiff, reduceIte, Nat.reduceMul, Nat.reduceSub, reduceCtorEq, Int.reduceNe, Int.reduceEq, ne_eq, Nat.reduceLeDiff, Nat.reduceMod, Nat.reduceDiv]; with_reducible exact rfl))) | (apply VC.condb; (focus (simp -implicitDefEqProofs only [go_sem, Nat.reduceLT, Nat.reduceAdd, Nat.reduceEqDiff, reduceIte, Nat.reduceMul, Nat.reduceSub, reduceCtorEq, Int.reduceNe, Int.reduceEq, ne_eq, Nat.reduceLeDiff, Nat.reduceMod, Nat.reduceDiv]; exact rfl)))
                            · intro h; try exact absurd h (by decide)
                              all_goals
                                apply VC.regt ΦR5_ok [2, 3]; intro K' hK; dsimp only [List.take, List.drop, List.map, strip, stripG]; simp -implicitDefEqProofs only [go_sem, Nat.reduceLT, Nat.reduceAdd, Nat.reduceEqDiff, reduceIte, Nat.reduceMul, Nat.reduceSub, reduceCtorEq, Int.reduceNe, Int.reduceEq, ne_eq, Nat.reduceLeDiff, Nat.reduceMod, Nat.reduceDiv]
                                (repeat' first | (refine hK _ ?_; clear hK K') | with_reducible apply And.intro | (simp -implicitDefEqProofs (disch := omega) only [i64_in, u64_in, Int.toNat_natCast, sub_nat, List.length_cons, List.length_nil, Nat.reduceAdd]; done) | (simp only [maxLen]; omega) | omega | (simp only [List.length_take, List.length_drop]; omega) | (simp only [numsD_len]; omega))
                                all_goals
                                  apply VC.at
                                  · simp -implicitDefEqProofs only [go_sem, Nat.reduceLT, Nat.reduceAdd, Nat.reduceEqDiff, reduceIte, Nat.reduceMul, Nat.reduceSub, reduceCtorEq, Int.reduceNe, Int.reduceEq, ne_eq, Nat.reduceLeDiff, Nat.reduceMod, Nat.reduceDiv]; (try simp (disch := omega) only [i64_in, tmodn, tdivn]); exact rfl
                                  apply VC.ret
                                  refine thenK_r ?_
                                  refine blockK_r ?_
                                  refine thenK_r ?_
                                  refine thenK_r ?_
                                  refine blockK_r ?_
                                  refine thenK_r ?_
                                  simp -implicitDefEqProofs only [go_sem, Nat.reduceLT, Nat.reduceAdd, Nat.reduceEqDiff, reduceIte, Nat.reduceMul, Nat.reduceSub, reduceCtorEq, Int.reduceNe, Int.reduceEq, ne_eq, Nat.reduceLeDiff, Nat.reduceMod, Nat.reduceDiv]
                                  all_goals (first | (have hb := contP_bad s i f out (by omega) (fun h9 => by omega) (by simpa using h); rw [parseR_bad (hc ▸ hb)]; rfl) | (have hb := contP_end s i f out (by omega); rw [hc] at hb; first | (rw [parseR_no hb h]; rfl) | (rw [parseR_yes hb h]; rfl)))
                            · intro h; try exact absurd h (by decide)
                              all_goals
                                apply VC.skip
                                refine thenK_n ?_
                                have hok : numOk (wd s f i) = true := by first | (simpa using h)
                                apply VC.regt ΦR5_ok [0, 4, 6]; intro K' hK; dsimp only [List.take, List.drop, List.map, strip, stripG]; simp -implicitDefEqProofs only [go_sem, Nat.reduceLT, Nat.reduceAdd, Nat.reduceEqDiff, reduceIte, Nat.reduceMul, Nat.reduceSub, reduceCtorEq, Int.reduceNe, Int.reduceEq, ne_eq, Nat.reduceLeDiff, Nat.reduceMod, Nat.reduceDiv]
                                (repeat' first | (refine hK _ ?_; clear hK K') | with_reducible apply And.intro | (simp -implicitDefEqProofs (disch := omega) only [i64_in, u64_in, Int.toNat_natCast, sub_nat, List.length_cons, List.length_nil, Nat.reduceAdd]; done) | (simp only [maxLen]; omega) | omega | (simp only [List.length_take, List.length_drop]; omega) | (simp only [numsD_len]; omega))
                                all_goals
                                  apply VC.at
                                  · simp -implicitDefEqProofs only [go_sem, Nat.reduceLT, Nat.reduceAdd, Nat.reduceEqDiff, reduceIte, Nat.reduceMul, Nat.reduceSub, reduceCtorEq, Int.reduceNe, Int.reduceEq, ne_eq, Nat.reduceLeDiff, Nat.reduceMod, Nat.reduceDiv]; (try simp (disch := omega) only [i64_in, tmodn, tdivn]); exact rfl
                                  apply VC.regLast ΦR5_ok; intro K' hK; dsimp only [List.take, List.drop, List.map, strip, stripG]; simp -implicitDefEqProofs only [go_sem, Nat.reduceLT, Nat.reduceAdd, Nat.reduceEqDiff, reduceIte, Nat.reduceMul, Nat.reduceSub, reduceCtorEq, Int.reduceNe, Int.reduceEq, ne_eq, Nat.reduceLeDiff, Nat.reduceMod, Nat.reduceDiv]
                                  (repeat' first | (refine hK _ ?_; clear hK K') | with_reducible apply And.intro | (simp -implicitDefEqProofs (disch := omega) only [i64_in, u64_in, Int.toNat_natCast, sub_nat, List.length_cons, List.length_nil, Nat.reduceAdd]; done) | (simp only [maxLen]; omega) | omega | (simp only [List.length_take, List.length_drop]; omega) | (simp only [numsD_len]; omega))
                                  all_goals
                                    refine blockK_n ?_
                                    refine thenK_n ?_
                                    apply VC.regLast ΦR5_ok; intro K' hK; dsimp only [List.take, List.drop, List.map, strip, stripG]; simp -implicitDefEqProofs only [go_sem, Nat.reduceLT, Nat.reduceAdd, Nat.reduceEqDiff, reduceIte, Nat.reduceMul, Nat.reduceSub, reduceCtorEq, Int.reduceNe, Int.reduceEq, ne_eq, Nat.reduceLeDiff, Nat.reduceMod, Nat.reduceDiv]
                                    (repeat' first | (refine hK _ ?_; clear hK K') | with_reducible apply And.intro | (simp -implicitDefEqProofs (disch := omega) only [i64_in, u64_in, Int.toNat_natCast, sub_nat, List.length_cons, List.length_nil, Nat.reduceAdd]; done) | (simp only [maxLen]; omega) | omega | (simp only [List.length_take, List.length_drop]; omega) | (simp only [numsD_len]; omega))
                                    all_goals
                                      refine thenK_n ?_
                                      first
                                        | (refine ⟨(i + 1, f, out), ⟨by omega, by dsimp only; omega, by dsimp only; omega, ?_⟩, Ent.to rfl rfl rfl (by simp -implicitDefEqProofs only [go_sem, Nat.reduceLT, Nat.reduceAdd, Nat.reduceEqDiff, reduceIte, Nat.reduceMul, Nat.reduceSub, reduceCtorEq, Int.reduceNe, Int.reduceEq, ne_eq, Nat.reduceLeDiff, Nat.reduceMod, Nat.reduceDiv]; (try simp (disch := omega) only [i64_in, tmodn, tdivn]); (try simp only [D.dat.injEq, Vm.Data.int.injEq, true_and, and_true, and_self, eq_self]); (try omega); (try ((repeat' apply And.intro) <;> first | omega | rfl))) (by (repeat' (first | exact all_nil | (refine all_cons ?_ ?_))) <;> (simp -implicitDefEqProofs only [go_sem, Nat.reduceLT, Nat.reduceAdd, Nat.reduceEqDiff, reduceIte, Nat.reduceMul, Nat.reduceSub, reduceCtorEq, Int.reduceNe, Int.reduceEq, ne_eq, Nat.reduceLeDiff, Nat.reduceMod, Nat.reduceDiv]; (try rfl); try rfl)), by dsimp only; omega⟩
                                           dsimp only; rw [contP_skip s i f out (by omega) hf (by omega)]; exact hc)
                                        | (refine ⟨(i + 1, i + 1, out ++ [numV (wd s f i)]), ⟨by omega, by dsimp only; omega, by simp only [List.length_append, List.length_cons, List.length_nil]; omega, ?_⟩, Ent.to rfl rfl rfl (by simp -implicitDefEqProofs only [go_sem, Nat.reduceLT, Nat.reduceAdd, Nat.reduceEqDiff, reduceIte, Nat.reduceMul, Nat.reduceSub, reduceCtorEq, Int.reduceNe, Int.reduceEq, ne_eq, Nat.reduceLeDiff, Nat.reduceMod, Nat.reduceDiv]; (try simp (disch := omega) only [i64_in, tmodn, tdivn]); (try simp only [List.length_append, List.length_cons, List.length_nil]); (try simp only [D.dat.injEq, Vm.Data.int.injEq, true_and, and_true, and_self, eq_self]); (try omega); (try ((repeat' apply And.intro) <;> first | omega | rfl))) (by (repeat' (first | exact all_nil | (refine all_cons ?_ ?_))) <;> (simp -implicitDefEqProofs only [go_sem, Nat.reduceLT, Nat.reduceAdd, Nat.reduceEqDiff, reduceIte, Nat.reduceMul, Nat.reduceSub, reduceCtorEq, Int.reduceNe, Int.reduceEq, ne_eq, Nat.reduceLeDiff, Nat.reduceMod, Nat.reduceDiv]; (try rfl); try (simp only [numsD_snoc]))), by dsimp only; omega⟩
                                           dsimp only; rw [contP_word s i f out (by omega) (fun h9 => by omega) hok]; exact hc)
              · intro h; try exact absurd h (by decide)
                all_goals
                  apply VC.exit
                  refine thenK_e ?_
                  refine thenK_e ?_
                  refine blockK_e ?_
                  refine thenK_n ?_
                  apply VC.regt ΦR5_ok [4, 9]; intro K' hK; dsimp only [List.take, List.drop, List.map, strip, stripG]; simp -implicitDefEqProofs only [go_sem, Nat.reduceLT, Nat.reduceAdd, Nat.reduceEqDiff, reduceIte, Nat.reduceMul, Nat.reduceSub, reduceCtorEq, Int.reduceNe, Int.reduceEq, ne_eq, Nat.reduceLeDiff, Nat.reduceMod, Nat.reduceDiv]
                  (repeat' first | (refine hK _ ?_; clear hK K') | ((first | with_reducible refine runA_id ?_ | with_reducible refine goA_id ?_); simp -implicitDefEqProofs (disch := omega) only [i64_in, u64_in, Int.toNat_natCast, sub_nat]; simp -implicitDefEqProofs only [go_sem, Nat.reduceLT, Nat.reduceAdd, Nat.reduceEqDiff, reduceIte, Nat.reduceMul, Nat.reduceSub, reduceCtorEq, Int.reduceNe, Int.reduceEq, ne_eq, Nat.reduceLeDiff, Nat.reduceMod, Nat.reduceDiv]) | with_reducible apply And.intro | (simp -implicitDefEqProofs (disch := omega) only [i64_in, u64_in, Int.toNat_natCast, sub_nat, List.length_cons, List.length_nil, Nat.reduceAdd]; done) | (simp only [maxLen]; omega) | omega | (simp only [List.length_take, List.length_drop]; omega) | (simp only [numsD_len]; omega))
                  all_goals
                    apply VC.at
                    · simp -implicitDefEqProofs only [go_sem, Nat.reduceLT, Nat.reduceAdd, Nat.reduceEqDiff, reduceIte, Nat.reduceMul, Nat.reduceSub, reduceCtorEq, Int.reduceNe, Int.reduceEq, ne_eq, Nat.reduceLeDiff, Nat.reduceMod, Nat.reduceDiv]; (try simp (disch := omega) only [i64_in, tmodn, tdivn]); exact rfl
                    apply VC.seq
                    apply VC.regt ΦR5_ok [4, 45]; intro K' hK; dsimp only [List.take, List.drop, List.map, strip, stripG]; simp -implicitDefEqProofs only [go_sem, Nat.reduceLT, Nat.reduceAdd, Nat.reduceEqDiff, reduceIte, Nat.reduceMul, Nat.reduceSub, reduceCtorEq, Int.reduceNe, Int.reduceEq, ne_eq, Nat.reduceLeDiff, Nat.reduceMod, Nat.reduceDiv]
                    (repeat' first | (refine hK _ ?_; clear hK K') | with_reducible apply And.intro | (simp -implicitDefEqProofs (disch := omega) only [i64_in, u64_in, Int.toNat_natCast, sub_nat, List.length_cons, List.length_nil, Nat.reduceAdd]; done) | (simp only [maxLen]; omega) | omega | (simp only [List.length_take, List.length_drop]; omega) | (simp only [numsD_len]; omega))
                    all_goals
                      apply VC.at
                      · simp -implicitDefEqProofs only [go_sem, Nat.reduceLT, Nat.reduceAdd, Nat.reduceEqDiff, reduceIte, Nat.reduceMul, Nat.reduceSub, reduceCtorEq, Int.reduceNe, Int.reduceEq, ne_eq, Nat.reduceLeDiff, Nat.reduceMod, Nat.reduceDiv]; (try simp (disch := omega) only [i64_in, tmodn, tdivn]); exact rfl
                      first | (apply VC.condd; (focus (simp -implicitDefEqProofs only [go_sem, Nat.reduceLT, Nat.reduceAdd, Nat.reduceEqDiff, reduceIte, Nat.reduceMul, Nat.reduceSub, reduceCtorEq, Int.reduceNe, Int.reduceEq, ne_eq, Nat.reduceLeDiff, Nat.reduceMod, Nat.reduceDiv]; with_reducible exact rfl))) | (apply VC.condn; (focus (simp -implicitDefEqProofs only [go_sem, Nat.reduceLT, Nat.reduceAdd, Nat.reduceEqDiff, reduceIte, Nat.reduceMul, Nat.reduceSub, reduceCtorEq, Int.reduceNe, Int.reduceEq, ne_eq, Nat.reduceLeDiff, Nat.reduceMod, Nat.reduceDiv]; with_reducible exact rfl))) | (apply VC.condt; (focus (simp -implicitDefEqProofs only [go_sem, Nat.reduceLT, Nat.reduceAdd, Nat.reduceEqDiff, reduceIte, Nat.reduceMul, Nat.reduceSub, reduceCtorEq, Int.reduceNe, Int.reduceEq, ne_eq, Nat.reduceLeDiff, Nat.reduceMod, Nat.reduceDiv]; with_reducible exact rfl))) | (apply VC.condb; (focus (simp -implicitDefEqProofs only [go_sem, Nat.reduceLT, Nat.reduceAdd, Nat.reduceEqDiff, reduceIte, Nat.reduceMul, Nat.reduceSub, reduceCtorEq, Int.reduceNe, Int.reduceEq, ne_eq, Nat.reduceLeDiff, Nat.reduceMod, Nat.reduceDiv]; exact rfl)))
                      · intro h; try exact absurd h (by decide)
                        all_goals
                          apply VC.regt ΦR5_ok [2, 3]; intro K' hK; dsimp only [List.take, List.drop, List.map, strip, stripG]; simp -implicitDefEqProofs only [go_sem, Nat.reduceLT, Nat.reduceAdd, Nat.reduceEqDiff, reduceIte, Nat.reduceMul, Nat.reduceSub, reduceCtorEq, Int.reduceNe, Int.reduceEq, ne_eq, Nat.reduceLeDiff, Nat.reduceMod, Nat.reduceDiv]
                          (repeat' first | (refine hK _ ?_; clear hK K') | with_reducible apply And.intro | (simp -implicitDefEqProofs (disch := omega) only [i64_in, u64_in, Int.toNat_natCast, sub_nat, List.length_cons, List.length_nil, Nat.reduceAdd]; done) | (simp only [maxLen]; omega) | omega | (simp only [List.length_take, List.length_drop]; omega) | (simp only [numsD_len]; omega))
                          all_goals
                            apply VC.at
                            · simp -implicitDefEqProofs only [go_sem, Nat.reduceLT, Nat.reduceAdd, Nat.reduceEqDiff, reduceIte, Nat.reduceMul, Nat.reduceSub, reduceCtorEq, Int.reduceNe, Int.reduceEq, ne_eq, Nat.reduceLeDiff, Nat.reduceMod, Nat.reduceDiv]; (try simp (disch := omega) only [i64_in, tmodn, tdivn]); exact rfl
                            apply VC.ret
                            refine thenK_r ?_
                            simp -implicitDefEqProofs only [go_sem, Nat.reduceLT, Nat.reduceAdd, Nat.reduceEqDiff, reduceIte, Nat.reduceMul, Nat.reduceSub, reduceCtorEq, Int.reduceNe, Int.reduceEq, ne_eq, Nat.reduceLeDiff, Nat.reduceMod, Nat.reduceDiv]
                            all_goals (first | (have hb := contP_bad s i f out (by omega) (fun h9 => by omega) (by simpa using h); rw [parseR_bad (hc ▸ hb)]; rfl) | (have hb := contP_end s i f out (by omega); rw [hc] at hb; first | (rw [parseR_no hb h]; rfl) | (rw [parseR_yes hb h]; rfl)))
                      · intro h; try exact absurd h (by decide)
                        all_goals
                          apply VC.skip
                          refine thenK_n ?_
                          apply VC.regt ΦR5_ok [2, 3]; intro K' hK; dsimp only [List.take, List.drop, List.map, strip, stripG]; simp -implicitDefEqProofs only [go_sem, Nat.reduceLT, Nat.reduceAdd, Nat.reduceEqDiff, reduceIte, Nat.reduceMul, Nat.reduceSub, reduceCtorEq, Int.reduceNe, Int.reduceEq, ne_eq, Nat.reduceLeDiff, Nat.reduceMod, Nat.reduceDiv]
                          (repeat' first | (refine hK _ ?_; clear hK K') | with_reducible apply And.intro | (simp -implicitDefEqProofs (disch := omega) only [i64_in, u64_in, Int.toNat_natCast, sub_nat, List.length_cons, List.length_nil, Nat.reduceAdd]; done) | (simp only [maxLen]; omega) | omega | (simp only [List.length_take, List.length_drop]; omega) | (simp only [numsD_len]; omega))
                          all_goals
                            apply VC.at
                            · simp -implicitDefEqProofs only [go_sem, Nat.reduceLT, Nat.reduceAdd, Nat.reduceEqDiff, reduceIte, Nat.reduceMul, Nat.reduceSub, reduceCtorEq, Int.reduceNe, Int.reduceEq, ne_eq, Nat.reduceLeDiff, Nat.reduceMod, Nat.reduceDiv]; (try simp (disch := omega) only [i64_in, tmodn, tdivn]); exact rfl
                            apply VC.ret
                            simp -implicitDefEqProofs only [go_sem, Nat.reduceLT, Nat.reduceAdd, Nat.reduceEqDiff, reduceIte, Nat.reduceMul, Nat.reduceSub, reduceCtorEq, Int.reduceNe, Int.reduceEq, ne_eq, Nat.reduceLeDiff, Nat.reduceMod, Nat.reduceDiv]
                            all_goals (first | (have hb := contP_bad s i f out (by omega) (fun h9 => by omega) (by simpa using h); rw [parseR_bad (hc ▸ hb)]; rfl) | (have hb := contP_end s i f out (by omega); rw [hc] at hb; first | (rw [parseR_no hb h]; rfl) | (rw [parseR_yes hb h]; rfl)))
end Go.Proofs.YtgfadocohpinmaaDoor.Oa
namespace Go.Proofs.YtgfadocohpinmaaDoor.Oa
open Go Go.Proofs.YtgfadocohpinmaaDoor.Vm
/-! The plain law of texts: what the program reads is what the document reads. -/
def dg1 (c : UInt8) : Prop := 48 ≤ c.toNat ∧ c.toNat ≤ 57
instance (c : UInt8) : Decidable (dg1 c) := inferInstanceAs (Decidable (_ ∧ _))
def valF (acc : Nat) (w : List UInt8) : Nat := w.foldl (fun n c => 10 * n + (c.toNat - 48)) acc
theorem valS_eq (w : List UInt8) : valS w w.length = valF 0 w := by unfold valS valF; rw [List.take_length]
theorem valF_cons (acc : Nat) (c : UInt8) (w : List UInt8) : valF acc (c :: w) = valF (10 * acc + (c.toNat - 48)) w := by simp [valF]
theorem valF_snoc (acc : Nat) (w : List UInt8) (c : UInt8) : valF acc (w ++ [c]) = 10 * valF acc w + (c.toNat - 48) := by simp [valF]
theorem valF_mono : ∀ (w : List UInt8) (acc : Nat), acc ≤ valF acc w
  | [], acc => Nat.le_refl _
  | c :: w, acc => by rw [valF_cons]; exact Nat.le_trans (by omega) (valF_mono w _)
theorem pu_iff : ∀ (w : List UInt8) (acc n : Nat), acc ≤ 9223372036854775807 → (Lib.parseUintM 9223372036854775807 acc w = .ok n ↔ (∀ c ∈ w, dg1 c) ∧ valF acc w = n ∧ n ≤ 9223372036854775807)
  | [], acc, n, h => by
    simp only [Lib.parseUintM, valF, List.foldl_nil, Lib.NumEnd.ok.injEq]
    constructor
    · rintro rfl; exact ⟨fun c h => absurd h List.not_mem_nil, rfl, h⟩
    · rintro ⟨-, e, -⟩; exact e
  | c :: w, acc, n, h => by
    rw [Lib.parseUintM]
    by_cases hd : 48 ≤ c.toNat ∧ c.toNat ≤ 57
    · rw [if_pos hd, valF_cons]
      have hm := valF_mono w (10 * acc + (c.toNat - 48))
      by_cases h1 : 1844674407370955162 ≤ acc
      · rw [if_pos h1]
        constructor
        · intro e; cases e
        · rintro ⟨-, e, he⟩; omega
      · rw [if_neg h1]
        by_cases h2 : 9223372036854775807 < acc * 10 + (c.toNat - 48)
        · rw [if_pos h2]
          constructor
          · intro e; cases e
          · rintro ⟨-, e, he⟩; omega
        · rw [if_neg h2, pu_iff w _ n (by omega), show acc * 10 + (c.toNat - 48) = 10 * acc + (c.toNat - 48) by omega]
          constructor
          · rintro ⟨a, b, c'⟩
            refine ⟨fun x hx => ?_, b, c'⟩
            rcases List.mem_cons.1 hx with rfl | hx
            · exact hd
            · exact a x hx
          · rintro ⟨a, b, c'⟩
            exact ⟨fun x hx => a x (List.mem_cons_of_mem _ hx), b, c'⟩
    · rw [if_neg hd]
      constructor
      · intro e; cases e
      · rintro ⟨a, -, -⟩; exact absurd (a c List.mem_cons_self) hd
theorem wordP_iff (w : List UInt8) (n : Nat) : wordP w = some n ↔ w ≠ [] ∧ (∀ c ∈ w, dg1 c) ∧ valF 0 w = n ∧ n ≤ 9223372036854775807 := by
  unfold wordP puN
  by_cases h : w = []
  · subst h; simp
  · rw [if_neg h, ← pu_iff w 0 n (by omega)]
    cases e : Lib.parseUintM 9223372036854775807 0 w <;> simp [h]
theorem dd_small {n : Nat} (h : n < 10) : Lib.decDigits n = [UInt8.ofNat (48 + n)] := Lib.decDigits_one h
theorem dd_big {n : Nat} (h : ¬ n < 10) : Lib.decDigits n = Lib.decDigits (n / 10) ++ [UInt8.ofNat (48 + n % 10)] := by rw [Lib.decDigits, dif_neg h]
theorem ofNat_dg {d : Nat} (h : d < 10) : (UInt8.ofNat (48 + d)).toNat = 48 + d := by
  rw [UInt8.toNat_ofNat']; omega
theorem dd_ne (n : Nat) : Lib.decDigits n ≠ [] := by
  by_cases h : n < 10
  · rw [dd_small h]; simp
  · rw [dd_big h]; simp
theorem dd_dig (n : Nat) : ∀ c ∈ Lib.decDigits n, dg1 c := by
  induction n using Nat.strongRecOn with
  | _ n ih =>
    by_cases h : n < 10
    · rw [dd_small h]; intro c hc
      obtain rfl := List.mem_singleton.1 hc
      unfold dg1; rw [ofNat_dg h]; omega
    · rw [dd_big h]; intro c hc
      rcases List.mem_append.1 hc with hc | hc
      · exact ih (n / 10) (by omega) c hc
      · obtain rfl := List.mem_singleton.1 hc
        unfold dg1; rw [ofNat_dg (by omega)]; omega
theorem dd_val (n : Nat) : valF 0 (Lib.decDigits n) = n := by
  induction n using Nat.strongRecOn with
  | _ n ih =>
    by_cases h : n < 10
    · rw [dd_small h]; simp only [valF, List.foldl_cons, List.foldl_nil]; rw [ofNat_dg h]; omega
    · rw [dd_big h, valF_snoc, ih (n / 10) (by omega), ofNat_dg (by omega)]; omega
theorem dd_head (n : Nat) (h : 1 ≤ n) : ((Lib.decDigits n).getD 0 0).toNat ≠ 48 := by
  induction n using Nat.strongRecOn with
  | _ n ih =>
    by_cases h1 : n < 10
    · rw [dd_small h1]; simp only [List.getD_cons_zero]; rw [ofNat_dg h1]; omega
    · rw [dd_big h1]
      have := ih (n / 10) (by omega) (by omega)
      cases e : Lib.decDigits (n / 10) with
      | nil => exact absurd e (dd_ne _)
      | cons a r => rw [e] at this; simpa using this
theorem dd_len1 (n : Nat) (h : 1 < (Lib.decDigits n).length) : 1 ≤ n := by
  rcases Nat.eq_zero_or_pos n with rfl | h'
  · rw [dd_small (by decide)] at h; simp at h
  · exact h'
theorem dd_len (k : Nat) : ∀ n, n < 10 ^ (k + 1) → (Lib.decDigits n).length ≤ k + 1 := by
  induction k with
  | zero => intro n h; rw [dd_small (by simpa using h)]; simp
  | succ k ih =>
    intro n h
    by_cases h1 : n < 10
    · rw [dd_small h1]; simp
    · rw [dd_big h1, List.length_append]
      have := ih (n / 10) (by rw [Nat.pow_succ] at h; omega)
      simp; omega
theorem valF_pos : ∀ (w : List UInt8), w ≠ [] → (∀ c ∈ w, dg1 c) → (w.getD 0 0).toNat ≠ 48 → 1 ≤ valF 0 w
  | [], h, _, _ => absurd rfl h
  | c :: w, _, hd, h0 => by
    rw [valF_cons]
    have h1 := hd c List.mem_cons_self
    unfold dg1 at h1
    simp only [List.getD_cons_zero] at h0
    exact Nat.le_trans (by omega) (valF_mono w _)
theorem dd_of_val (w : List UInt8) : w ≠ [] → (∀ c ∈ w, dg1 c) → ¬ (1 < w.length ∧ (w.getD 0 0).toNat = 48) → Lib.decDigits (valF 0 w) = w := by
  induction h : w.length using Nat.strongRecOn generalizing w with
  | _ k ih =>
    intro hne hd hz
    obtain ⟨w', c, rfl⟩ : ∃ w' c, w = w' ++ [c] := ⟨w.dropLast, w.getLast hne, (List.dropLast_concat_getLast hne).symm⟩
    have hc := hd c (by simp)
    unfold dg1 at hc
    rw [valF_snoc]
    by_cases hw : w' = []
    · subst hw
      simp only [valF, List.foldl_nil]
      rw [dd_small (by omega), List.nil_append]
      congr 1
      apply UInt8.toNat_inj.1
      rw [ofNat_dg (by omega)]; omega
    · have hl : 1 ≤ w'.length := List.length_pos_iff.2 hw
      have hh : ((w' ++ [c]).getD 0 0) = w'.getD 0 0 := by
        cases w' with
        | nil => exact absurd rfl hw
        | cons a r => rfl
      have h0 : (w'.getD 0 0).toNat ≠ 48 := fun e => hz ⟨by have h' := h; rw [List.length_append] at h'; simp only [List.length_cons, List.length_nil] at h'; omega, by rw [hh]; exact e⟩
      have hd' : ∀ x ∈ w', dg1 x := fun x hx => hd x (List.mem_append_left _ hx)
      have hp := valF_pos w' hw hd' h0
      rw [dd_big (by omega), show (10 * valF 0 w' + (c.toNat - 48)) / 10 = valF 0 w' by omega, ih w'.length (by rw [List.length_append] at h; simp only [List.length_cons, List.length_nil] at h; omega) w' rfl hw hd' (fun e => h0 e.2)]
      congr 2
      apply UInt8.toNat_inj.1
      rw [ofNat_dg (by omega)]; omega
theorem numOk_iff (w : List UInt8) (n : Nat) : (numOk w = true ∧ numV w = n) ↔ (wordP w = some n ∧ dec n = w) := by
  have key : numOk w = true ↔ w ≠ [] ∧ w.length ≤ 19 ∧ ¬ (1 < w.length ∧ (w.getD 0 0).toNat = 48) ∧ (∀ c ∈ w, dg1 c) ∧ valF 0 w ≤ 9223372036854775807 := by
    unfold numOk wordOk
    rw [valS_eq]
    simp only [Bool.and_eq_true, decide_eq_true_eq, List.all_eq_true, digOk]
    constructor
    · rintro ⟨⟨⟨a, b, c⟩, d⟩, e⟩
      exact ⟨fun h => by subst h; simp at a, b, c, fun x hx => d x hx, e⟩
    · rintro ⟨a, b, c, d, e⟩
      exact ⟨⟨⟨(List.length_pos_iff.2 a), b, c⟩, fun x hx => d x hx⟩, e⟩
  constructor
  · rintro ⟨h, rfl⟩
    obtain ⟨a, b, c, d, e⟩ := key.1 h
    have hv : numV w = valF 0 w := by
      unfold numOk at h
      simp only [Bool.and_eq_true] at h
      unfold numV; rw [if_pos h.1, valS_eq]
    rw [hv]
    refine ⟨(wordP_iff w _).2 ⟨a, d, rfl, e⟩, ?_⟩
    rw [← dec_digits _ (by omega)]
    exact dd_of_val w a d c
  · rintro ⟨h1, h2⟩
    obtain ⟨a, b, c, d⟩ := (wordP_iff w n).1 h1
    rw [← dec_digits n (by omega)] at h2
    have hk : numOk w = true := key.2 ⟨a, by rw [← h2]; exact dd_len 18 n (by omega), fun e => by
      rw [← h2] at e; exact dd_head n (dd_len1 n e.1) e.2, b, by omega⟩
    refine ⟨hk, ?_⟩
    unfold numOk at hk
    simp only [Bool.and_eq_true] at hk
    unfold numV; rw [if_pos hk.1, valS_eq, c]
/-- The numbers' texts, each with a dot behind it. -/
def dots (l : List Nat) : List UInt8 := l.flatMap fun n => dec n ++ [46]
theorem textS_split : ∀ (out : List Nat) (n : Nat) (m : List Nat), textS (out ++ n :: m) = dots out ++ (dec n ++ m.flatMap fun x => 46 :: dec x)
  | [], n, m => by rw [← join_text, List.nil_append, List.map_cons, Lib.join_cons]; simp [dots, Lib.joinTail, List.flatMap_def, List.map_map, Function.comp_def]
  | x :: out, n, m => by
    have h := textS_split out n m
    have e : textS (x :: (out ++ n :: m)) = dec x ++ (out ++ n :: m).flatMap fun x => 46 :: dec x := by
      rw [← join_text, List.map_cons, Lib.join_cons]; simp [Lib.joinTail, List.flatMap_def, List.map_map, Function.comp_def]
    rw [List.cons_append, e]
    cases out with
    | nil => simp [dots]
    | cons y out =>
      have e2 : textS (y :: (out ++ n :: m)) = dec y ++ (out ++ n :: m).flatMap fun x => 46 :: dec x := by
        rw [← join_text, List.map_cons, Lib.join_cons]; simp [Lib.joinTail, List.flatMap_def, List.map_map, Function.comp_def]
      rw [List.cons_append] at h
      rw [e2] at h
      simp only [dots, List.flatMap_cons, List.append_assoc, List.cons_append, List.nil_append] at h ⊢
      rw [h]
theorem textS_snoc (out : List Nat) (n : Nat) : textS (out ++ [n]) = dots out ++ dec n := by rw [textS_split]; simp
theorem dots_snoc (out : List Nat) (n : Nat) : dots (out ++ [n]) = dots out ++ (dec n ++ [46]) := by simp [dots]
theorem parseC_prog : ∀ (s w : List UInt8) (out l : List Nat), parseC s w out = some l → progA s w out = some l ∧ textS l = dots out ++ (w ++ s)
  | [], w, out, l, h => by
    simp only [parseC] at h
    split at h
    · rename_i hw
      injection h with h; subst h
      obtain ⟨h1, h2⟩ := (numOk_iff w _).1 ⟨hw, rfl⟩
      rw [progA, h1, textS_snoc, h2]; exact ⟨rfl, by simp⟩
    · cases h
  | c :: r, w, out, l, h => by
    simp only [parseC] at h
    by_cases hc : c.toNat = 46
    · rw [if_pos hc] at h
      obtain rfl : c = 46 := UInt8.toNat_inj.1 (by rw [hc]; rfl)
      split at h
      · rename_i hw
        obtain ⟨h1, h2⟩ := (numOk_iff w _).1 ⟨hw, rfl⟩
        obtain ⟨h3, h4⟩ := parseC_prog r [] _ l h
        rw [progA, if_pos rfl, h1]
        refine ⟨h3, ?_⟩
        rw [h4, dots_snoc, h2]; simp
      · cases h
    · rw [if_neg hc] at h
      obtain ⟨h3, h4⟩ := parseC_prog r (w ++ [c]) out l h
      rw [progA, if_neg (fun e => hc (by rw [e]; rfl))]
      exact ⟨h3, by rw [h4]; simp⟩
theorem progA_pre : ∀ (s w : List UInt8) (out l : List Nat), progA s w out = some l → ∃ n m, l = out ++ n :: m
  | [], w, out, l, h => by
    simp only [progA] at h
    split at h
    · injection h with h; exact ⟨_, [], h.symm⟩
    · cases h
  | c :: r, w, out, l, h => by
    simp only [progA] at h
    split at h
    · split at h
      · rename_i n hn
        obtain ⟨k, m, e⟩ := progA_pre r [] _ l h
        exact ⟨n, k :: m, by rw [e]; simp⟩
      · cases h
    · exact progA_pre r _ out l h
theorem dot_split : ∀ (a b x y : List UInt8), (∀ c ∈ a, dg1 c) → (∀ c ∈ b, dg1 c) → a ++ 46 :: x = b ++ 46 :: y → a = b ∧ x = y
  | [], [], x, y, _, _, h => by simpa using h
  | [], c :: b, x, y, _, hb, h => by
    simp only [List.nil_append, List.cons_append, List.cons.injEq] at h
    have := hb c List.mem_cons_self
    rw [← h.1] at this
    exact absurd this (by decide)
  | c :: a, [], x, y, ha, _, h => by
    simp only [List.nil_append, List.cons_append, List.cons.injEq] at h
    have := ha c List.mem_cons_self
    rw [h.1] at this
    exact absurd this (by decide)
  | c :: a, d :: b, x, y, ha, hb, h => by
    simp only [List.cons_append, List.cons.injEq] at h
    obtain ⟨rfl, h⟩ := h
    obtain ⟨rfl, e⟩ := dot_split a b x y (fun z hz => ha z (List.mem_cons_of_mem _ hz)) (fun z hz => hb z (List.mem_cons_of_mem _ hz)) h
    exact ⟨rfl, e⟩
theorem progA_parse : ∀ (s w : List UInt8) (out l : List Nat), progA s w out = some l → textS l = dots out ++ (w ++ s) → parseC s w out = some l
  | [], w, out, l, h, ht => by
    simp only [progA] at h
    split at h
    · rename_i n hn
      injection h with h; subst h
      rw [textS_snoc] at ht
      have e : dec n = w := by simpa using List.append_cancel_left ht
      obtain ⟨h1, h2⟩ := (numOk_iff w n).2 ⟨hn, e⟩
      rw [parseC, if_pos h1, h2]
    · cases h
  | c :: r, w, out, l, h, ht => by
    simp only [progA] at h
    by_cases hc : c = 46
    · subst hc
      rw [if_pos rfl] at h
      split at h
      · rename_i n hn
        obtain ⟨k, m, e⟩ := progA_pre r [] _ l h
        have hl : textS l = dots out ++ (dec n ++ 46 :: (dec k ++ m.flatMap fun x => 46 :: dec x)) := by
          rw [e, List.append_assoc, List.singleton_append, textS_split]; simp
        rw [hl] at ht
        have h2 := List.append_cancel_left ht
        have hw := (wordP_iff w n).1 hn
        have hdn : ∀ c ∈ dec n, dg1 c := by rw [← dec_digits n (by omega)]; exact dd_dig n
        obtain ⟨e1, e2⟩ := dot_split _ _ _ _ hdn hw.2.1 h2
        obtain ⟨h3, h4⟩ := (numOk_iff w n).2 ⟨hn, e1⟩
        rw [parseC, if_pos (by decide), if_pos h3, h4]
        refine progA_parse r [] _ l h ?_
        rw [hl, dots_snoc, e1, ← e2]; simp
      · cases h
    · rw [if_neg hc] at h
      rw [parseC, if_neg (fun e => hc (UInt8.toNat_inj.1 (by rw [e]; rfl)))]
      exact progA_parse r _ out l h (by rw [ht]; simp)
/-- What the program reads of a text is the document's. -/
theorem parseP_eq (s : List UInt8) : parseP s = parseR s := by
  unfold parseP parseR
  cases h : parseC s [] [] with
  | some l =>
    obtain ⟨h1, h2⟩ := parseC_prog s [] [] l h
    rw [h1]
    have e : textS l = s := by rw [h2]; simp [dots]
    simp only [e, and_true]
  | none =>
    cases h' : progA s [] [] with
    | none => rfl
    | some l =>
      simp only []
      rw [if_neg]
      rintro ⟨-, e⟩
      have := progA_parse s [] [] l h' (by rw [e]; simp [dots])
      rw [h] at this; cases this
theorem parseR_len2 (s : List UInt8) : ((parseR s).getD []).length ≤ 20 := by
  unfold parseR
  split
  · split
    · rename_i hm
      have := of_decide_eq_true hm
      simp only [Option.getD_some]; exact this.2.1
    · simp
  · simp
/-- A text is read as it was. -/
theorem parseP_text {l : List Nat} (h : may l = true) : parseP (textS l) = some l := by
  have hm := of_decide_eq_true h
  have hall : ∀ x ∈ l, x ≤ 9223372036854775807 := (mx_all l _).1 hm.2.2.2.2.1
  have word : ∀ n, n ≤ 9223372036854775807 → wordP (dec n) = some n := fun n hn => by
    rw [← dec_digits n (by omega)]
    exact (wordP_iff _ _).2 ⟨dd_ne n, dd_dig n, dd_val n, hn⟩
  have skip : ∀ (w v r : List UInt8) (out : List Nat), (∀ c ∈ w, dg1 c) → progA (w ++ r) v out = progA r (v ++ w) out := by
    intro w
    induction w with
    | nil => intro v r out _; simp
    | cons c w ih =>
      intro v r out hw
      rw [List.cons_append, progA, if_neg (fun e => by have := hw c List.mem_cons_self; rw [e] at this; exact absurd this (by decide)), ih _ _ _ (fun x hx => hw x (List.mem_cons_of_mem _ hx))]
      simp
  have hdd : ∀ n, n ≤ 9223372036854775807 → ∀ c ∈ dec n, dg1 c := fun n hn => by rw [← dec_digits n (by omega)]; exact dd_dig n
  have main : ∀ (m : List Nat) (n : Nat) (out : List Nat), n ≤ 9223372036854775807 → (∀ x ∈ m, x ≤ 9223372036854775807) → progA (dec n ++ m.flatMap fun x => 46 :: dec x) [] out = some (out ++ n :: m) := by
    intro m
    induction m with
    | nil => intro n out hn _; rw [skip _ _ _ _ (hdd n hn)]; simp [progA, word n hn]
    | cons k m ih =>
      intro n out hn hm
      rw [skip _ _ _ _ (hdd n hn), List.flatMap_cons, List.cons_append, progA, if_pos rfl, List.nil_append, word n hn]
      show progA _ [] (out ++ [n]) = _
      rw [ih k _ (hm k List.mem_cons_self) (fun x hx => hm x (List.mem_cons_of_mem _ hx))]
      simp
  cases l with
  | nil => simp at hm
  | cons n m =>
    have ht : textS (n :: m) = dec n ++ m.flatMap fun x => 46 :: dec x := by have := textS_split [] n m; simpa [dots] using this
    have hp := main m n [] (hall n List.mem_cons_self) (fun x hx => hall x (List.mem_cons_of_mem _ hx))
    unfold parseP
    rw [ht, hp]
    simp only [List.nil_append]
    rw [if_pos ⟨h, ht⟩]
end Go.Proofs.YtgfadocohpinmaaDoor.Oa
namespace Go.Proofs.YtgfadocohpinmaaDoor.Oa
open Go Go.RowKit Go.Proofs.YtgfadocohpinmaaDoor.Vm Go.IntWalk
set_option maxRecDepth 100000
set_option maxHeartbeats 4000000
noncomputable def ΦT : Fns := tab [(8, textF), (9, rtextF), (10, parseF), (11, rparseF), (12, rmayF), (13, sameF), (14, checkF)]
theorem ΦT_ok : Sound E ΦT := sound_cons (by kernel_rfl) text_ok (sound_cons (by kernel_rfl) rtext_ok (sound_cons (by kernel_rfl) parse_ok (sound_cons (by kernel_rfl) rparse_ok (sound_cons (by kernel_rfl) rmay_ok (sound_cons (by kernel_rfl) same_ok (sound_cons (by kernel_rfl) check_ok (sound_nil)))))))
@[go_sem] theorem ΦT_7 : ΦT 7 = none := rfl
@[go_sem] theorem ΦT_c7 : callable Tryd.prog 7 = true := by kernel_rfl
@[go_sem] theorem ΦT_8 : ΦT 8 = some textF := rfl
@[go_sem] theorem ΦT_9 : ΦT 9 = some rtextF := rfl
@[go_sem] theorem ΦT_10 : ΦT 10 = some parseF := rfl
@[go_sem] theorem ΦT_11 : ΦT 11 = some rparseF := rfl
@[go_sem] theorem ΦT_12 : ΦT 12 = some rmayF := rfl
@[go_sem] theorem ΦT_13 : ΦT 13 = some sameF := rfl
@[go_sem] theorem ΦT_14 : ΦT 14 = some checkF := rfl
theorem take_twin (l : List Nat) : (numsD (l ++ [77])).take l.length = numsD l := by
  rw [← numsD_snoc, List.take_append_of_le_length (by rw [numsD_len]; exact Nat.le_refl _)]
  exact List.take_of_length_le (by rw [numsD_len]; exact Nat.le_refl _)
theorem len_twin (l : List Nat) : (l ++ [77]).length = l.length + 1 := by simp
theorem take_tw (l : List Nat) : (l ++ [77]).take l.length = l := List.take_left
theorem at_twin (l : List Nat) : (numsD (l ++ [77])).getD l.length [] = [.int .u64 77] := by
  rw [← numsD_snoc, List.getD_eq_getElem?_getD, List.getElem?_append_right (by rw [numsD_len]; exact Nat.le_refl _), numsD_len]
  simp
theorem check_eq (b : Bool) : (decide ((if b = true then (0 : Int) else 140) = 0) == b) = true := by cases b <;> rfl
def textsA (x : List Nat × List UInt8) : List Vm.Data := let (l, s) := x; [.lst (numsD l), .str s]
noncomputable def textsF : PFn := PFn.of textsA (fun (l, s) => True) (fun (l, s) => [.bool true])
theorem texts_inj (x y : List Nat × List UInt8) (h : textsA x = textsA y) : x = y := by
  simpa [textsA, Prod.ext_iff, numsD_inj, bytesD_inj, Vm.Data.lst.injEq, Int.natCast_inj] using h
@[go_sem] theorem texts_pre (l : List Nat) (s : List UInt8) : textsF.pre [.lst (numsD l), .str s] = (True) := PFn.of_pre texts_inj (l, s)
@[go_sem] theorem texts_res (l : List Nat) (s : List UInt8) : textsF.res [.lst (numsD l), .str s] = [.bool true] := PFn.of_res texts_inj (l, s)
theorem texts_ok : Pure E 3 textsF := by
  apply Pure.of_body (rs := [.tmp 4]) (n := 94) Tryd.func3 rfl rfl rfl
  intro ds hds
  obtain ⟨⟨l, s⟩, rfl, hds⟩ := hds
  (try dsimp only at hds)
  rw [show textsF.res (textsA (l, s)) = [.bool true] from texts_res l s]
  skip
  refine ⟨Nat.le_of_ble_eq_true rfl, ?_⟩
  show VC E none _ (pureSt 94 [.lst (numsD l), .str s]) _
  apply VC.regt ΦT_ok [0, 1]; intro K' hK; dsimp only [List.take, List.drop, List.map, strip, stripG]; simp -implicitDefEqProofs only [go_sem, Nat.reduceLT, Nat.reduceAdd, Nat.reduceEqDiff, reduceIte, Nat.reduceMul, Nat.reduceSub, reduceCtorEq, Int.reduceNe, Int.reduceEq, ne_eq, Nat.reduceLeDiff, Nat.reduceMod, Nat.reduceDiv]
  (repeat' first | (refine hK _ ?_; clear hK K') | with_reducible apply And.intro | (simp -implicitDefEqProofs (disch := omega) only [take_twin, take_tw, len_twin, at_twin, i64_in, Nat.le_add_right, List.length_cons, List.length_nil, Nat.reduceAdd]; done) | omega | exact Nat.le_trans (parseR_len2 _) (by decide))
  all_goals
    apply VC.at
    · simp -implicitDefEqProofs only [go_sem, Nat.reduceLT, Nat.reduceAdd, Nat.reduceEqDiff, reduceIte, Nat.reduceMul, Nat.reduceSub, reduceCtorEq, Int.reduceNe, Int.reduceEq, ne_eq, Nat.reduceLeDiff, Nat.reduceMod, Nat.reduceDiv]; (try simp (disch := omega) only [i64_in, tmodn, tdivn]); exact rfl
    apply VC.seq
    apply VC.regt ΦT_ok [0, 1, 22]; intro K' hK; dsimp only [List.take, List.drop, List.map, strip, stripG]; simp only [gtmp, List.getElem?_toArray, List.getElem?_cons_succ, List.getElem?_cons_zero, Option.bind_some]; simp -implicitDefEqProofs only [go_sem, Nat.reduceLT, Nat.reduceAdd, Nat.reduceEqDiff, reduceIte, Nat.reduceMul, Nat.reduceSub, reduceCtorEq, Int.reduceNe, Int.reduceEq, ne_eq, Nat.reduceLeDiff, Nat.reduceMod, Nat.reduceDiv]
    (repeat' first | (refine hK _ ?_; clear hK K') | (first | apply goB_splitD | apply goA_splitD | apply goB_split | apply goA_split | apply goA_all) <;> intro _ <;> simp -implicitDefEqProofs only [go_sem, Nat.reduceLT, Nat.reduceAdd, Nat.reduceEqDiff, reduceIte, Nat.reduceMul, Nat.reduceSub, reduceCtorEq, Int.reduceNe, Int.reduceEq, ne_eq, Nat.reduceLeDiff, Nat.reduceMod, Nat.reduceDiv] | with_reducible apply And.intro | (simp -implicitDefEqProofs (disch := omega) only [take_twin, take_tw, len_twin, at_twin, i64_in, Nat.le_add_right, List.length_cons, List.length_nil, Nat.reduceAdd]; done) | omega | exact Nat.le_trans (parseR_len2 _) (by decide))
    all_goals
      apply VC.at
      · simp -implicitDefEqProofs only [go_sem, Nat.reduceLT, Nat.reduceAdd, Nat.reduceEqDiff, reduceIte, Nat.reduceMul, Nat.reduceSub, reduceCtorEq, Int.reduceNe, Int.reduceEq, ne_eq, Nat.reduceLeDiff, Nat.reduceMod, Nat.reduceDiv]; (try simp (disch := omega) only [i64_in, tmodn, tdivn]); exact rfl
      first | (apply VC.condd; (focus (simp -implicitDefEqProofs only [go_sem, Nat.reduceLT, Nat.reduceAdd, Nat.reduceEqDiff, reduceIte, Nat.reduceMul, Nat.reduceSub, reduceCtorEq, Int.reduceNe, Int.reduceEq, ne_eq, Nat.reduceLeDiff, Nat.reduceMod, Nat.reduceDiv]; with_reducible exact rfl))) | (apply VC.condn; (focus (simp -implicitDefEqProofs only [go_sem, Nat.reduceLT, Nat.reduceAdd, Nat.reduceEqDiff, reduceIte, Nat.reduceMul, Nat.reduceSub, reduceCtorEq, Int.reduceNe, Int.reduceEq, ne_eq, Nat.reduceLeDiff, Nat.reduceMod, Nat.reduceDiv]; with_reducible exact rfl))) | (apply VC.condt; (focus (simp -implicitDefEqProofs only [go_sem, Nat.reduceLT, Nat.reduceAdd, Nat.reduceEqDiff, reduceIte, Nat.reduceMul, Nat.reduceSub, reduceCtorEq, Int.reduceNe, Int.reduceEq, ne_eq, Nat.reduceLeDiff, Nat.reduceMod, Nat.reduceDiv]; with_reducible exact rfl))) | (apply VC.condb; (focus (simp -implicitDefEqProofs only [go_sem, Nat.reduceLT, Nat.reduceAdd, Nat.reduceEqDiff, reduceIte, Nat.reduceMul, Nat.reduceSub, reduceCtorEq, Int.reduceNe, Int.reduceEq, ne_eq, Nat.reduceLeDiff, Nat.reduceMod, Nat.reduceDiv]; exact rfl)))
      · intro h; try exact absurd h (by decide)
        all_goals
          apply VC.regt ΦT_ok [4]; intro K' hK; dsimp only [List.take, List.drop, List.map, strip, stripG]; simp -implicitDefEqProofs only [go_sem, Nat.reduceLT, Nat.reduceAdd, Nat.reduceEqDiff, reduceIte, Nat.reduceMul, Nat.reduceSub, reduceCtorEq, Int.reduceNe, Int.reduceEq, ne_eq, Nat.reduceLeDiff, Nat.reduceMod, Nat.reduceDiv]
          (repeat' first | (refine hK _ ?_; clear hK K') | with_reducible apply And.intro | (simp -implicitDefEqProofs (disch := omega) only [take_twin, take_tw, len_twin, at_twin, i64_in, Nat.le_add_right, List.length_cons, List.length_nil, Nat.reduceAdd]; done) | omega | exact Nat.le_trans (parseR_len2 _) (by decide))
          all_goals
            apply VC.at
            · simp -implicitDefEqProofs only [go_sem, Nat.reduceLT, Nat.reduceAdd, Nat.reduceEqDiff, reduceIte, Nat.reduceMul, Nat.reduceSub, reduceCtorEq, Int.reduceNe, Int.reduceEq, ne_eq, Nat.reduceLeDiff, Nat.reduceMod, Nat.reduceDiv]; (try simp (disch := omega) only [i64_in, tmodn, tdivn]); exact rfl
            apply VC.ret
            refine thenK_r ?_
            simp -implicitDefEqProofs only [go_sem, Nat.reduceLT, Nat.reduceAdd, Nat.reduceEqDiff, reduceIte, Nat.reduceMul, Nat.reduceSub, reduceCtorEq, Int.reduceNe, Int.reduceEq, ne_eq, Nat.reduceLeDiff, Nat.reduceMod, Nat.reduceDiv]
            all_goals (first | trivial | rfl | (exfalso; rename_i hq; exact hq (by cases may l <;> rfl)))
      · intro h; try exact absurd h (by decide)
        all_goals
          apply VC.skip
          refine thenK_n ?_
          apply VC.regt ΦT_ok [0, 1, 5]; intro K' hK; dsimp only [List.take, List.drop, List.map, strip, stripG]; simp -implicitDefEqProofs only [go_sem, Nat.reduceLT, Nat.reduceAdd, Nat.reduceEqDiff, reduceIte, Nat.reduceMul, Nat.reduceSub, reduceCtorEq, Int.reduceNe, Int.reduceEq, ne_eq, Nat.reduceLeDiff, Nat.reduceMod, Nat.reduceDiv]
          (repeat' first | fail | ((first | with_reducible refine runA_id ?_ | with_reducible refine goA_id ?_); simp -implicitDefEqProofs (disch := omega) only [take_twin, take_tw, len_twin, at_twin, i64_in, Nat.le_add_right]; simp -implicitDefEqProofs only [go_sem, Nat.reduceLT, Nat.reduceAdd, Nat.reduceEqDiff, reduceIte, Nat.reduceMul, Nat.reduceSub, reduceCtorEq, Int.reduceNe, Int.reduceEq, ne_eq, Nat.reduceLeDiff, Nat.reduceMod, Nat.reduceDiv]) | with_reducible apply And.intro | (simp -implicitDefEqProofs (disch := omega) only [take_twin, take_tw, len_twin, at_twin, i64_in, Nat.le_add_right, List.length_cons, List.length_nil, Nat.reduceAdd]; done) | omega | exact Nat.le_trans (parseR_len2 _) (by decide))
          refine VCcall.own twin_own 1 (by simp -implicitDefEqProofs only [go_sem, Nat.reduceLT, Nat.reduceAdd, Nat.reduceEqDiff, reduceIte, Nat.reduceMul, Nat.reduceSub, reduceCtorEq, Int.reduceNe, Int.reduceEq, ne_eq, Nat.reduceLeDiff, Nat.reduceMod, Nat.reduceDiv]; exact rfl) ?_ ?_ ?_
          · simp -implicitDefEqProofs only [go_sem, Nat.reduceLT, Nat.reduceAdd, Nat.reduceEqDiff, reduceIte, Nat.reduceMul, Nat.reduceSub, reduceCtorEq, Int.reduceNe, Int.reduceEq, ne_eq, Nat.reduceLeDiff, Nat.reduceMod, Nat.reduceDiv]; omega
          · simp -implicitDefEqProofs only [go_sem, Nat.reduceLT, Nat.reduceAdd, Nat.reduceEqDiff, reduceIte, Nat.reduceMul, Nat.reduceSub, reduceCtorEq, Int.reduceNe, Int.reduceEq, ne_eq, Nat.reduceLeDiff, Nat.reduceMod, Nat.reduceDiv]; first | done | decide
          simp -implicitDefEqProofs only [go_sem, Nat.reduceLT, Nat.reduceAdd, Nat.reduceEqDiff, reduceIte, Nat.reduceMul, Nat.reduceSub, reduceCtorEq, Int.reduceNe, Int.reduceEq, ne_eq, Nat.reduceLeDiff, Nat.reduceMod, Nat.reduceDiv]
          (repeat' first | (refine hK _ ?_; clear hK K') | ((first | with_reducible refine runA_id ?_ | with_reducible refine goA_id ?_); simp -implicitDefEqProofs (disch := omega) only [take_twin, take_tw, len_twin, at_twin, i64_in, Nat.le_add_right]; simp -implicitDefEqProofs only [go_sem, Nat.reduceLT, Nat.reduceAdd, Nat.reduceEqDiff, reduceIte, Nat.reduceMul, Nat.reduceSub, reduceCtorEq, Int.reduceNe, Int.reduceEq, ne_eq, Nat.reduceLeDiff, Nat.reduceMod, Nat.reduceDiv]) | with_reducible apply And.intro | (simp -implicitDefEqProofs (disch := omega) only [take_twin, take_tw, len_twin, at_twin, i64_in, Nat.le_add_right, List.length_cons, List.length_nil, Nat.reduceAdd]; done) | omega | exact Nat.le_trans (parseR_len2 _) (by decide))
          all_goals
            apply VC.at
            · simp -implicitDefEqProofs only [go_sem, Nat.reduceLT, Nat.reduceAdd, Nat.reduceEqDiff, reduceIte, Nat.reduceMul, Nat.reduceSub, reduceCtorEq, Int.reduceNe, Int.reduceEq, ne_eq, Nat.reduceLeDiff, Nat.reduceMod, Nat.reduceDiv]; (try simp (disch := omega) only [i64_in, tmodn, tdivn]); (try simp only [len_twin]); exact rfl
            apply VC.regt ΦT_ok [0, 1, 5, 6, 7]; intro K' hK; dsimp only [List.take, List.drop, List.map, strip, stripG]; simp -implicitDefEqProofs only [go_sem, Nat.reduceLT, Nat.reduceAdd, Nat.reduceEqDiff, reduceIte, Nat.reduceMul, Nat.reduceSub, reduceCtorEq, Int.reduceNe, Int.reduceEq, ne_eq, Nat.reduceLeDiff, Nat.reduceMod, Nat.reduceDiv]
            (repeat' first | (refine hK _ ?_; clear hK K') | ((first | with_reducible refine runA_id ?_ | with_reducible refine goA_id ?_); simp -implicitDefEqProofs (disch := omega) only [take_twin, take_tw, len_twin, at_twin, i64_in, Nat.le_add_right]; simp -implicitDefEqProofs only [go_sem, Nat.reduceLT, Nat.reduceAdd, Nat.reduceEqDiff, reduceIte, Nat.reduceMul, Nat.reduceSub, reduceCtorEq, Int.reduceNe, Int.reduceEq, ne_eq, Nat.reduceLeDiff, Nat.reduceMod, Nat.reduceDiv]) | with_reducible apply And.intro | (simp -implicitDefEqProofs (disch := omega) only [take_twin, take_tw, len_twin, at_twin, i64_in, Nat.le_add_right, List.length_cons, List.length_nil, Nat.reduceAdd]; done) | omega | exact Nat.le_trans (parseR_len2 _) (by decide))
            all_goals
              apply VC.at
              · simp -implicitDefEqProofs only [go_sem, Nat.reduceLT, Nat.reduceAdd, Nat.reduceEqDiff, reduceIte, Nat.reduceMul, Nat.reduceSub, reduceCtorEq, Int.reduceNe, Int.reduceEq, ne_eq, Nat.reduceLeDiff, Nat.reduceMod, Nat.reduceDiv]; (try simp (disch := omega) only [i64_in, tmodn, tdivn]); exact rfl
              apply VC.regt ΦT_ok [0, 1, 5, 6, 7, 8, 9]; intro K' hK; dsimp only [List.take, List.drop, List.map, strip, stripG]; simp -implicitDefEqProofs only [go_sem, Nat.reduceLT, Nat.reduceAdd, Nat.reduceEqDiff, reduceIte, Nat.reduceMul, Nat.reduceSub, reduceCtorEq, Int.reduceNe, Int.reduceEq, ne_eq, Nat.reduceLeDiff, Nat.reduceMod, Nat.reduceDiv]
              (repeat' first | (refine hK _ ?_; clear hK K') | ((first | with_reducible refine runA_id ?_ | with_reducible refine goA_id ?_); simp -implicitDefEqProofs (disch := omega) only [take_twin, take_tw, len_twin, at_twin, i64_in, Nat.le_add_right]; simp -implicitDefEqProofs only [go_sem, Nat.reduceLT, Nat.reduceAdd, Nat.reduceEqDiff, reduceIte, Nat.reduceMul, Nat.reduceSub, reduceCtorEq, Int.reduceNe, Int.reduceEq, ne_eq, Nat.reduceLeDiff, Nat.reduceMod, Nat.reduceDiv]) | with_reducible apply And.intro | (simp -implicitDefEqProofs (disch := omega) only [take_twin, take_tw, len_twin, at_twin, i64_in, Nat.le_add_right, List.length_cons, List.length_nil, Nat.reduceAdd]; done) | omega | exact Nat.le_trans (parseR_len2 _) (by decide))
              all_goals
                apply VC.at
                · simp -implicitDefEqProofs only [go_sem, Nat.reduceLT, Nat.reduceAdd, Nat.reduceEqDiff, reduceIte, Nat.reduceMul, Nat.reduceSub, reduceCtorEq, Int.reduceNe, Int.reduceEq, ne_eq, Nat.reduceLeDiff, Nat.reduceMod, Nat.reduceDiv]; (try simp (disch := omega) only [i64_in, tmodn, tdivn]); exact rfl
                apply VC.regt ΦT_ok [0, 1, 5, 6, 7, 8, 9, 10, 11]; intro K' hK; dsimp only [List.take, List.drop, List.map, strip, stripG]; simp -implicitDefEqProofs only [go_sem, Nat.reduceLT, Nat.reduceAdd, Nat.reduceEqDiff, reduceIte, Nat.reduceMul, Nat.reduceSub, reduceCtorEq, Int.reduceNe, Int.reduceEq, ne_eq, Nat.reduceLeDiff, Nat.reduceMod, Nat.reduceDiv]
                (repeat' first | (refine hK _ ?_; clear hK K') | ((first | with_reducible refine runA_id ?_ | with_reducible refine goA_id ?_); simp -implicitDefEqProofs (disch := omega) only [take_twin, take_tw, len_twin, at_twin, i64_in, Nat.le_add_right]; simp -implicitDefEqProofs only [go_sem, Nat.reduceLT, Nat.reduceAdd, Nat.reduceEqDiff, reduceIte, Nat.reduceMul, Nat.reduceSub, reduceCtorEq, Int.reduceNe, Int.reduceEq, ne_eq, Nat.reduceLeDiff, Nat.reduceMod, Nat.reduceDiv]) | with_reducible apply And.intro | (simp -implicitDefEqProofs (disch := omega) only [take_twin, take_tw, len_twin, at_twin, i64_in, Nat.le_add_right, List.length_cons, List.length_nil, Nat.reduceAdd]; done) | omega | exact Nat.le_trans (parseR_len2 _) (by decide))
                all_goals
                  apply VC.at
                  · simp -implicitDefEqProofs only [go_sem, Nat.reduceLT, Nat.reduceAdd, Nat.reduceEqDiff, reduceIte, Nat.reduceMul, Nat.reduceSub, reduceCtorEq, Int.reduceNe, Int.reduceEq, ne_eq, Nat.reduceLeDiff, Nat.reduceMod, Nat.reduceDiv]; (try simp (disch := omega) only [i64_in, tmodn, tdivn]); exact rfl
                  apply VC.regt ΦT_ok [0, 5, 6, 7, 8, 9, 10, 11, 12, 13]; intro K' hK; dsimp only [List.take, List.drop, List.map, strip, stripG]; simp -implicitDefEqProofs only [go_sem, Nat.reduceLT, Nat.reduceAdd, Nat.reduceEqDiff, reduceIte, Nat.reduceMul, Nat.reduceSub, reduceCtorEq, Int.reduceNe, Int.reduceEq, ne_eq, Nat.reduceLeDiff, Nat.reduceMod, Nat.reduceDiv]
                  (repeat' first | (refine hK _ ?_; clear hK K') | ((first | with_reducible refine runA_id ?_ | with_reducible refine goA_id ?_); simp -implicitDefEqProofs (disch := omega) only [take_twin, take_tw, len_twin, at_twin, i64_in, Nat.le_add_right]; simp -implicitDefEqProofs only [go_sem, Nat.reduceLT, Nat.reduceAdd, Nat.reduceEqDiff, reduceIte, Nat.reduceMul, Nat.reduceSub, reduceCtorEq, Int.reduceNe, Int.reduceEq, ne_eq, Nat.reduceLeDiff, Nat.reduceMod, Nat.reduceDiv]) | with_reducible apply And.intro | (simp -implicitDefEqProofs (disch := omega) only [take_twin, take_tw, len_twin, at_twin, i64_in, Nat.le_add_right, List.length_cons, List.length_nil, Nat.reduceAdd]; done) | omega | exact Nat.le_trans (parseR_len2 _) (by decide))
                  all_goals
                    apply VC.at
                    · simp -implicitDefEqProofs only [go_sem, Nat.reduceLT, Nat.reduceAdd, Nat.reduceEqDiff, reduceIte, Nat.reduceMul, Nat.reduceSub, reduceCtorEq, Int.reduceNe, Int.reduceEq, ne_eq, Nat.reduceLeDiff, Nat.reduceMod, Nat.reduceDiv]; (try simp (disch := omega) only [i64_in, tmodn, tdivn]); exact rfl
                    apply VC.regt ΦT_ok [0, 5, 6, 7, 8, 9, 10, 11, 12, 13, 14]; intro K' hK; dsimp only [List.take, List.drop, List.map, strip, stripG]; simp -implicitDefEqProofs only [go_sem, Nat.reduceLT, Nat.reduceAdd, Nat.reduceEqDiff, reduceIte, Nat.reduceMul, Nat.reduceSub, reduceCtorEq, Int.reduceNe, Int.reduceEq, ne_eq, Nat.reduceLeDiff, Nat.reduceMod, Nat.reduceDiv]
                    (repeat' first | (refine hK _ ?_; clear hK K') | ((first | with_reducible refine runA_id ?_ | with_reducible refine goA_id ?_); simp -implicitDefEqProofs (disch := omega) only [take_twin, take_tw, len_twin, at_twin, i64_in, Nat.le_add_right]; simp -implicitDefEqProofs only [go_sem, Nat.reduceLT, Nat.reduceAdd, Nat.reduceEqDiff, reduceIte, Nat.reduceMul, Nat.reduceSub, reduceCtorEq, Int.reduceNe, Int.reduceEq, ne_eq, Nat.reduceLeDiff, Nat.reduceMod, Nat.reduceDiv]) | with_reducible apply And.intro | (simp -implicitDefEqProofs (disch := omega) only [take_twin, take_tw, len_twin, at_twin, i64_in, Nat.le_add_right, List.length_cons, List.length_nil, Nat.reduceAdd]; done) | omega | exact Nat.le_trans (parseR_len2 _) (by decide))
                    all_goals
                      apply VC.at
                      · simp -implicitDefEqProofs only [go_sem, Nat.reduceLT, Nat.reduceAdd, Nat.reduceEqDiff, reduceIte, Nat.reduceMul, Nat.reduceSub, reduceCtorEq, Int.reduceNe, Int.reduceEq, ne_eq, Nat.reduceLeDiff, Nat.reduceMod, Nat.reduceDiv]; (try simp (disch := omega) only [i64_in, tmodn, tdivn]); exact rfl
                      rw [parseP_eq]
                      apply VC.regt ΦT_ok [4]; intro K' hK; dsimp only [List.take, List.drop, List.map, strip, stripG]; simp only [gtmp, List.getElem?_toArray, List.getElem?_cons_succ, List.getElem?_cons_zero, Option.bind_some]; simp -implicitDefEqProofs only [go_sem, Nat.reduceLT, Nat.reduceAdd, Nat.reduceEqDiff, reduceIte, Nat.reduceMul, Nat.reduceSub, reduceCtorEq, Int.reduceNe, Int.reduceEq, ne_eq, Nat.reduceLeDiff, Nat.reduceMod, Nat.reduceDiv]
                      (repeat' first | (refine hK _ ?_; clear hK K') | (first | apply goB_splitD | apply goA_splitD | apply goB_split | apply goA_split | apply goA_all) <;> intro _ <;> simp -implicitDefEqProofs only [go_sem, Nat.reduceLT, Nat.reduceAdd, Nat.reduceEqDiff, reduceIte, Nat.reduceMul, Nat.reduceSub, reduceCtorEq, Int.reduceNe, Int.reduceEq, ne_eq, Nat.reduceLeDiff, Nat.reduceMod, Nat.reduceDiv] | ((first | with_reducible refine runA_id ?_ | with_reducible refine goA_id ?_); simp -implicitDefEqProofs (disch := omega) only [take_twin, take_tw, len_twin, at_twin, i64_in, Nat.le_add_right]; simp -implicitDefEqProofs only [go_sem, Nat.reduceLT, Nat.reduceAdd, Nat.reduceEqDiff, reduceIte, Nat.reduceMul, Nat.reduceSub, reduceCtorEq, Int.reduceNe, Int.reduceEq, ne_eq, Nat.reduceLeDiff, Nat.reduceMod, Nat.reduceDiv]) | with_reducible apply And.intro | (simp -implicitDefEqProofs (disch := omega) only [take_twin, take_tw, len_twin, at_twin, i64_in, Nat.le_add_right, List.length_cons, List.length_nil, Nat.reduceAdd]; done) | omega | exact Nat.le_trans (parseR_len2 _) (by decide))
                      all_goals
                        apply VC.at
                        · simp -implicitDefEqProofs only [go_sem, Nat.reduceLT, Nat.reduceAdd, Nat.reduceEqDiff, reduceIte, Nat.reduceMul, Nat.reduceSub, reduceCtorEq, Int.reduceNe, Int.reduceEq, ne_eq, Nat.reduceLeDiff, Nat.reduceMod, Nat.reduceDiv]; (try simp (disch := omega) only [i64_in, tmodn, tdivn]); exact rfl
                        apply VC.ret
                        simp -implicitDefEqProofs only [go_sem, Nat.reduceLT, Nat.reduceAdd, Nat.reduceEqDiff, reduceIte, Nat.reduceMul, Nat.reduceSub, reduceCtorEq, Int.reduceNe, Int.reduceEq, ne_eq, Nat.reduceLeDiff, Nat.reduceMod, Nat.reduceDiv]
                        all_goals (first | trivial | rfl | (exfalso; rename_i hq; exact hq (by cases may l <;> rfl)))
end Go.Proofs.YtgfadocohpinmaaDoor.Oa

