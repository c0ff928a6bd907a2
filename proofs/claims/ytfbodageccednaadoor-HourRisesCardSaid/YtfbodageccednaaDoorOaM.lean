/- What the law HourRises computes. No condition. -/
import Derived.Test.YtfbodageccednaaDoorOaI
import Derived.Test.YtfbodageccednaaDoorOaH
set_option linter.unusedVariables false
set_option linter.unusedSimpArgs false
namespace Go.Proofs.YtfbodageccednaaDoor.Oa
open Go Go.RowKit Go.Proofs.YtfbodageccednaaDoor.Vm Go.IntWalk
set_option maxRecDepth 100000
set_option maxHeartbeats 4000000
noncomputable def ΦQ7 : Fns := tab [(9, aliveF), (10, generalF)]
theorem ΦQ7_ok : Sound E ΦQ7 := sound_cons (by kernel_rfl) alive_ok (sound_cons (by kernel_rfl) general_ok (sound_nil))
@[go_sem] theorem ΦQ7_9 : ΦQ7 9 = some aliveF := rfl
@[go_sem] theorem ΦQ7_10 : ΦQ7 10 = some generalF := rfl
def risesA (x : Int × Int) : List Vm.Data := let (a, b) := x; [.int .u64 a, .int .u64 b]
noncomputable def risesF : PFn := PFn.of risesA (fun (a, b) => 0 ≤ a ∧ 0 ≤ b) (fun (a, b) => [.bool true])
theorem rises_inj (x y : Int × Int) (h : risesA x = risesA y) : x = y := by
  simpa [risesA, Prod.ext_iff, numsD_inj, bytesD_inj, Vm.Data.lst.injEq, Int.natCast_inj] using h
@[go_sem] theorem rises_pre (a : Int) (b : Int) : risesF.pre [.int .u64 a, .int .u64 b] = (0 ≤ a ∧ 0 ≤ b) := PFn.of_pre rises_inj (a, b)
@[go_sem] theorem rises_res (a : Int) (b : Int) : risesF.res [.int .u64 a, .int .u64 b] = [.bool true] := PFn.of_res rises_inj (a, b)
theorem rises_ok : Pure E 3 risesF := by
  apply Pure.of_body (rs := [.tmp 4]) (n := 92) Tryd.func3 rfl rfl rfl
  intro ds hds
  obtain ⟨⟨a, b⟩, rfl, hds⟩ := hds
  (try dsimp only at hds)
  rw [show risesF.res (risesA (a, b)) = [.bool true] from rises_res a b]
  obtain ⟨ha0, hb0⟩ := hds
  obtain ⟨t, hT⟩ : ∃ t, a % 253402300800 * 1000 = t := ⟨_, rfl⟩
  obtain ⟨u, hU⟩ : ∃ u, b % 253402300800 * 1000 = u := ⟨_, rfl⟩
  obtain ⟨v, hV⟩ : ∃ v, t - t % 86400000 = v := ⟨_, rfl⟩
  have iT : tIn t = true := tIn_yes (by omega) (by omega)
  have iU : tIn u = true := tIn_yes (by omega) (by omega)
  have dt := day_text iT
  rw [hV] at dt
  obtain ⟨iV, d1, d2⟩ := dt
  have eT : genO t = rgenS t := by unfold genO; rw [iT, if_pos rfl, genS_eq iT]
  have eU : genO u = rgenS u := by unfold genO; rw [iU, if_pos rfl, genS_eq iU]
  have eV : genO v = rgenS v := by unfold genO; rw [iV, if_pos rfl, genS_eq iV]
  have lT := whole_len iT (by omega)
  have lV := whole_len iV (by omega)
  have rl := rises_lt iT iU (by omega) (by omega)
  have re := rises_eq iT iU
  have ht0 := tIn_of iT
  have e8 : List.take ((15 : Nat) - 8 : Int).toNat (List.drop 8 (rgenS v)) = [48, 48, 48, 48, 48, 48, 90] := by rw [d2]; rfl
  refine ⟨Nat.le_of_ble_eq_true rfl, ?_⟩
  show VC E none _ (pureSt 92 [.int .u64 a, .int .u64 b]) _
  apply VC.regt ΦQ7_ok [0, 1]; intro K' hK; dsimp only [List.take, List.drop, List.map, strip, stripG]; simp -implicitDefEqProofs only [go_sem, Nat.reduceLT, Nat.reduceAdd, Nat.reduceEqDiff, reduceIte, Nat.reduceMul, Nat.reduceSub, reduceCtorEq, Int.reduceNe, Int.reduceEq, ne_eq, Nat.reduceLeDiff, Nat.reduceMod, Nat.reduceDiv, hT, hU, hV, iT, iU, iV, eT, eU, eV, lT, lV, rl, re, Bool.false_eq_true]
  (repeat' first | (refine hK _ ?_; clear hK K') | with_reducible apply And.intro | (simp -implicitDefEqProofs (disch := omega) only [i64_in, tmodn, tdivn, List.length_cons, List.length_nil, Nat.reduceAdd]; done) | omega | decide | (rw [lT]; decide) | fail)
  all_goals
    apply VC.at
    · simp -implicitDefEqProofs only [go_sem, Nat.reduceLT, Nat.reduceAdd, Nat.reduceEqDiff, reduceIte, Nat.reduceMul, Nat.reduceSub, reduceCtorEq, Int.reduceNe, Int.reduceEq, ne_eq, Nat.reduceLeDiff, Nat.reduceMod, Nat.reduceDiv, hT, hU, hV, iT, iU, iV, eT, eU, eV, lT, lV, rl, re, Bool.false_eq_true]; (try simp (disch := omega) only [i64_in, tmodn, tdivn]); exact rfl
    apply VC.regt ΦQ7_ok [0, 1, 5]; intro K' hK; dsimp only [List.take, List.drop, List.map, strip, stripG]; simp -implicitDefEqProofs only [go_sem, Nat.reduceLT, Nat.reduceAdd, Nat.reduceEqDiff, reduceIte, Nat.reduceMul, Nat.reduceSub, reduceCtorEq, Int.reduceNe, Int.reduceEq, ne_eq, Nat.reduceLeDiff, Nat.reduceMod, Nat.reduceDiv, hT, hU, hV, iT, iU, iV, eT, eU, eV, lT, lV, rl, re, Bool.false_eq_true]
    (repeat' first | (refine hK _ ?_; clear hK K') | ((first | with_reducible refine runA_id ?_ | with_reducible refine goA_id ?_); simp -implicitDefEqProofs (disch := omega) only [i64_in, tmodn, tdivn]; simp -implicitDefEqProofs only [go_sem, Nat.reduceLT, Nat.reduceAdd, Nat.reduceEqDiff, reduceIte, Nat.reduceMul, Nat.reduceSub, reduceCtorEq, Int.reduceNe, Int.reduceEq, ne_eq, Nat.reduceLeDiff, Nat.reduceMod, Nat.reduceDiv, hT, hU, hV, iT, iU, iV, eT, eU, eV, lT, lV, rl, re, Bool.false_eq_true]) | with_reducible apply And.intro | (simp -implicitDefEqProofs (disch := omega) only [i64_in, tmodn, tdivn, List.length_cons, List.length_nil, Nat.reduceAdd]; done) | omega | decide | (rw [lT]; decide) | fail)
    all_goals
      apply VC.at
      · simp -implicitDefEqProofs only [go_sem, Nat.reduceLT, Nat.reduceAdd, Nat.reduceEqDiff, reduceIte, Nat.reduceMul, Nat.reduceSub, reduceCtorEq, Int.reduceNe, Int.reduceEq, ne_eq, Nat.reduceLeDiff, Nat.reduceMod, Nat.reduceDiv, hT, hU, hV, iT, iU, iV, eT, eU, eV, lT, lV, rl, re, Bool.false_eq_true]; (try simp (disch := omega) only [i64_in, tmodn, tdivn]); exact rfl
      apply VC.regt ΦQ7_ok [5, 6, 7]; intro K' hK; dsimp only [List.take, List.drop, List.map, strip, stripG]; simp -implicitDefEqProofs only [go_sem, Nat.reduceLT, Nat.reduceAdd, Nat.reduceEqDiff, reduceIte, Nat.reduceMul, Nat.reduceSub, reduceCtorEq, Int.reduceNe, Int.reduceEq, ne_eq, Nat.reduceLeDiff, Nat.reduceMod, Nat.reduceDiv, hT, hU, hV, iT, iU, iV, eT, eU, eV, lT, lV, rl, re, Bool.false_eq_true]
      (repeat' first | (refine hK _ ?_; clear hK K') | with_reducible apply And.intro | (simp -implicitDefEqProofs (disch := omega) only [i64_in, tmodn, tdivn, List.length_cons, List.length_nil, Nat.reduceAdd]; done) | omega | decide | (rw [lT]; decide) | fail)
      all_goals
        apply VC.at
        · simp -implicitDefEqProofs only [go_sem, Nat.reduceLT, Nat.reduceAdd, Nat.reduceEqDiff, reduceIte, Nat.reduceMul, Nat.reduceSub, reduceCtorEq, Int.reduceNe, Int.reduceEq, ne_eq, Nat.reduceLeDiff, Nat.reduceMod, Nat.reduceDiv, hT, hU, hV, iT, iU, iV, eT, eU, eV, lT, lV, rl, re, Bool.false_eq_true]; (try simp (disch := omega) only [i64_in, tmodn, tdivn]); exact rfl
        apply VC.regt ΦQ7_ok [5, 6, 7, 8, 9]; intro K' hK; dsimp only [List.take, List.drop, List.map, strip, stripG]; simp -implicitDefEqProofs only [go_sem, Nat.reduceLT, Nat.reduceAdd, Nat.reduceEqDiff, reduceIte, Nat.reduceMul, Nat.reduceSub, reduceCtorEq, Int.reduceNe, Int.reduceEq, ne_eq, Nat.reduceLeDiff, Nat.reduceMod, Nat.reduceDiv, hT, hU, hV, iT, iU, iV, eT, eU, eV, lT, lV, rl, re, Bool.false_eq_true]
        (repeat' first | (refine hK _ ?_; clear hK K') | ((first | with_reducible refine runA_id ?_ | with_reducible refine goA_id ?_); simp -implicitDefEqProofs (disch := omega) only [i64_in, tmodn, tdivn]; simp -implicitDefEqProofs only [go_sem, Nat.reduceLT, Nat.reduceAdd, Nat.reduceEqDiff, reduceIte, Nat.reduceMul, Nat.reduceSub, reduceCtorEq, Int.reduceNe, Int.reduceEq, ne_eq, Nat.reduceLeDiff, Nat.reduceMod, Nat.reduceDiv, hT, hU, hV, iT, iU, iV, eT, eU, eV, lT, lV, rl, re, Bool.false_eq_true]) | with_reducible apply And.intro | (simp -implicitDefEqProofs (disch := omega) only [i64_in, tmodn, tdivn, List.length_cons, List.length_nil, Nat.reduceAdd]; done) | omega | decide | (rw [lT]; decide) | fail)
        all_goals
          apply VC.at
          · simp -implicitDefEqProofs only [go_sem, Nat.reduceLT, Nat.reduceAdd, Nat.reduceEqDiff, reduceIte, Nat.reduceMul, Nat.reduceSub, reduceCtorEq, Int.reduceNe, Int.reduceEq, ne_eq, Nat.reduceLeDiff, Nat.reduceMod, Nat.reduceDiv, hT, hU, hV, iT, iU, iV, eT, eU, eV, lT, lV, rl, re, Bool.false_eq_true]; (try simp (disch := omega) only [i64_in, tmodn, tdivn]); exact rfl
          apply VC.regt ΦQ7_ok [5, 6, 7, 8, 9, 10, 11]; intro K' hK; dsimp only [List.take, List.drop, List.map, strip, stripG]; simp -implicitDefEqProofs only [go_sem, Nat.reduceLT, Nat.reduceAdd, Nat.reduceEqDiff, reduceIte, Nat.reduceMul, Nat.reduceSub, reduceCtorEq, Int.reduceNe, Int.reduceEq, ne_eq, Nat.reduceLeDiff, Nat.reduceMod, Nat.reduceDiv, hT, hU, hV, iT, iU, iV, eT, eU, eV, lT, lV, rl, re, Bool.false_eq_true]
          (repeat' first | (refine hK _ ?_; clear hK K') | ((first | with_reducible refine runA_id ?_ | with_reducible refine goA_id ?_); simp -implicitDefEqProofs (disch := omega) only [i64_in, tmodn, tdivn]; simp -implicitDefEqProofs only [go_sem, Nat.reduceLT, Nat.reduceAdd, Nat.reduceEqDiff, reduceIte, Nat.reduceMul, Nat.reduceSub, reduceCtorEq, Int.reduceNe, Int.reduceEq, ne_eq, Nat.reduceLeDiff, Nat.reduceMod, Nat.reduceDiv, hT, hU, hV, iT, iU, iV, eT, eU, eV, lT, lV, rl, re, Bool.false_eq_true]) | with_reducible apply And.intro | (simp -implicitDefEqProofs (disch := omega) only [i64_in, tmodn, tdivn, List.length_cons, List.length_nil, Nat.reduceAdd]; done) | omega | decide | (rw [lT]; decide) | fail)
          all_goals
            apply VC.at
            · simp -implicitDefEqProofs only [go_sem, Nat.reduceLT, Nat.reduceAdd, Nat.reduceEqDiff, reduceIte, Nat.reduceMul, Nat.reduceSub, reduceCtorEq, Int.reduceNe, Int.reduceEq, ne_eq, Nat.reduceLeDiff, Nat.reduceMod, Nat.reduceDiv, hT, hU, hV, iT, iU, iV, eT, eU, eV, lT, lV, rl, re, Bool.false_eq_true]; (try simp (disch := omega) only [i64_in, tmodn, tdivn]); exact rfl
            apply VC.regt ΦQ7_ok [5, 6, 7, 8, 9, 10, 11, 12, 13]; intro K' hK; dsimp only [List.take, List.drop, List.map, strip, stripG]; simp -implicitDefEqProofs only [go_sem, Nat.reduceLT, Nat.reduceAdd, Nat.reduceEqDiff, reduceIte, Nat.reduceMul, Nat.reduceSub, reduceCtorEq, Int.reduceNe, Int.reduceEq, ne_eq, Nat.reduceLeDiff, Nat.reduceMod, Nat.reduceDiv, hT, hU, hV, iT, iU, iV, eT, eU, eV, lT, lV, rl, re, Bool.false_eq_true]
            (repeat' first | (refine hK _ ?_; clear hK K') | ((first | with_reducible refine runA_id ?_ | with_reducible refine goA_id ?_); simp -implicitDefEqProofs (disch := omega) only [i64_in, tmodn, tdivn]; simp -implicitDefEqProofs only [go_sem, Nat.reduceLT, Nat.reduceAdd, Nat.reduceEqDiff, reduceIte, Nat.reduceMul, Nat.reduceSub, reduceCtorEq, Int.reduceNe, Int.reduceEq, ne_eq, Nat.reduceLeDiff, Nat.reduceMod, Nat.reduceDiv, hT, hU, hV, iT, iU, iV, eT, eU, eV, lT, lV, rl, re, Bool.false_eq_true]) | with_reducible apply And.intro | (simp -implicitDefEqProofs (disch := omega) only [i64_in, tmodn, tdivn, List.length_cons, List.length_nil, Nat.reduceAdd]; done) | omega | decide | (rw [lT]; decide) | fail)
            all_goals
              apply VC.at
              · simp -implicitDefEqProofs only [go_sem, Nat.reduceLT, Nat.reduceAdd, Nat.reduceEqDiff, reduceIte, Nat.reduceMul, Nat.reduceSub, reduceCtorEq, Int.reduceNe, Int.reduceEq, ne_eq, Nat.reduceLeDiff, Nat.reduceMod, Nat.reduceDiv, hT, hU, hV, iT, iU, iV, eT, eU, eV, lT, lV, rl, re, Bool.false_eq_true]; (try simp (disch := omega) only [i64_in, tmodn, tdivn]); exact rfl
              apply VC.seq
              apply VC.regt ΦQ7_ok [5, 6, 7, 8, 10, 12, 60]; intro K' hK; dsimp only [List.take, List.drop, List.map, strip, stripG]; simp only [gtmp, List.getElem?_toArray, List.getElem?_cons_succ, List.getElem?_cons_zero, Option.bind_some]; simp -implicitDefEqProofs only [go_sem, Nat.reduceLT, Nat.reduceAdd, Nat.reduceEqDiff, reduceIte, Nat.reduceMul, Nat.reduceSub, reduceCtorEq, Int.reduceNe, Int.reduceEq, ne_eq, Nat.reduceLeDiff, Nat.reduceMod, Nat.reduceDiv, hT, hU, hV, iT, iU, iV, eT, eU, eV, lT, lV, rl, re, Bool.false_eq_true]
              (repeat' first | (refine hK _ ?_; clear hK K') | (first | apply goB_splitD | apply goA_splitD | apply goB_split | apply goA_split | apply goA_all) <;> intro _ <;> simp -implicitDefEqProofs only [go_sem, Nat.reduceLT, Nat.reduceAdd, Nat.reduceEqDiff, reduceIte, Nat.reduceMul, Nat.reduceSub, reduceCtorEq, Int.reduceNe, Int.reduceEq, ne_eq, Nat.reduceLeDiff, Nat.reduceMod, Nat.reduceDiv, hT, hU, hV, iT, iU, iV, eT, eU, eV, lT, lV, rl, re, Bool.false_eq_true] | with_reducible apply And.intro | (simp -implicitDefEqProofs (disch := omega) only [i64_in, tmodn, tdivn, List.length_cons, List.length_nil, Nat.reduceAdd]; done) | omega | decide | (rw [lT]; decide) | fail)
              all_goals
                apply VC.at
                · simp -implicitDefEqProofs only [go_sem, Nat.reduceLT, Nat.reduceAdd, Nat.reduceEqDiff, reduceIte, Nat.reduceMul, Nat.reduceSub, reduceCtorEq, Int.reduceNe, Int.reduceEq, ne_eq, Nat.reduceLeDiff, Nat.reduceMod, Nat.reduceDiv, hT, hU, hV, iT, iU, iV, eT, eU, eV, lT, lV, rl, re, Bool.false_eq_true]; (try simp (disch := omega) only [i64_in, tmodn, tdivn]); exact rfl
                first | (apply VC.condd; (focus (simp -implicitDefEqProofs only [go_sem, Nat.reduceLT, Nat.reduceAdd, Nat.reduceEqDiff, reduceIte, Nat.reduceMul, Nat.reduceSub, reduceCtorEq, Int.reduceNe, Int.reduceEq, ne_eq, Nat.reduceLeDiff, Nat.reduceMod, Nat.reduceDiv, hT, hU, hV, iT, iU, iV, eT, eU, eV, lT, lV, rl, re, Bool.false_eq_true]; with_reducible exact rfl))) | (apply VC.condn; (focus (simp -implicitDefEqProofs only [go_sem, Nat.reduceLT, Nat.reduceAdd, Nat.reduceEqDiff, reduceIte, Nat.reduceMul, Nat.reduceSub, reduceCtorEq, Int.reduceNe, Int.reduceEq, ne_eq, Nat.reduceLeDiff, Nat.reduceMod, Nat.reduceDiv, hT, hU, hV, iT, iU, iV, eT, eU, eV, lT, lV, rl, re, Bool.false_eq_true]; with_reducible exact rfl))) | (apply VC.condt; (focus (simp -implicitDefEqProofs only [go_sem, Nat.reduceLT, Nat.reduceAdd, Nat.reduceEqDiff, reduceIte, Nat.reduceMul, Nat.reduceSub, reduceCtorEq, Int.reduceNe, Int.reduceEq, ne_eq, Nat.reduceLeDiff, Nat.reduceMod, Nat.reduceDiv, hT, hU, hV, iT, iU, iV, eT, eU, eV, lT, lV, rl, re, Bool.false_eq_true]; with_reducible exact rfl))) | (apply VC.condb; (focus (simp -implicitDefEqProofs only [go_sem, Nat.reduceLT, Nat.reduceAdd, Nat.reduceEqDiff, reduceIte, Nat.reduceMul, Nat.reduceSub, reduceCtorEq, Int.reduceNe, Int.reduceEq, ne_eq, Nat.reduceLeDiff, Nat.reduceMod, Nat.reduceDiv, hT, hU, hV, iT, iU, iV, eT, eU, eV, lT, lV, rl, re, Bool.false_eq_true]; exact rfl)))
                · intro h; try exact absurd h (by decide)
                  all_goals
                    apply VC.regt ΦQ7_ok [4]; intro K' hK; dsimp only [List.take, List.drop, List.map, strip, stripG]; simp -implicitDefEqProofs only [go_sem, Nat.reduceLT, Nat.reduceAdd, Nat.reduceEqDiff, reduceIte, Nat.reduceMul, Nat.reduceSub, reduceCtorEq, Int.reduceNe, Int.reduceEq, ne_eq, Nat.reduceLeDiff, Nat.reduceMod, Nat.reduceDiv, hT, hU, hV, iT, iU, iV, eT, eU, eV, lT, lV, rl, re, Bool.false_eq_true]
                    (repeat' first | (refine hK _ ?_; clear hK K') | with_reducible apply And.intro | (simp -implicitDefEqProofs (disch := omega) only [i64_in, tmodn, tdivn, List.length_cons, List.length_nil, Nat.reduceAdd]; done) | omega | decide | (rw [lT]; decide) | fail)
                    all_goals
                      apply VC.at
                      · simp -implicitDefEqProofs only [go_sem, Nat.reduceLT, Nat.reduceAdd, Nat.reduceEqDiff, reduceIte, Nat.reduceMul, Nat.reduceSub, reduceCtorEq, Int.reduceNe, Int.reduceEq, ne_eq, Nat.reduceLeDiff, Nat.reduceMod, Nat.reduceDiv, hT, hU, hV, iT, iU, iV, eT, eU, eV, lT, lV, rl, re, Bool.false_eq_true]; (try simp (disch := omega) only [i64_in, tmodn, tdivn]); exact rfl
                      apply VC.ret
                      refine thenK_r ?_
                      simp -implicitDefEqProofs only [go_sem, Nat.reduceLT, Nat.reduceAdd, Nat.reduceEqDiff, reduceIte, Nat.reduceMul, Nat.reduceSub, reduceCtorEq, Int.reduceNe, Int.reduceEq, ne_eq, Nat.reduceLeDiff, Nat.reduceMod, Nat.reduceDiv, hT, hU, hV, iT, iU, iV, eT, eU, eV, lT, lV, rl, re, Bool.false_eq_true]
                      all_goals (first | trivial | rfl | exact congrArg (fun x => [Vm.Data.bool x]) (decide_eq_true e8))
                · intro h; try exact absurd h (by decide)
                  all_goals
                    apply VC.skip
                    refine thenK_n ?_
                    apply VC.draw1 ΦQ7_ok (by kernel_rfl) 32 (by kernel_rfl) (by kernel_rfl) [4]; intro L hL; dsimp only [List.take, List.drop, List.map, strip, stripG]; simp only [gtmp, List.getElem?_toArray, List.getElem?_cons_succ, List.getElem?_cons_zero, Option.bind_some]; simp -implicitDefEqProofs only [go_sem, Nat.reduceLT, Nat.reduceAdd, Nat.reduceEqDiff, reduceIte, Nat.reduceMul, Nat.reduceSub, reduceCtorEq, Int.reduceNe, Int.reduceEq, ne_eq, Nat.reduceLeDiff, Nat.reduceMod, Nat.reduceDiv, hT, hU, hV, iT, iU, iV, eT, eU, eV, lT, lV, rl, re, Bool.false_eq_true]
                    (repeat' first | (refine hL _ ?_; intro K' hK; dsimp only [List.drop, List.map, strip, stripG]; simp -implicitDefEqProofs only [go_sem, Nat.reduceLT, Nat.reduceAdd, Nat.reduceEqDiff, reduceIte, Nat.reduceMul, Nat.reduceSub, reduceCtorEq, Int.reduceNe, Int.reduceEq, ne_eq, Nat.reduceLeDiff, Nat.reduceMod, Nat.reduceDiv, hT, hU, hV, iT, iU, iV, eT, eU, eV, lT, lV, rl, re, Bool.false_eq_true]; refine hK _ ?_; clear hK K' hL L) | (first | apply runB_splitD | apply runA_splitD | apply runB_split | apply runA_split) <;> intro _ <;> simp -implicitDefEqProofs only [go_sem, Nat.reduceLT, Nat.reduceAdd, Nat.reduceEqDiff, reduceIte, Nat.reduceMul, Nat.reduceSub, reduceCtorEq, Int.reduceNe, Int.reduceEq, ne_eq, Nat.reduceLeDiff, Nat.reduceMod, Nat.reduceDiv, hT, hU, hV, iT, iU, iV, eT, eU, eV, lT, lV, rl, re, Bool.false_eq_true] | ((first | with_reducible refine runA_id ?_ | with_reducible refine goA_id ?_); simp -implicitDefEqProofs (disch := omega) only [i64_in, tmodn, tdivn]; simp -implicitDefEqProofs only [go_sem, Nat.reduceLT, Nat.reduceAdd, Nat.reduceEqDiff, reduceIte, Nat.reduceMul, Nat.reduceSub, reduceCtorEq, Int.reduceNe, Int.reduceEq, ne_eq, Nat.reduceLeDiff, Nat.reduceMod, Nat.reduceDiv, hT, hU, hV, iT, iU, iV, eT, eU, eV, lT, lV, rl, re, Bool.false_eq_true]) | with_reducible apply And.intro | (simp -implicitDefEqProofs (disch := omega) only [i64_in, tmodn, tdivn, List.length_cons, List.length_nil, Nat.reduceAdd]; done) | omega | decide | (rw [lT]; decide) | fail)
                    all_goals
                      apply VC.at
                      · simp -implicitDefEqProofs only [go_sem, Nat.reduceLT, Nat.reduceAdd, Nat.reduceEqDiff, reduceIte, Nat.reduceMul, Nat.reduceSub, reduceCtorEq, Int.reduceNe, Int.reduceEq, ne_eq, Nat.reduceLeDiff, Nat.reduceMod, Nat.reduceDiv, hT, hU, hV, iT, iU, iV, eT, eU, eV, lT, lV, rl, re, Bool.false_eq_true]; (try simp (disch := omega) only [i64_in, tmodn, tdivn]); exact rfl
                      apply VC.ret
                      simp -implicitDefEqProofs only [go_sem, Nat.reduceLT, Nat.reduceAdd, Nat.reduceEqDiff, reduceIte, Nat.reduceMul, Nat.reduceSub, reduceCtorEq, Int.reduceNe, Int.reduceEq, ne_eq, Nat.reduceLeDiff, Nat.reduceMod, Nat.reduceDiv, hT, hU, hV, iT, iU, iV, eT, eU, eV, lT, lV, rl, re, Bool.false_eq_true]
                      all_goals (first | trivial | rfl | exact congrArg (fun x => [Vm.Data.bool x]) (decide_eq_true e8))
end Go.Proofs.YtfbodageccednaaDoor.Oa

