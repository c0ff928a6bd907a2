/- What the law HourDays computes. No condition. -/
import Derived.Test.YtfbodageccednaaDoorOaI
import Derived.Test.YtfbodageccednaaDoorOaH
set_option linter.unusedVariables false
set_option linter.unusedSimpArgs false
namespace Go.Proofs.YtfbodageccednaaDoor.Oa
open Go Go.RowKit Go.Proofs.YtfbodageccednaaDoor.Vm Go.IntWalk
set_option maxRecDepth 100000
set_option maxHeartbeats 4000000
@[go_sem] theorem k28 : kindT Tryd.prog 28 = .int .u32 := by kernel_rfl
@[go_sem] theorem s28 : szT Tryd.prog 28 = 1 := by kernel_rfl
@[go_sem] theorem p28 : posT Tryd.prog 28 = true := by kernel_rfl
@[go_sem] theorem b28 : bytesT Tryd.prog 28 = 4 := by kernel_rfl
@[go_sem] theorem s29 : szT Tryd.prog 29 = 1 := by kernel_rfl
@[go_sem] theorem p29 : posT Tryd.prog 29 = true := by kernel_rfl
@[go_sem] theorem b29 : bytesT Tryd.prog 29 = 0 := by kernel_rfl
noncomputable def ΦQ5 : Fns := tab [(9, aliveF), (11, dateF), (12, daysF)]
theorem ΦQ5_ok : Sound E ΦQ5 := sound_cons (by kernel_rfl) alive_ok (sound_cons (by kernel_rfl) date_ok (sound_cons (by kernel_rfl) days_ok (sound_nil)))
@[go_sem] theorem ΦQ5_9 : ΦQ5 9 = some aliveF := rfl
@[go_sem] theorem ΦQ5_11 : ΦQ5 11 = some dateF := rfl
@[go_sem] theorem ΦQ5_12 : ΦQ5 12 = some daysF := rfl
def hdaysA (k : Int) : List Vm.Data := [.int .u32 k]
noncomputable def hdaysF : PFn := PFn.of hdaysA (fun k => 0 ≤ k ∧ k < 4294967296) (fun k => [.bool true])
theorem hdays_inj (x y : Int) (h : hdaysA x = hdaysA y) : x = y := by
  simpa [hdaysA, Prod.ext_iff, numsD_inj, bytesD_inj, Vm.Data.lst.injEq, Int.natCast_inj] using h
@[go_sem] theorem hdays_pre (k : Int) : hdaysF.pre [.int .u32 k] = (0 ≤ k ∧ k < 4294967296) := PFn.of_pre hdays_inj k
@[go_sem] theorem hdays_res (k : Int) : hdaysF.res [.int .u32 k] = [.bool true] := PFn.of_res hdays_inj k
theorem hdays_ok : Pure E 4 hdaysF := by
  apply Pure.of_body (rs := [.tmp 2]) (n := 131) Tryd.func4 rfl rfl rfl
  intro ds hds
  obtain ⟨k, rfl, hds⟩ := hds
  (try dsimp only at hds)
  rw [show hdaysF.res (hdaysA k) = [.bool true] from hdays_res k]
  obtain ⟨hk0, hk1⟩ := hds
  obtain ⟨n, hN⟩ : ∃ n, k % 2932896 = n := ⟨_, rfl⟩
  have hn0 : 0 ≤ n := by omega
  have hn1 : n ≤ 2932895 := by omega
  have nx := next_day hn0 hn1
  have eA := (days_back hn0 (by omega)).1
  have eB := (days_back hn0 (by omega)).2
  have eY := date_y (n := n) hn0 (by omega)
  have eM := date_m (n := n) hn0 (by omega)
  have eD := date_d (n := n) hn0 (by omega)
  have eE := date_e (n := n) hn0 (by omega)
  have fY := date_y (n := n + 1) (by omega) (by omega)
  have fM := date_m (n := n + 1) (by omega) (by omega)
  have fD := date_d (n := n + 1) (by omega) (by omega)
  have fE := date_e (n := n + 1) (by omega) (by omega)
  obtain ⟨c1, c2, c3, c4, c5⟩ := Cal.at_ok n (by omega) (by omega)
  have cy := at_year n (by omega) (by omega)
  have cl := long_le (Cal.atY n) (Cal.atM n)
  generalize Cal.atY n = y at *
  generalize Cal.atM n = m at *
  generalize Cal.atD n = d at *
  generalize Cal.atY (n + 1) = u at *
  generalize Cal.atM (n + 1) = v at *
  generalize Cal.atD (n + 1) = w at *
  refine ⟨Nat.le_of_ble_eq_true rfl, ?_⟩
  show VC E none _ (pureSt 131 [.int .u32 k]) _
  apply VC.regt ΦQ5_ok [0]; intro K' hK; dsimp only [List.take, List.drop, List.map, strip, stripG]; simp -implicitDefEqProofs only [go_sem, Nat.reduceLT, Nat.reduceAdd, Nat.reduceEqDiff, reduceIte, Nat.reduceMul, Nat.reduceSub, reduceCtorEq, Int.reduceNe, Int.reduceEq, ne_eq, Nat.reduceLeDiff, Nat.reduceMod, Nat.reduceDiv, hN, eA, eB, eY, eM, eD, eE, fY, fM, fD, fE, Bool.false_eq_true]
  (repeat' first | (refine hK _ ?_; clear hK K') | with_reducible apply And.intro | (simp -implicitDefEqProofs (disch := omega) only [i64_in, tmodn, tdivn, List.length_cons, List.length_nil, Nat.reduceAdd]; done) | omega | decide | fail)
  all_goals
    apply VC.at
    · simp -implicitDefEqProofs only [go_sem, Nat.reduceLT, Nat.reduceAdd, Nat.reduceEqDiff, reduceIte, Nat.reduceMul, Nat.reduceSub, reduceCtorEq, Int.reduceNe, Int.reduceEq, ne_eq, Nat.reduceLeDiff, Nat.reduceMod, Nat.reduceDiv, hN, eA, eB, eY, eM, eD, eE, fY, fM, fD, fE, Bool.false_eq_true]; (try simp (disch := omega) only [i64_in, tmodn, tdivn]); exact rfl
    apply VC.regt ΦQ5_ok [0, 3]; intro K' hK; dsimp only [List.take, List.drop, List.map, strip, stripG]; simp -implicitDefEqProofs only [go_sem, Nat.reduceLT, Nat.reduceAdd, Nat.reduceEqDiff, reduceIte, Nat.reduceMul, Nat.reduceSub, reduceCtorEq, Int.reduceNe, Int.reduceEq, ne_eq, Nat.reduceLeDiff, Nat.reduceMod, Nat.reduceDiv, hN, eA, eB, eY, eM, eD, eE, fY, fM, fD, fE, Bool.false_eq_true]
    (repeat' first | (refine hK _ ?_; clear hK K') | ((first | with_reducible refine runA_id ?_ | with_reducible refine goA_id ?_); simp -implicitDefEqProofs (disch := omega) only [i64_in, tmodn, tdivn]; simp -implicitDefEqProofs only [go_sem, Nat.reduceLT, Nat.reduceAdd, Nat.reduceEqDiff, reduceIte, Nat.reduceMul, Nat.reduceSub, reduceCtorEq, Int.reduceNe, Int.reduceEq, ne_eq, Nat.reduceLeDiff, Nat.reduceMod, Nat.reduceDiv, hN, eA, eB, eY, eM, eD, eE, fY, fM, fD, fE, Bool.false_eq_true]) | with_reducible apply And.intro | (simp -implicitDefEqProofs (disch := omega) only [i64_in, tmodn, tdivn, List.length_cons, List.length_nil, Nat.reduceAdd]; done) | omega | decide | fail)
    all_goals
      apply VC.at
      · simp -implicitDefEqProofs only [go_sem, Nat.reduceLT, Nat.reduceAdd, Nat.reduceEqDiff, reduceIte, Nat.reduceMul, Nat.reduceSub, reduceCtorEq, Int.reduceNe, Int.reduceEq, ne_eq, Nat.reduceLeDiff, Nat.reduceMod, Nat.reduceDiv, hN, eA, eB, eY, eM, eD, eE, fY, fM, fD, fE, Bool.false_eq_true]; (try simp (disch := omega) only [i64_in, tmodn, tdivn]); exact rfl
      apply VC.regt ΦQ5_ok [3, 4]; intro K' hK; dsimp only [List.take, List.drop, List.map, strip, stripG]; simp -implicitDefEqProofs only [go_sem, Nat.reduceLT, Nat.reduceAdd, Nat.reduceEqDiff, reduceIte, Nat.reduceMul, Nat.reduceSub, reduceCtorEq, Int.reduceNe, Int.reduceEq, ne_eq, Nat.reduceLeDiff, Nat.reduceMod, Nat.reduceDiv, hN, eA, eB, eY, eM, eD, eE, fY, fM, fD, fE, Bool.false_eq_true]
      (repeat' first | (refine hK _ ?_; clear hK K') | with_reducible apply And.intro | (simp -implicitDefEqProofs (disch := omega) only [i64_in, tmodn, tdivn, List.length_cons, List.length_nil, Nat.reduceAdd]; done) | omega | decide | fail)
      all_goals
        apply VC.at
        · simp -implicitDefEqProofs only [go_sem, Nat.reduceLT, Nat.reduceAdd, Nat.reduceEqDiff, reduceIte, Nat.reduceMul, Nat.reduceSub, reduceCtorEq, Int.reduceNe, Int.reduceEq, ne_eq, Nat.reduceLeDiff, Nat.reduceMod, Nat.reduceDiv, hN, eA, eB, eY, eM, eD, eE, fY, fM, fD, fE, Bool.false_eq_true]; (try simp (disch := omega) only [i64_in, tmodn, tdivn]); exact rfl
        apply VC.regt ΦQ5_ok [3, 4, 5, 6, 7, 8]; intro K' hK; dsimp only [List.take, List.drop, List.map, strip, stripG]; simp -implicitDefEqProofs only [go_sem, Nat.reduceLT, Nat.reduceAdd, Nat.reduceEqDiff, reduceIte, Nat.reduceMul, Nat.reduceSub, reduceCtorEq, Int.reduceNe, Int.reduceEq, ne_eq, Nat.reduceLeDiff, Nat.reduceMod, Nat.reduceDiv, hN, eA, eB, eY, eM, eD, eE, fY, fM, fD, fE, Bool.false_eq_true]
        (repeat' first | (refine hK _ ?_; clear hK K') | ((first | with_reducible refine runA_id ?_ | with_reducible refine goA_id ?_); simp -implicitDefEqProofs (disch := omega) only [i64_in, tmodn, tdivn]; simp -implicitDefEqProofs only [go_sem, Nat.reduceLT, Nat.reduceAdd, Nat.reduceEqDiff, reduceIte, Nat.reduceMul, Nat.reduceSub, reduceCtorEq, Int.reduceNe, Int.reduceEq, ne_eq, Nat.reduceLeDiff, Nat.reduceMod, Nat.reduceDiv, hN, eA, eB, eY, eM, eD, eE, fY, fM, fD, fE, Bool.false_eq_true]) | with_reducible apply And.intro | (simp -implicitDefEqProofs (disch := omega) only [i64_in, tmodn, tdivn, List.length_cons, List.length_nil, Nat.reduceAdd]; done) | omega | decide | fail)
        all_goals
          apply VC.at
          · simp -implicitDefEqProofs only [go_sem, Nat.reduceLT, Nat.reduceAdd, Nat.reduceEqDiff, reduceIte, Nat.reduceMul, Nat.reduceSub, reduceCtorEq, Int.reduceNe, Int.reduceEq, ne_eq, Nat.reduceLeDiff, Nat.reduceMod, Nat.reduceDiv, hN, eA, eB, eY, eM, eD, eE, fY, fM, fD, fE, Bool.false_eq_true]; (try simp (disch := omega) only [i64_in, tmodn, tdivn]); exact rfl
          apply VC.regt ΦQ5_ok [3, 4, 5, 6, 7, 8, 9, 10]; intro K' hK; dsimp only [List.take, List.drop, List.map, strip, stripG]; simp -implicitDefEqProofs only [go_sem, Nat.reduceLT, Nat.reduceAdd, Nat.reduceEqDiff, reduceIte, Nat.reduceMul, Nat.reduceSub, reduceCtorEq, Int.reduceNe, Int.reduceEq, ne_eq, Nat.reduceLeDiff, Nat.reduceMod, Nat.reduceDiv, hN, eA, eB, eY, eM, eD, eE, fY, fM, fD, fE, Bool.false_eq_true]
          (repeat' first | (refine hK _ ?_; clear hK K') | ((first | with_reducible refine runA_id ?_ | with_reducible refine goA_id ?_); simp -implicitDefEqProofs (disch := omega) only [i64_in, tmodn, tdivn]; simp -implicitDefEqProofs only [go_sem, Nat.reduceLT, Nat.reduceAdd, Nat.reduceEqDiff, reduceIte, Nat.reduceMul, Nat.reduceSub, reduceCtorEq, Int.reduceNe, Int.reduceEq, ne_eq, Nat.reduceLeDiff, Nat.reduceMod, Nat.reduceDiv, hN, eA, eB, eY, eM, eD, eE, fY, fM, fD, fE, Bool.false_eq_true]) | with_reducible apply And.intro | (simp -implicitDefEqProofs (disch := omega) only [i64_in, tmodn, tdivn, List.length_cons, List.length_nil, Nat.reduceAdd]; done) | omega | decide | fail)
          all_goals
            apply VC.at
            · simp -implicitDefEqProofs only [go_sem, Nat.reduceLT, Nat.reduceAdd, Nat.reduceEqDiff, reduceIte, Nat.reduceMul, Nat.reduceSub, reduceCtorEq, Int.reduceNe, Int.reduceEq, ne_eq, Nat.reduceLeDiff, Nat.reduceMod, Nat.reduceDiv, hN, eA, eB, eY, eM, eD, eE, fY, fM, fD, fE, Bool.false_eq_true]; (try simp (disch := omega) only [i64_in, tmodn, tdivn]); exact rfl
            apply VC.regt ΦQ5_ok [3, 4, 5, 6, 7, 8, 9, 10, 11, 12, 13, 14]; intro K' hK; dsimp only [List.take, List.drop, List.map, strip, stripG]; simp -implicitDefEqProofs only [go_sem, Nat.reduceLT, Nat.reduceAdd, Nat.reduceEqDiff, reduceIte, Nat.reduceMul, Nat.reduceSub, reduceCtorEq, Int.reduceNe, Int.reduceEq, ne_eq, Nat.reduceLeDiff, Nat.reduceMod, Nat.reduceDiv, hN, eA, eB, eY, eM, eD, eE, fY, fM, fD, fE, Bool.false_eq_true]
            (repeat' first | (refine hK _ ?_; clear hK K') | ((first | with_reducible refine runA_id ?_ | with_reducible refine goA_id ?_); simp -implicitDefEqProofs (disch := omega) only [i64_in, tmodn, tdivn]; simp -implicitDefEqProofs only [go_sem, Nat.reduceLT, Nat.reduceAdd, Nat.reduceEqDiff, reduceIte, Nat.reduceMul, Nat.reduceSub, reduceCtorEq, Int.reduceNe, Int.reduceEq, ne_eq, Nat.reduceLeDiff, Nat.reduceMod, Nat.reduceDiv, hN, eA, eB, eY, eM, eD, eE, fY, fM, fD, fE, Bool.false_eq_true]) | with_reducible apply And.intro | (simp -implicitDefEqProofs (disch := omega) only [i64_in, tmodn, tdivn, List.length_cons, List.length_nil, Nat.reduceAdd]; done) | omega | decide | fail)
            all_goals
              apply VC.at
              · simp -implicitDefEqProofs only [go_sem, Nat.reduceLT, Nat.reduceAdd, Nat.reduceEqDiff, reduceIte, Nat.reduceMul, Nat.reduceSub, reduceCtorEq, Int.reduceNe, Int.reduceEq, ne_eq, Nat.reduceLeDiff, Nat.reduceMod, Nat.reduceDiv, hN, eA, eB, eY, eM, eD, eE, fY, fM, fD, fE, Bool.false_eq_true]; (try simp (disch := omega) only [i64_in, tmodn, tdivn]); exact rfl
              apply VC.seq
              apply VC.regt ΦQ5_ok [3, 5, 6, 7, 11, 12, 13, 14, 54]; intro K' hK; dsimp only [List.take, List.drop, List.map, strip, stripG]; simp only [gtmp, List.getElem?_toArray, List.getElem?_cons_succ, List.getElem?_cons_zero, Option.bind_some]; simp -implicitDefEqProofs only [go_sem, Nat.reduceLT, Nat.reduceAdd, Nat.reduceEqDiff, reduceIte, Nat.reduceMul, Nat.reduceSub, reduceCtorEq, Int.reduceNe, Int.reduceEq, ne_eq, Nat.reduceLeDiff, Nat.reduceMod, Nat.reduceDiv, hN, eA, eB, eY, eM, eD, eE, fY, fM, fD, fE, Bool.false_eq_true]
              (repeat' first | (refine hK _ ?_; clear hK K') | (first | apply goB_splitD | apply goA_splitD | apply goB_split | apply goA_split | apply goA_all) <;> intro _ <;> simp -implicitDefEqProofs only [go_sem, Nat.reduceLT, Nat.reduceAdd, Nat.reduceEqDiff, reduceIte, Nat.reduceMul, Nat.reduceSub, reduceCtorEq, Int.reduceNe, Int.reduceEq, ne_eq, Nat.reduceLeDiff, Nat.reduceMod, Nat.reduceDiv, hN, eA, eB, eY, eM, eD, eE, fY, fM, fD, fE, Bool.false_eq_true] | with_reducible apply And.intro | (simp -implicitDefEqProofs (disch := omega) only [i64_in, tmodn, tdivn, List.length_cons, List.length_nil, Nat.reduceAdd]; done) | omega | decide | fail)
              all_goals
                apply VC.at
                · simp -implicitDefEqProofs only [go_sem, Nat.reduceLT, Nat.reduceAdd, Nat.reduceEqDiff, reduceIte, Nat.reduceMul, Nat.reduceSub, reduceCtorEq, Int.reduceNe, Int.reduceEq, ne_eq, Nat.reduceLeDiff, Nat.reduceMod, Nat.reduceDiv, hN, eA, eB, eY, eM, eD, eE, fY, fM, fD, fE, Bool.false_eq_true]; (try simp (disch := omega) only [i64_in, tmodn, tdivn]); exact rfl
                first | (apply VC.condd; (focus (simp -implicitDefEqProofs only [go_sem, Nat.reduceLT, Nat.reduceAdd, Nat.reduceEqDiff, reduceIte, Nat.reduceMul, Nat.reduceSub, reduceCtorEq, Int.reduceNe, Int.reduceEq, ne_eq, Nat.reduceLeDiff, Nat.reduceMod, Nat.reduceDiv, hN, eA, eB, eY, eM, eD, eE, fY, fM, fD, fE, Bool.false_eq_true]; with_reducible exact rfl))) | (apply VC.condn; (focus (simp -implicitDefEqProofs only [go_sem, Nat.reduceLT, Nat.reduceAdd, Nat.reduceEqDiff, reduceIte, Nat.reduceMul, Nat.reduceSub, reduceCtorEq, Int.reduceNe, Int.reduceEq, ne_eq, Nat.reduceLeDiff, Nat.reduceMod, Nat.reduceDiv, hN, eA, eB, eY, eM, eD, eE, fY, fM, fD, fE, Bool.false_eq_true]; with_reducible exact rfl))) | (apply VC.condt; (focus (simp -implicitDefEqProofs only [go_sem, Nat.reduceLT, Nat.reduceAdd, Nat.reduceEqDiff, reduceIte, Nat.reduceMul, Nat.reduceSub, reduceCtorEq, Int.reduceNe, Int.reduceEq, ne_eq, Nat.reduceLeDiff, Nat.reduceMod, Nat.reduceDiv, hN, eA, eB, eY, eM, eD, eE, fY, fM, fD, fE, Bool.false_eq_true]; with_reducible exact rfl))) | (apply VC.condb; (focus (simp -implicitDefEqProofs only [go_sem, Nat.reduceLT, Nat.reduceAdd, Nat.reduceEqDiff, reduceIte, Nat.reduceMul, Nat.reduceSub, reduceCtorEq, Int.reduceNe, Int.reduceEq, ne_eq, Nat.reduceLeDiff, Nat.reduceMod, Nat.reduceDiv, hN, eA, eB, eY, eM, eD, eE, fY, fM, fD, fE, Bool.false_eq_true]; exact rfl)))
                · intro h; try exact absurd h (by decide)
                  all_goals
                    apply VC.regt ΦQ5_ok [2]; intro K' hK; dsimp only [List.take, List.drop, List.map, strip, stripG]; simp -implicitDefEqProofs only [go_sem, Nat.reduceLT, Nat.reduceAdd, Nat.reduceEqDiff, reduceIte, Nat.reduceMul, Nat.reduceSub, reduceCtorEq, Int.reduceNe, Int.reduceEq, ne_eq, Nat.reduceLeDiff, Nat.reduceMod, Nat.reduceDiv, hN, eA, eB, eY, eM, eD, eE, fY, fM, fD, fE, Bool.false_eq_true]
                    (repeat' first | (refine hK _ ?_; clear hK K') | with_reducible apply And.intro | (simp -implicitDefEqProofs (disch := omega) only [i64_in, tmodn, tdivn, List.length_cons, List.length_nil, Nat.reduceAdd]; done) | omega | decide | fail)
                    all_goals
                      apply VC.at
                      · simp -implicitDefEqProofs only [go_sem, Nat.reduceLT, Nat.reduceAdd, Nat.reduceEqDiff, reduceIte, Nat.reduceMul, Nat.reduceSub, reduceCtorEq, Int.reduceNe, Int.reduceEq, ne_eq, Nat.reduceLeDiff, Nat.reduceMod, Nat.reduceDiv, hN, eA, eB, eY, eM, eD, eE, fY, fM, fD, fE, Bool.false_eq_true]; (try simp (disch := omega) only [i64_in, tmodn, tdivn]); exact rfl
                      apply VC.ret
                      refine thenK_r ?_
                      simp -implicitDefEqProofs only [go_sem, Nat.reduceLT, Nat.reduceAdd, Nat.reduceEqDiff, reduceIte, Nat.reduceMul, Nat.reduceSub, reduceCtorEq, Int.reduceNe, Int.reduceEq, ne_eq, Nat.reduceLeDiff, Nat.reduceMod, Nat.reduceDiv, hN, eA, eB, eY, eM, eD, eE, fY, fM, fD, fE, Bool.false_eq_true]
                      all_goals (first | trivial | rfl | (exfalso; omega) | (exfalso; (try simp (disch := omega) only [i64_in] at *); omega) | (have e : d = 31 := (by (try simp (disch := omega) only [i64_in] at *); omega); rw [e]; rfl))
                · intro h; try exact absurd h (by decide)
                  all_goals
                    apply VC.skip
                    refine thenK_n ?_
                    apply VC.seq
                    apply VC.regt ΦQ5_ok [3, 5, 6, 7, 11, 12, 13, 56]; intro K' hK; dsimp only [List.take, List.drop, List.map, strip, stripG]; simp -implicitDefEqProofs only [go_sem, Nat.reduceLT, Nat.reduceAdd, Nat.reduceEqDiff, reduceIte, Nat.reduceMul, Nat.reduceSub, reduceCtorEq, Int.reduceNe, Int.reduceEq, ne_eq, Nat.reduceLeDiff, Nat.reduceMod, Nat.reduceDiv, hN, eA, eB, eY, eM, eD, eE, fY, fM, fD, fE, Bool.false_eq_true]
                    (repeat' first | (refine hK _ ?_; clear hK K') | with_reducible apply And.intro | (simp -implicitDefEqProofs (disch := omega) only [i64_in, tmodn, tdivn, List.length_cons, List.length_nil, Nat.reduceAdd]; done) | omega | decide | fail)
                    all_goals
                      apply VC.at
                      · simp -implicitDefEqProofs only [go_sem, Nat.reduceLT, Nat.reduceAdd, Nat.reduceEqDiff, reduceIte, Nat.reduceMul, Nat.reduceSub, reduceCtorEq, Int.reduceNe, Int.reduceEq, ne_eq, Nat.reduceLeDiff, Nat.reduceMod, Nat.reduceDiv, hN, eA, eB, eY, eM, eD, eE, fY, fM, fD, fE, Bool.false_eq_true]; (try simp (disch := omega) only [i64_in, tmodn, tdivn]); exact rfl
                      first | (apply VC.condd; (focus (simp -implicitDefEqProofs only [go_sem, Nat.reduceLT, Nat.reduceAdd, Nat.reduceEqDiff, reduceIte, Nat.reduceMul, Nat.reduceSub, reduceCtorEq, Int.reduceNe, Int.reduceEq, ne_eq, Nat.reduceLeDiff, Nat.reduceMod, Nat.reduceDiv, hN, eA, eB, eY, eM, eD, eE, fY, fM, fD, fE, Bool.false_eq_true]; with_reducible exact rfl))) | (apply VC.condn; (focus (simp -implicitDefEqProofs only [go_sem, Nat.reduceLT, Nat.reduceAdd, Nat.reduceEqDiff, reduceIte, Nat.reduceMul, Nat.reduceSub, reduceCtorEq, Int.reduceNe, Int.reduceEq, ne_eq, Nat.reduceLeDiff, Nat.reduceMod, Nat.reduceDiv, hN, eA, eB, eY, eM, eD, eE, fY, fM, fD, fE, Bool.false_eq_true]; with_reducible exact rfl))) | (apply VC.condt; (focus (simp -implicitDefEqProofs only [go_sem, Nat.reduceLT, Nat.reduceAdd, Nat.reduceEqDiff, reduceIte, Nat.reduceMul, Nat.reduceSub, reduceCtorEq, Int.reduceNe, Int.reduceEq, ne_eq, Nat.reduceLeDiff, Nat.reduceMod, Nat.reduceDiv, hN, eA, eB, eY, eM, eD, eE, fY, fM, fD, fE, Bool.false_eq_true]; with_reducible exact rfl))) | (apply VC.condb; (focus (simp -implicitDefEqProofs only [go_sem, Nat.reduceLT, Nat.reduceAdd, Nat.reduceEqDiff, reduceIte, Nat.reduceMul, Nat.reduceSub, reduceCtorEq, Int.reduceNe, Int.reduceEq, ne_eq, Nat.reduceLeDiff, Nat.reduceMod, Nat.reduceDiv, hN, eA, eB, eY, eM, eD, eE, fY, fM, fD, fE, Bool.false_eq_true]; exact rfl)))
                      · intro h; try exact absurd h (by decide)
                        all_goals
                          apply VC.regt ΦQ5_ok [2]; intro K' hK; dsimp only [List.take, List.drop, List.map, strip, stripG]; simp only [gtmp, List.getElem?_toArray, List.getElem?_cons_succ, List.getElem?_cons_zero, Option.bind_some]; simp -implicitDefEqProofs only [go_sem, Nat.reduceLT, Nat.reduceAdd, Nat.reduceEqDiff, reduceIte, Nat.reduceMul, Nat.reduceSub, reduceCtorEq, Int.reduceNe, Int.reduceEq, ne_eq, Nat.reduceLeDiff, Nat.reduceMod, Nat.reduceDiv, hN, eA, eB, eY, eM, eD, eE, fY, fM, fD, fE, Bool.false_eq_true]
                          (repeat' first | (refine hK _ ?_; clear hK K') | (first | apply goB_splitD | apply goA_splitD | apply goB_split | apply goA_split | apply goA_all) <;> intro _ <;> simp -implicitDefEqProofs only [go_sem, Nat.reduceLT, Nat.reduceAdd, Nat.reduceEqDiff, reduceIte, Nat.reduceMul, Nat.reduceSub, reduceCtorEq, Int.reduceNe, Int.reduceEq, ne_eq, Nat.reduceLeDiff, Nat.reduceMod, Nat.reduceDiv, hN, eA, eB, eY, eM, eD, eE, fY, fM, fD, fE, Bool.false_eq_true] | with_reducible apply And.intro | (simp -implicitDefEqProofs (disch := omega) only [i64_in, tmodn, tdivn, List.length_cons, List.length_nil, Nat.reduceAdd]; done) | omega | decide | fail)
                          all_goals
                            apply VC.at
                            · simp -implicitDefEqProofs only [go_sem, Nat.reduceLT, Nat.reduceAdd, Nat.reduceEqDiff, reduceIte, Nat.reduceMul, Nat.reduceSub, reduceCtorEq, Int.reduceNe, Int.reduceEq, ne_eq, Nat.reduceLeDiff, Nat.reduceMod, Nat.reduceDiv, hN, eA, eB, eY, eM, eD, eE, fY, fM, fD, fE, Bool.false_eq_true]; (try simp (disch := omega) only [i64_in, tmodn, tdivn]); exact rfl
                            apply VC.ret
                            refine thenK_r ?_
                            simp -implicitDefEqProofs only [go_sem, Nat.reduceLT, Nat.reduceAdd, Nat.reduceEqDiff, reduceIte, Nat.reduceMul, Nat.reduceSub, reduceCtorEq, Int.reduceNe, Int.reduceEq, ne_eq, Nat.reduceLeDiff, Nat.reduceMod, Nat.reduceDiv, hN, eA, eB, eY, eM, eD, eE, fY, fM, fD, fE, Bool.false_eq_true]
                            all_goals (first | trivial | rfl | (exfalso; omega) | (exfalso; (try simp (disch := omega) only [i64_in] at *); omega) | (have e : d = 31 := (by (try simp (disch := omega) only [i64_in] at *); omega); rw [e]; rfl))
                      · intro h; try exact absurd h (by decide)
                        all_goals
                          apply VC.skip
                          refine thenK_n ?_
                          apply VC.regt ΦQ5_ok [3, 5, 6, 7, 11, 12, 13, 15]; intro K' hK; dsimp only [List.take, List.drop, List.map, strip, stripG]; simp only [gtmp, List.getElem?_toArray, List.getElem?_cons_succ, List.getElem?_cons_zero, Option.bind_some]; simp -implicitDefEqProofs only [go_sem, Nat.reduceLT, Nat.reduceAdd, Nat.reduceEqDiff, reduceIte, Nat.reduceMul, Nat.reduceSub, reduceCtorEq, Int.reduceNe, Int.reduceEq, ne_eq, Nat.reduceLeDiff, Nat.reduceMod, Nat.reduceDiv, hN, eA, eB, eY, eM, eD, eE, fY, fM, fD, fE, Bool.false_eq_true]
                          (repeat' first | (refine hK _ ?_; clear hK K') | (first | apply goB_splitD | apply goA_splitD | apply goB_split | apply goA_split | apply goA_all) <;> intro _ <;> simp -implicitDefEqProofs only [go_sem, Nat.reduceLT, Nat.reduceAdd, Nat.reduceEqDiff, reduceIte, Nat.reduceMul, Nat.reduceSub, reduceCtorEq, Int.reduceNe, Int.reduceEq, ne_eq, Nat.reduceLeDiff, Nat.reduceMod, Nat.reduceDiv, hN, eA, eB, eY, eM, eD, eE, fY, fM, fD, fE, Bool.false_eq_true] | with_reducible apply And.intro | (simp -implicitDefEqProofs (disch := omega) only [i64_in, tmodn, tdivn, List.length_cons, List.length_nil, Nat.reduceAdd]; done) | omega | decide | fail)
                          all_goals
                            apply VC.at
                            · simp -implicitDefEqProofs only [go_sem, Nat.reduceLT, Nat.reduceAdd, Nat.reduceEqDiff, reduceIte, Nat.reduceMul, Nat.reduceSub, reduceCtorEq, Int.reduceNe, Int.reduceEq, ne_eq, Nat.reduceLeDiff, Nat.reduceMod, Nat.reduceDiv, hN, eA, eB, eY, eM, eD, eE, fY, fM, fD, fE, Bool.false_eq_true]; (try simp (disch := omega) only [i64_in, tmodn, tdivn]); exact rfl
                            apply VC.regt ΦQ5_ok [3, 5, 6, 7, 11, 12, 13, 15, 16]; intro K' hK; dsimp only [List.take, List.drop, List.map, strip, stripG]; simp only [gtmp, List.getElem?_toArray, List.getElem?_cons_succ, List.getElem?_cons_zero, Option.bind_some]; simp -implicitDefEqProofs only [go_sem, Nat.reduceLT, Nat.reduceAdd, Nat.reduceEqDiff, reduceIte, Nat.reduceMul, Nat.reduceSub, reduceCtorEq, Int.reduceNe, Int.reduceEq, ne_eq, Nat.reduceLeDiff, Nat.reduceMod, Nat.reduceDiv, hN, eA, eB, eY, eM, eD, eE, fY, fM, fD, fE, Bool.false_eq_true]
                            (repeat' first | (refine hK _ ?_; clear hK K') | (first | apply goB_splitD | apply goA_splitD | apply goB_split | apply goA_split | apply goA_all) <;> intro _ <;> simp -implicitDefEqProofs only [go_sem, Nat.reduceLT, Nat.reduceAdd, Nat.reduceEqDiff, reduceIte, Nat.reduceMul, Nat.reduceSub, reduceCtorEq, Int.reduceNe, Int.reduceEq, ne_eq, Nat.reduceLeDiff, Nat.reduceMod, Nat.reduceDiv, hN, eA, eB, eY, eM, eD, eE, fY, fM, fD, fE, Bool.false_eq_true] | with_reducible apply And.intro | (simp -implicitDefEqProofs (disch := omega) only [i64_in, tmodn, tdivn, List.length_cons, List.length_nil, Nat.reduceAdd]; done) | omega | decide | fail)
                            all_goals
                              apply VC.at
                              · simp -implicitDefEqProofs only [go_sem, Nat.reduceLT, Nat.reduceAdd, Nat.reduceEqDiff, reduceIte, Nat.reduceMul, Nat.reduceSub, reduceCtorEq, Int.reduceNe, Int.reduceEq, ne_eq, Nat.reduceLeDiff, Nat.reduceMod, Nat.reduceDiv, hN, eA, eB, eY, eM, eD, eE, fY, fM, fD, fE, Bool.false_eq_true]; (try simp (disch := omega) only [i64_in, tmodn, tdivn]); exact rfl
                              apply VC.regt ΦQ5_ok [3, 15, 16, 17]; intro K' hK; dsimp only [List.take, List.drop, List.map, strip, stripG]; simp only [gtmp, List.getElem?_toArray, List.getElem?_cons_succ, List.getElem?_cons_zero, Option.bind_some]; simp -implicitDefEqProofs only [go_sem, Nat.reduceLT, Nat.reduceAdd, Nat.reduceEqDiff, reduceIte, Nat.reduceMul, Nat.reduceSub, reduceCtorEq, Int.reduceNe, Int.reduceEq, ne_eq, Nat.reduceLeDiff, Nat.reduceMod, Nat.reduceDiv, hN, eA, eB, eY, eM, eD, eE, fY, fM, fD, fE, Bool.false_eq_true]
                              (repeat' first | (refine hK _ ?_; clear hK K') | (first | apply goB_splitD | apply goA_splitD | apply goB_split | apply goA_split | apply goA_all) <;> intro _ <;> simp -implicitDefEqProofs only [go_sem, Nat.reduceLT, Nat.reduceAdd, Nat.reduceEqDiff, reduceIte, Nat.reduceMul, Nat.reduceSub, reduceCtorEq, Int.reduceNe, Int.reduceEq, ne_eq, Nat.reduceLeDiff, Nat.reduceMod, Nat.reduceDiv, hN, eA, eB, eY, eM, eD, eE, fY, fM, fD, fE, Bool.false_eq_true] | with_reducible apply And.intro | (simp -implicitDefEqProofs (disch := omega) only [i64_in, tmodn, tdivn, List.length_cons, List.length_nil, Nat.reduceAdd]; done) | omega | decide | fail)
                              all_goals
                                apply VC.at
                                · simp -implicitDefEqProofs only [go_sem, Nat.reduceLT, Nat.reduceAdd, Nat.reduceEqDiff, reduceIte, Nat.reduceMul, Nat.reduceSub, reduceCtorEq, Int.reduceNe, Int.reduceEq, ne_eq, Nat.reduceLeDiff, Nat.reduceMod, Nat.reduceDiv, hN, eA, eB, eY, eM, eD, eE, fY, fM, fD, fE, Bool.false_eq_true]; (try simp (disch := omega) only [i64_in, tmodn, tdivn]); exact rfl
                                apply VC.regt ΦQ5_ok [2]; intro K' hK; dsimp only [List.take, List.drop, List.map, strip, stripG]; simp only [gtmp, List.getElem?_toArray, List.getElem?_cons_succ, List.getElem?_cons_zero, Option.bind_some]; simp -implicitDefEqProofs only [go_sem, Nat.reduceLT, Nat.reduceAdd, Nat.reduceEqDiff, reduceIte, Nat.reduceMul, Nat.reduceSub, reduceCtorEq, Int.reduceNe, Int.reduceEq, ne_eq, Nat.reduceLeDiff, Nat.reduceMod, Nat.reduceDiv, hN, eA, eB, eY, eM, eD, eE, fY, fM, fD, fE, Bool.false_eq_true]
                                (repeat' first | (refine hK _ ?_; clear hK K') | (first | apply goB_splitD | apply goA_splitD | apply goB_split | apply goA_split | apply goA_all) <;> intro _ <;> simp -implicitDefEqProofs only [go_sem, Nat.reduceLT, Nat.reduceAdd, Nat.reduceEqDiff, reduceIte, Nat.reduceMul, Nat.reduceSub, reduceCtorEq, Int.reduceNe, Int.reduceEq, ne_eq, Nat.reduceLeDiff, Nat.reduceMod, Nat.reduceDiv, hN, eA, eB, eY, eM, eD, eE, fY, fM, fD, fE, Bool.false_eq_true] | with_reducible apply And.intro | (simp -implicitDefEqProofs (disch := omega) only [i64_in, tmodn, tdivn, List.length_cons, List.length_nil, Nat.reduceAdd]; done) | omega | decide | fail)
                                all_goals
                                  apply VC.at
                                  · simp -implicitDefEqProofs only [go_sem, Nat.reduceLT, Nat.reduceAdd, Nat.reduceEqDiff, reduceIte, Nat.reduceMul, Nat.reduceSub, reduceCtorEq, Int.reduceNe, Int.reduceEq, ne_eq, Nat.reduceLeDiff, Nat.reduceMod, Nat.reduceDiv, hN, eA, eB, eY, eM, eD, eE, fY, fM, fD, fE, Bool.false_eq_true]; (try simp (disch := omega) only [i64_in, tmodn, tdivn]); exact rfl
                                  apply VC.ret
                                  simp -implicitDefEqProofs only [go_sem, Nat.reduceLT, Nat.reduceAdd, Nat.reduceEqDiff, reduceIte, Nat.reduceMul, Nat.reduceSub, reduceCtorEq, Int.reduceNe, Int.reduceEq, ne_eq, Nat.reduceLeDiff, Nat.reduceMod, Nat.reduceDiv, hN, eA, eB, eY, eM, eD, eE, fY, fM, fD, fE, Bool.false_eq_true]
                                  all_goals (first | trivial | rfl | (exfalso; omega) | (exfalso; (try simp (disch := omega) only [i64_in] at *); omega) | (have e : d = 31 := (by (try simp (disch := omega) only [i64_in] at *); omega); rw [e]; rfl))
end Go.Proofs.YtfbodageccednaaDoor.Oa

