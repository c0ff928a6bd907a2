/- What the document's May and Text, and the program's Text and Parse, compute: their contracts. No condition. -/
import Derived.Test.YtgfadocohpinmaaDoorOaA
import Derived.Test.YtgfadocohpinmaaDoorOaB
set_option linter.unusedVariables false
set_option linter.unusedSimpArgs false
namespace Go.Proofs.YtgfadocohpinmaaDoor.Oa
open Go Go.RowKit Go.Proofs.YtgfadocohpinmaaDoor.Vm Go.IntWalk
set_option maxRecDepth 100000
set_option maxHeartbeats 4000000
theorem mx_take_le (l : List Nat) (k : Nat) (m : Nat) (h : mx (l.take k) ≤ m) (hk : k < l.length) (h' : l.getD k 0 ≤ m) : mx (l.take (k + 1)) ≤ m := by
  rw [mx_succ l k hk]; omega
theorem mx_ge (l : List Nat) (k : Nat) (hk : k < l.length) : l.getD k 0 ≤ mx l := by
  have := (mx_all l (mx l)).1 (Nat.le_refl _) (l.getD k 0) (by rw [List.getD_eq_getElem?_getD, List.getElem?_eq_getElem hk]; exact List.getElem_mem hk)
  exact this
def rmayA (a : List Nat) : List Vm.Data := [.lst (numsD a)]
noncomputable def rmayF : PFn := PFn.of rmayA (fun a => a.length ≤ 4611686018427387904) (fun a => [.bool (may a)])
theorem rmay_inj (x y : List Nat) (h : rmayA x = rmayA y) : x = y := by
  simpa [rmayA, Prod.ext_iff, numsD_inj, bytesD_inj, Vm.Data.lst.injEq, Int.natCast_inj] using h
@[go_sem] theorem rmay_pre (a : List Nat) : rmayF.pre [.lst (numsD a)] = (a.length ≤ 4611686018427387904) := PFn.of_pre rmay_inj a
@[go_sem] theorem rmay_res (a : List Nat) : rmayF.res [.lst (numsD a)] = [.bool (may a)] := PFn.of_res rmay_inj a
theorem rmay_ok : Pure E 12 rmayF := by
  apply Pure.of_body (rs := [.tmp 2]) (n := 48) Tryd.func12 rfl rfl rfl
  intro ds hds
  obtain ⟨a, rfl, hds⟩ := hds
  (try dsimp only at hds)
  rw [show rmayF.res (rmayA a) = [.bool (may a)] from rmay_res a]
  skip
  refine ⟨Nat.le_of_ble_eq_true rfl, ?_⟩
  show VC E none _ (pureSt 48 [.lst (numsD a)]) _
  apply VC.regt sound_nil [0]; intro K' hK; dsimp only [List.take, List.drop, List.map, strip, stripG]; simp -implicitDefEqProofs only [go_sem, Nat.reduceLT, Nat.reduceAdd, Nat.reduceEqDiff, reduceIte, Nat.reduceMul, Nat.reduceSub, reduceCtorEq, Int.reduceNe, Int.reduceEq, ne_eq, Nat.reduceLeDiff, Nat.reduceMod, Nat.reduceDiv]
  (repeat' first | (refine hK _ ?_; clear hK K') | with_reducible apply And.intro | (simp -implicitDefEqProofs (disch := omega) only [numsD_at, i64_in, u64_in, List.length_cons, List.length_nil, Nat.reduceAdd]; done) | omega)
  all_goals
    apply VC.at
    · simp -implicitDefEqProofs only [go_sem, Nat.reduceLT, Nat.reduceAdd, Nat.reduceEqDiff, reduceIte, Nat.reduceMul, Nat.reduceSub, reduceCtorEq, Int.reduceNe, Int.reduceEq, ne_eq, Nat.reduceLeDiff, Nat.reduceMod, Nat.reduceDiv]; (try simp (disch := omega) only [i64_in, tmodn, tdivn]); exact rfl
    apply VC.seq
    apply VC.regt sound_nil [0, 11]; intro K' hK; dsimp only [List.take, List.drop, List.map, strip, stripG]; simp only [gtmp, List.getElem?_toArray, List.getElem?_cons_succ, List.getElem?_cons_zero, Option.bind_some]; simp -implicitDefEqProofs only [go_sem, Nat.reduceLT, Nat.reduceAdd, Nat.reduceEqDiff, reduceIte, Nat.reduceMul, Nat.reduceSub, reduceCtorEq, Int.reduceNe, Int.reduceEq, ne_eq, Nat.reduceLeDiff, Nat.reduceMod, Nat.reduceDiv]
    (repeat' first | (refine hK _ ?_; clear hK K') | (first | apply goB_splitD | apply goA_splitD | apply goB_split | apply goA_split | apply goA_all) <;> intro _ <;> simp -implicitDefEqProofs only [go_sem, Nat.reduceLT, Nat.reduceAdd, Nat.reduceEqDiff, reduceIte, Nat.reduceMul, Nat.reduceSub, reduceCtorEq, Int.reduceNe, Int.reduceEq, ne_eq, Nat.reduceLeDiff, Nat.reduceMod, Nat.reduceDiv] | with_reducible apply And.intro | (simp -implicitDefEqProofs (disch := omega) only [numsD_at, i64_in, u64_in, List.length_cons, List.length_nil, Nat.reduceAdd]; done) | omega)
    all_goals
      apply VC.at
      · simp -implicitDefEqProofs only [go_sem, Nat.reduceLT, Nat.reduceAdd, Nat.reduceEqDiff, reduceIte, Nat.reduceMul, Nat.reduceSub, reduceCtorEq, Int.reduceNe, Int.reduceEq, ne_eq, Nat.reduceLeDiff, Nat.reduceMod, Nat.reduceDiv]; (try simp (disch := omega) only [i64_in, tmodn, tdivn]); exact rfl
      first | (apply VC.condd; (focus (simp -implicitDefEqProofs only [go_sem, Nat.reduceLT, Nat.reduceAdd, Nat.reduceEqDiff, reduceIte, Nat.reduceMul, Nat.reduceSub, reduceCtorEq, Int.reduceNe, Int.reduceEq, ne_eq, Nat.reduceLeDiff, Nat.reduceMod, Nat.reduceDiv]; with_reducible exact rfl))) | (apply VC.condn; (focus (simp -implicitDefEqProofs only [go_sem, Nat.reduceLT, Nat.reduceAdd, Nat.reduceEqDiff, reduceIte, Nat.reduceMul, Nat.reduceSub, reduceCtorEq, Int.reduceNe, Int.reduceEq, ne_eq, Nat.reduceLeDiff, Nat.reduceMod, Nat.reduceDiv]; with_reducible exact rfl))) | (apply VC.condt; (focus (simp -implicitDefEqProofs only [go_sem, Nat.reduceLT, Nat.reduceAdd, Nat.reduceEqDiff, reduceIte, Nat.reduceMul, Nat.reduceSub, reduceCtorEq, Int.reduceNe, Int.reduceEq, ne_eq, Nat.reduceLeDiff, Nat.reduceMod, Nat.reduceDiv]; with_reducible exact rfl))) | (apply VC.condb; (focus (simp -implicitDefEqProofs only [go_sem, Nat.reduceLT, Nat.reduceAdd, Nat.reduceEqDiff, reduceIte, Nat.reduceMul, Nat.reduceSub, reduceCtorEq, Int.reduceNe, Int.reduceEq, ne_eq, Nat.reduceLeDiff, Nat.reduceMod, Nat.reduceDiv]; exact rfl)))
      · intro h; try exact absurd h (by decide)
        all_goals
          apply VC.regt sound_nil [2]; intro K' hK; dsimp only [List.take, List.drop, List.map, strip, stripG]; simp -implicitDefEqProofs only [go_sem, Nat.reduceLT, Nat.reduceAdd, Nat.reduceEqDiff, reduceIte, Nat.reduceMul, Nat.reduceSub, reduceCtorEq, Int.reduceNe, Int.reduceEq, ne_eq, Nat.reduceLeDiff, Nat.reduceMod, Nat.reduceDiv]
          (repeat' first | (refine hK _ ?_; clear hK K') | with_reducible apply And.intro | (simp -implicitDefEqProofs (disch := omega) only [numsD_at, i64_in, u64_in, List.length_cons, List.length_nil, Nat.reduceAdd]; done) | omega)
          all_goals
            apply VC.at
            · simp -implicitDefEqProofs only [go_sem, Nat.reduceLT, Nat.reduceAdd, Nat.reduceEqDiff, reduceIte, Nat.reduceMul, Nat.reduceSub, reduceCtorEq, Int.reduceNe, Int.reduceEq, ne_eq, Nat.reduceLeDiff, Nat.reduceMod, Nat.reduceDiv]; (try simp (disch := omega) only [i64_in, tmodn, tdivn]); exact rfl
            apply VC.ret
            refine thenK_r ?_
            simp -implicitDefEqProofs only [go_sem, Nat.reduceLT, Nat.reduceAdd, Nat.reduceEqDiff, reduceIte, Nat.reduceMul, Nat.reduceSub, reduceCtorEq, Int.reduceNe, Int.reduceEq, ne_eq, Nat.reduceLeDiff, Nat.reduceMod, Nat.reduceDiv]
            all_goals ((try simp (disch := omega) only [i64_in, u64_in] at *); first | (rw [may_no a (by omega)]; done) | (rw [may_yes a (by omega)]; done) | (refine congrArg (fun b => [Vm.Data.bool b]) ?_; unfold may; rw [decide_eq_decide]; omega))
      · intro h; try exact absurd h (by decide)
        all_goals
          apply VC.skip
          refine thenK_n ?_
          apply VC.seq
          apply VC.regt sound_nil [0, 3]; intro K' hK; dsimp only [List.take, List.drop, List.map, strip, stripG]; simp -implicitDefEqProofs only [go_sem, Nat.reduceLT, Nat.reduceAdd, Nat.reduceEqDiff, reduceIte, Nat.reduceMul, Nat.reduceSub, reduceCtorEq, Int.reduceNe, Int.reduceEq, ne_eq, Nat.reduceLeDiff, Nat.reduceMod, Nat.reduceDiv]
          (repeat' first | (refine hK _ ?_; clear hK K') | with_reducible apply And.intro | (simp -implicitDefEqProofs (disch := omega) only [numsD_at, i64_in, u64_in, List.length_cons, List.length_nil, Nat.reduceAdd]; done) | omega)
          all_goals
            apply VC.at
            · simp -implicitDefEqProofs only [go_sem, Nat.reduceLT, Nat.reduceAdd, Nat.reduceEqDiff, reduceIte, Nat.reduceMul, Nat.reduceSub, reduceCtorEq, Int.reduceNe, Int.reduceEq, ne_eq, Nat.reduceLeDiff, Nat.reduceMod, Nat.reduceDiv]; (try simp (disch := omega) only [i64_in, tmodn, tdivn]); exact rfl
            apply VC.block
            refine VC.loopP (ι := Nat) [0] (fun i => [(3, .dat (.int .i64 (i : Int)))]) (fun _ => []) (fun i => i ≤ a.length ∧ mx (a.take i) ≤ 9223372036854775807) (fun i => a.length - i) 0 ?_ ?_ ?_
            · exact ⟨Nat.zero_le _, Nat.zero_le _⟩
            · refine Ent.to rfl rfl rfl ?_ ?_ <;> (simp -implicitDefEqProofs only [go_sem, Nat.reduceLT, Nat.reduceAdd, Nat.reduceEqDiff, reduceIte, Nat.reduceMul, Nat.reduceSub, reduceCtorEq, Int.reduceNe, Int.reduceEq, ne_eq, Nat.reduceLeDiff, Nat.reduceMod, Nat.reduceDiv]; (try simp only [D.dat.injEq, Vm.Data.int.injEq, true_and, and_true, and_self, eq_self]); (try omega); (try ((repeat' apply And.intro) <;> first | omega | rfl)))
            · rintro k hp; (try dsimp only at hp); obtain ⟨hk, hj⟩ := hp
              apply VC.at
              · simp -implicitDefEqProofs only [go_sem, Nat.reduceLT, Nat.reduceAdd, Nat.reduceEqDiff, reduceIte, Nat.reduceMul, Nat.reduceSub, reduceCtorEq, Int.reduceNe, Int.reduceEq, ne_eq, Nat.reduceLeDiff, Nat.reduceMod, Nat.reduceDiv]; (try simp (disch := omega) only [i64_in, tmodn, tdivn]); exact rfl
              apply VC.seq
              apply VC.regt sound_nil [0, 3, 15]; intro K' hK; dsimp only [List.take, List.drop, List.map, strip, stripG]; simp -implicitDefEqProofs only [go_sem, Nat.reduceLT, Nat.reduceAdd, Nat.reduceEqDiff, reduceIte, Nat.reduceMul, Nat.reduceSub, reduceCtorEq, Int.reduceNe, Int.reduceEq, ne_eq, Nat.reduceLeDiff, Nat.reduceMod, Nat.reduceDiv]
              (repeat' first | (refine hK _ ?_; clear hK K') | with_reducible apply And.intro | (simp -implicitDefEqProofs (disch := omega) only [numsD_at, i64_in, u64_in, List.length_cons, List.length_nil, Nat.reduceAdd]; done) | omega)
              all_goals
                apply VC.at
                · simp -implicitDefEqProofs only [go_sem, Nat.reduceLT, Nat.reduceAdd, Nat.reduceEqDiff, reduceIte, Nat.reduceMul, Nat.reduceSub, reduceCtorEq, Int.reduceNe, Int.reduceEq, ne_eq, Nat.reduceLeDiff, Nat.reduceMod, Nat.reduceDiv]; (try simp (disch := omega) only [i64_in, tmodn, tdivn]); exact rfl
                first | (apply VC.condd; (focus (simp -implicitDefEqProofs only [go_sem, Nat.reduceLT, Nat.reduceAdd, Nat.reduceEqDiff, reduceIte, Nat.reduceMul, Nat.reduceSub, reduceCtorEq, Int.reduceNe, Int.reduceEq, ne_eq, Nat.reduceLeDiff, Nat.reduceMod, Nat.reduceDiv]; with_reducible exact rfl))) | (apply VC.condn; (focus (simp -implicitDefEqProofs only [go_sem, Nat.reduceLT, Nat.reduceAdd, Nat.reduceEqDiff, reduceIte, Nat.reduceMul, Nat.reduceSub, reduceCtorEq, Int.reduceNe, Int.reduceEq, ne_eq, Nat.reduceLeDiff, Nat.reduceMod, Nat.reduceDiv]; with_reducible exact rfl))) | (apply VC.condt; (focus (simp -implicitDefEqProofs only [go_sem, Nat.reduceLT, Nat.reduceAdd, Nat.reduceEqDiff, reduceIte, Nat.reduceMul, Nat.reduceSub, reduceCtorEq, Int.reduceNe, Int.reduceEq, ne_eq, Nat.reduceLeDiff, Nat.reduceMod, Nat.reduceDiv]; with_reducible exact rfl))) | (apply VC.condb; (focus (simp -implicitDefEqProofs only [go_sem, Nat.reduceLT, Nat.reduceAdd, Nat.reduceEqDiff, reduceIte, Nat.reduceMul, Nat.reduceSub, reduceCtorEq, Int.reduceNe, Int.reduceEq, ne_eq, Nat.reduceLeDiff, Nat.reduceMod, Nat.reduceDiv]; exact rfl)))
                · intro h; try exact absurd h (by decide)
                  all_goals
                    apply VC.skip
                    refine thenK_n ?_
                    apply VC.seq
                    apply VC.block
                    apply VC.regt sound_nil [0, 3, 22]; intro K' hK; dsimp only [List.take, List.drop, List.map, strip, stripG]; simp -implicitDefEqProofs only [go_sem, Nat.reduceLT, Nat.reduceAdd, Nat.reduceEqDiff, reduceIte, Nat.reduceMul, Nat.reduceSub, reduceCtorEq, Int.reduceNe, Int.reduceEq, ne_eq, Nat.reduceLeDiff, Nat.reduceMod, Nat.reduceDiv]
                    (repeat' first | (refine hK _ ?_; clear hK K') | ((first | with_reducible refine runA_id ?_ | with_reducible refine goA_id ?_); simp -implicitDefEqProofs (disch := omega) only [numsD_at, i64_in, u64_in]; simp -implicitDefEqProofs only [go_sem, Nat.reduceLT, Nat.reduceAdd, Nat.reduceEqDiff, reduceIte, Nat.reduceMul, Nat.reduceSub, reduceCtorEq, Int.reduceNe, Int.reduceEq, ne_eq, Nat.reduceLeDiff, Nat.reduceMod, Nat.reduceDiv]) | with_reducible apply And.intro | (simp -implicitDefEqProofs (disch := omega) only [numsD_at, i64_in, u64_in, List.length_cons, List.length_nil, Nat.reduceAdd]; done) | omega)
                    all_goals
                      apply VC.at
                      · simp -implicitDefEqProofs only [go_sem, Nat.reduceLT, Nat.reduceAdd, Nat.reduceEqDiff, reduceIte, Nat.reduceMul, Nat.reduceSub, reduceCtorEq, Int.reduceNe, Int.reduceEq, ne_eq, Nat.reduceLeDiff, Nat.reduceMod, Nat.reduceDiv]; (try simp (disch := omega) only [i64_in, tmodn, tdivn]); exact rfl
                      first | (apply VC.condd; (focus (simp -implicitDefEqProofs only [go_sem, Nat.reduceLT, Nat.reduceAdd, Nat.reduceEqDiff, reduceIte, Nat.reduceMul, Nat.reduceSub, reduceCtorEq, Int.reduceNe, Int.reduceEq, ne_eq, Nat.reduceLeDiff, Nat.reduceMod, Nat.reduceDiv]; with_reducible exact rfl))) | (apply VC.condn; (focus (simp -implicitDefEqProofs only [go_sem, Nat.reduceLT, Nat.reduceAdd, Nat.reduceEqDiff, reduceIte, Nat.reduceMul, Nat.reduceSub, reduceCtorEq, Int.reduceNe, Int.reduceEq, ne_eq, Nat.reduceLeDiff, Nat.reduceMod, Nat.reduceDiv]; with_reducible exact rfl))) | (apply VC.condt; (focus (simp -implicitDefEqProofs only [go_sem, Nat.reduceLT, Nat.reduceAdd, Nat.reduceEqDiff, reduceIte, Nat.reduceMul, Nat.reduceSub, reduceCtorEq, Int.reduceNe, Int.reduceEq, ne_eq, Nat.reduceLeDiff, Nat.reduceMod, Nat.reduceDiv]; with_reducible exact rfl))) | (apply VC.condb; (focus (simp -implicitDefEqProofs only [go_sem, Nat.reduceLT, Nat.reduceAdd, Nat.reduceEqDiff, reduceIte, Nat.reduceMul, Nat.reduceSub, reduceCtorEq, Int.reduceNe, Int.reduceEq, ne_eq, Nat.reduceLeDiff, Nat.reduceMod, Nat.reduceDiv]; exact rfl)))
                      · intro h; try exact absurd h (by decide)
                        all_goals
                          have hgk := mx_ge a k (by omega)
                          apply VC.regt sound_nil [2]; intro K' hK; dsimp only [List.take, List.drop, List.map, strip, stripG]; simp -implicitDefEqProofs only [go_sem, Nat.reduceLT, Nat.reduceAdd, Nat.reduceEqDiff, reduceIte, Nat.reduceMul, Nat.reduceSub, reduceCtorEq, Int.reduceNe, Int.reduceEq, ne_eq, Nat.reduceLeDiff, Nat.reduceMod, Nat.reduceDiv]
                          (repeat' first | (refine hK _ ?_; clear hK K') | with_reducible apply And.intro | (simp -implicitDefEqProofs (disch := omega) only [numsD_at, i64_in, u64_in, List.length_cons, List.length_nil, Nat.reduceAdd]; done) | omega)
                          all_goals
                            apply VC.at
                            · simp -implicitDefEqProofs only [go_sem, Nat.reduceLT, Nat.reduceAdd, Nat.reduceEqDiff, reduceIte, Nat.reduceMul, Nat.reduceSub, reduceCtorEq, Int.reduceNe, Int.reduceEq, ne_eq, Nat.reduceLeDiff, Nat.reduceMod, Nat.reduceDiv]; (try simp (disch := omega) only [i64_in, tmodn, tdivn]); exact rfl
                            apply VC.ret
                            refine blockK_r ?_
                            refine thenK_r ?_
                            refine thenK_r ?_
                            refine blockK_r ?_
                            refine thenK_r ?_
                            simp -implicitDefEqProofs only [go_sem, Nat.reduceLT, Nat.reduceAdd, Nat.reduceEqDiff, reduceIte, Nat.reduceMul, Nat.reduceSub, reduceCtorEq, Int.reduceNe, Int.reduceEq, ne_eq, Nat.reduceLeDiff, Nat.reduceMod, Nat.reduceDiv]
                            all_goals ((try simp (disch := omega) only [i64_in, u64_in] at *); first | (rw [may_no a (by omega)]; done) | (rw [may_yes a (by omega)]; done) | (refine congrArg (fun b => [Vm.Data.bool b]) ?_; unfold may; rw [decide_eq_decide]; omega))
                      · intro h; try exact absurd h (by decide)
                        all_goals
                          apply VC.skip
                          refine blockK_n ?_
                          refine thenK_n ?_
                          apply VC.regLast sound_nil; intro K' hK; dsimp only [List.take, List.drop, List.map, strip, stripG]; simp -implicitDefEqProofs only [go_sem, Nat.reduceLT, Nat.reduceAdd, Nat.reduceEqDiff, reduceIte, Nat.reduceMul, Nat.reduceSub, reduceCtorEq, Int.reduceNe, Int.reduceEq, ne_eq, Nat.reduceLeDiff, Nat.reduceMod, Nat.reduceDiv]
                          (repeat' first | (refine hK _ ?_; clear hK K') | with_reducible apply And.intro | (simp -implicitDefEqProofs (disch := omega) only [numsD_at, i64_in, u64_in, List.length_cons, List.length_nil, Nat.reduceAdd]; done) | omega)
                          all_goals
                            refine thenK_n ?_
                            refine ⟨(k + 1), ?_, Ent.to rfl rfl rfl ?_ ?_, ?_⟩
                            · exact ⟨by omega, mx_take_le a k _ hj (by omega) (by omega)⟩
                            · simp -implicitDefEqProofs only [go_sem, Nat.reduceLT, Nat.reduceAdd, Nat.reduceEqDiff, reduceIte, Nat.reduceMul, Nat.reduceSub, reduceCtorEq, Int.reduceNe, Int.reduceEq, ne_eq, Nat.reduceLeDiff, Nat.reduceMod, Nat.reduceDiv]; (try simp (disch := omega) only [i64_in, tmodn, tdivn]); (try simp only [D.dat.injEq, Vm.Data.int.injEq, true_and, and_true, and_self, eq_self]); (try omega); (try ((repeat' apply And.intro) <;> first | omega | rfl))
                            · simp -implicitDefEqProofs only [go_sem, Nat.reduceLT, Nat.reduceAdd, Nat.reduceEqDiff, reduceIte, Nat.reduceMul, Nat.reduceSub, reduceCtorEq, Int.reduceNe, Int.reduceEq, ne_eq, Nat.reduceLeDiff, Nat.reduceMod, Nat.reduceDiv]; (try simp (disch := omega) only [i64_in, tmodn, tdivn]); (try simp only [D.dat.injEq, Vm.Data.int.injEq, true_and, and_true, and_self, eq_self]); (try omega); (try ((repeat' apply And.intro) <;> first | omega | rfl))
                            · omega
                · intro h; try exact absurd h (by decide)
                  all_goals
                    apply VC.exit
                    refine thenK_e ?_
                    refine thenK_e ?_
                    refine blockK_e ?_
                    refine thenK_n ?_
                    apply VC.seq
                    have ek : k = a.length := by omega
                    rw [ek, List.take_length] at hj
                    have hg0 := mx_ge a 0 (by omega)
                    have hg1 := mx_ge a 1 (by omega)
                    apply VC.regt sound_nil [0, 38]; intro K' hK; dsimp only [List.take, List.drop, List.map, strip, stripG]; simp only [gtmp, List.getElem?_toArray, List.getElem?_cons_succ, List.getElem?_cons_zero, Option.bind_some]; simp -implicitDefEqProofs only [go_sem, Nat.reduceLT, Nat.reduceAdd, Nat.reduceEqDiff, reduceIte, Nat.reduceMul, Nat.reduceSub, reduceCtorEq, Int.reduceNe, Int.reduceEq, ne_eq, Nat.reduceLeDiff, Nat.reduceMod, Nat.reduceDiv]
                    (repeat' first | (refine hK _ ?_; clear hK K') | (first | apply goB_splitD | apply goA_splitD | apply goB_split | apply goA_split | apply goA_all) <;> intro _ <;> simp -implicitDefEqProofs only [go_sem, Nat.reduceLT, Nat.reduceAdd, Nat.reduceEqDiff, reduceIte, Nat.reduceMul, Nat.reduceSub, reduceCtorEq, Int.reduceNe, Int.reduceEq, ne_eq, Nat.reduceLeDiff, Nat.reduceMod, Nat.reduceDiv] | ((first | with_reducible refine runA_id ?_ | with_reducible refine goA_id ?_); simp -implicitDefEqProofs (disch := omega) only [numsD_at, i64_in, u64_in]; simp -implicitDefEqProofs only [go_sem, Nat.reduceLT, Nat.reduceAdd, Nat.reduceEqDiff, reduceIte, Nat.reduceMul, Nat.reduceSub, reduceCtorEq, Int.reduceNe, Int.reduceEq, ne_eq, Nat.reduceLeDiff, Nat.reduceMod, Nat.reduceDiv]) | with_reducible apply And.intro | (simp -implicitDefEqProofs (disch := omega) only [numsD_at, i64_in, u64_in, List.length_cons, List.length_nil, Nat.reduceAdd]; done) | omega)
                    all_goals
                      apply VC.at
                      · simp -implicitDefEqProofs only [go_sem, Nat.reduceLT, Nat.reduceAdd, Nat.reduceEqDiff, reduceIte, Nat.reduceMul, Nat.reduceSub, reduceCtorEq, Int.reduceNe, Int.reduceEq, ne_eq, Nat.reduceLeDiff, Nat.reduceMod, Nat.reduceDiv]; (try simp (disch := omega) only [i64_in, tmodn, tdivn]); exact rfl
                      first | (apply VC.condd; (focus (simp -implicitDefEqProofs only [go_sem, Nat.reduceLT, Nat.reduceAdd, Nat.reduceEqDiff, reduceIte, Nat.reduceMul, Nat.reduceSub, reduceCtorEq, Int.reduceNe, Int.reduceEq, ne_eq, Nat.reduceLeDiff, Nat.reduceMod, Nat.reduceDiv]; with_reducible exact rfl))) | (apply VC.condn; (focus (simp -implicitDefEqProofs only [go_sem, Nat.reduceLT, Nat.reduceAdd, Nat.reduceEqDiff, reduceIte, Nat.reduceMul, Nat.reduceSub, reduceCtorEq, Int.reduceNe, Int.reduceEq, ne_eq, Nat.reduceLeDiff, Nat.reduceMod, Nat.reduceDiv]; with_reducible exact rfl))) | (apply VC.condt; (focus (simp -implicitDefEqProofs only [go_sem, Nat.reduceLT, Nat.reduceAdd, Nat.reduceEqDiff, reduceIte, Nat.reduceMul, Nat.reduceSub, reduceCtorEq, Int.reduceNe, Int.reduceEq, ne_eq, Nat.reduceLeDiff, Nat.reduceMod, Nat.reduceDiv]; with_reducible exact rfl))) | (apply VC.condb; (focus (simp -implicitDefEqProofs only [go_sem, Nat.reduceLT, Nat.reduceAdd, Nat.reduceEqDiff, reduceIte, Nat.reduceMul, Nat.reduceSub, reduceCtorEq, Int.reduceNe, Int.reduceEq, ne_eq, Nat.reduceLeDiff, Nat.reduceMod, Nat.reduceDiv]; exact rfl)))
                      · intro h; try exact absurd h (by decide)
                        all_goals
                          apply VC.regt sound_nil [2]; intro K' hK; dsimp only [List.take, List.drop, List.map, strip, stripG]; simp -implicitDefEqProofs only [go_sem, Nat.reduceLT, Nat.reduceAdd, Nat.reduceEqDiff, reduceIte, Nat.reduceMul, Nat.reduceSub, reduceCtorEq, Int.reduceNe, Int.reduceEq, ne_eq, Nat.reduceLeDiff, Nat.reduceMod, Nat.reduceDiv]
                          (repeat' first | (refine hK _ ?_; clear hK K') | with_reducible apply And.intro | (simp -implicitDefEqProofs (disch := omega) only [numsD_at, i64_in, u64_in, List.length_cons, List.length_nil, Nat.reduceAdd]; done) | omega)
                          all_goals
                            apply VC.at
                            · simp -implicitDefEqProofs only [go_sem, Nat.reduceLT, Nat.reduceAdd, Nat.reduceEqDiff, reduceIte, Nat.reduceMul, Nat.reduceSub, reduceCtorEq, Int.reduceNe, Int.reduceEq, ne_eq, Nat.reduceLeDiff, Nat.reduceMod, Nat.reduceDiv]; (try simp (disch := omega) only [i64_in, tmodn, tdivn]); exact rfl
                            apply VC.ret
                            refine thenK_r ?_
                            simp -implicitDefEqProofs only [go_sem, Nat.reduceLT, Nat.reduceAdd, Nat.reduceEqDiff, reduceIte, Nat.reduceMul, Nat.reduceSub, reduceCtorEq, Int.reduceNe, Int.reduceEq, ne_eq, Nat.reduceLeDiff, Nat.reduceMod, Nat.reduceDiv]
                            all_goals ((try simp (disch := omega) only [i64_in, u64_in] at *); first | (rw [may_no a (by omega)]; done) | (rw [may_yes a (by omega)]; done) | (refine congrArg (fun b => [Vm.Data.bool b]) ?_; unfold may; rw [decide_eq_decide]; omega))
                      · intro h; try exact absurd h (by decide)
                        all_goals
                          apply VC.skip
                          refine thenK_n ?_
                          apply VC.draw1 sound_nil (by kernel_rfl) 10 (by kernel_rfl) (by kernel_rfl) [2]; intro L hL; dsimp only [List.take, List.drop, List.map, strip, stripG]; simp -implicitDefEqProofs only [go_sem, Nat.reduceLT, Nat.reduceAdd, Nat.reduceEqDiff, reduceIte, Nat.reduceMul, Nat.reduceSub, reduceCtorEq, Int.reduceNe, Int.reduceEq, ne_eq, Nat.reduceLeDiff, Nat.reduceMod, Nat.reduceDiv]
                          (repeat' first | (refine hL _ ?_; intro K' hK; dsimp only [List.drop, List.map, strip, stripG]; simp -implicitDefEqProofs only [go_sem, Nat.reduceLT, Nat.reduceAdd, Nat.reduceEqDiff, reduceIte, Nat.reduceMul, Nat.reduceSub, reduceCtorEq, Int.reduceNe, Int.reduceEq, ne_eq, Nat.reduceLeDiff, Nat.reduceMod, Nat.reduceDiv]; refine hK _ ?_; clear hK K' hL L) | ((first | with_reducible refine runA_id ?_ | with_reducible refine goA_id ?_); simp -implicitDefEqProofs (disch := omega) only [numsD_at, i64_in, u64_in]; simp -implicitDefEqProofs only [go_sem, Nat.reduceLT, Nat.reduceAdd, Nat.reduceEqDiff, reduceIte, Nat.reduceMul, Nat.reduceSub, reduceCtorEq, Int.reduceNe, Int.reduceEq, ne_eq, Nat.reduceLeDiff, Nat.reduceMod, Nat.reduceDiv]) | with_reducible apply And.intro | (simp -implicitDefEqProofs (disch := omega) only [numsD_at, i64_in, u64_in, List.length_cons, List.length_nil, Nat.reduceAdd]; done) | omega)
                          all_goals
                            apply VC.at
                            · simp -implicitDefEqProofs only [go_sem, Nat.reduceLT, Nat.reduceAdd, Nat.reduceEqDiff, reduceIte, Nat.reduceMul, Nat.reduceSub, reduceCtorEq, Int.reduceNe, Int.reduceEq, ne_eq, Nat.reduceLeDiff, Nat.reduceMod, Nat.reduceDiv]; (try simp (disch := omega) only [i64_in, tmodn, tdivn]); exact rfl
                            apply VC.ret
                            simp -implicitDefEqProofs only [go_sem, Nat.reduceLT, Nat.reduceAdd, Nat.reduceEqDiff, reduceIte, Nat.reduceMul, Nat.reduceSub, reduceCtorEq, Int.reduceNe, Int.reduceEq, ne_eq, Nat.reduceLeDiff, Nat.reduceMod, Nat.reduceDiv]
                            all_goals ((try simp (disch := omega) only [i64_in, u64_in] at *); first | (rw [may_no a (by omega)]; done) | (rw [may_yes a (by omega)]; done) | (refine congrArg (fun b => [Vm.Data.bool b]) ?_; unfold may; rw [decide_eq_decide]; omega))
end Go.Proofs.YtgfadocohpinmaaDoor.Oa
namespace Go.Proofs.YtgfadocohpinmaaDoor.Oa
open Go Go.RowKit Go.Proofs.YtgfadocohpinmaaDoor.Vm Go.IntWalk
set_option maxRecDepth 100000
set_option maxHeartbeats 4000000
def decS : Nat → Nat → List UInt8 → List UInt8
  | 0, _, s => s
  | f + 1, n, s => if n / 10 = 0 then UInt8.ofNat (48 + n % 10) :: s else decS f (n / 10) (UInt8.ofNat (48 + n % 10) :: s)
/-- The decimal digits, twenty at the most. -/
def dec (n : Nat) : List UInt8 := decS 20 n []
def contD (k m : Nat) (s : List UInt8) : List UInt8 := if k < 20 ∧ (k = 0 ∨ 0 < m) then decS (20 - k) m s else s
theorem contD_step {k m : Nat} {s : List UInt8} (h : k < 20) (h' : k = 0 ∨ 0 < m) : contD (k + 1) (m / 10) (UInt8.ofNat (48 + m % 10) :: s) = contD k m s := by
  have e : contD k m s = decS (20 - k) m s := if_pos ⟨h, h'⟩
  rw [e, show 20 - k = (20 - (k + 1)) + 1 by omega]
  simp only [decS]
  unfold contD
  by_cases h0 : m / 10 = 0
  · rw [if_pos h0, if_neg (by omega)]
  · rw [if_neg h0]
    by_cases h1 : k + 1 < 20
    · rw [if_pos ⟨h1, by omega⟩]
    · rw [if_neg (by omega), show 20 - (k + 1) = 0 by omega]; rfl
theorem contD_stop {k m : Nat} {s : List UInt8} (h : ¬ (k < 20 ∧ (k = 0 ∨ 0 < m))) : contD k m s = s := if_neg h
theorem dig_u8 (m : Nat) : IntKind.u8.wrap (IntKind.u64.wrap (48 + (m : Int) % 10)) = ((48 + m % 10 : Nat) : Int) := by
  rw [u64_in _ (by omega), IntKind.wrap_u8]; omega
def rdigA (n : Nat) : List Vm.Data := [.int .u64 (n : Int)]
noncomputable def rdigF : PFn := PFn.of rdigA (fun n => n ≤ 18446744073709551615) (fun n => [.str (dec n)])
theorem rdig_inj (x y : Nat) (h : rdigA x = rdigA y) : x = y := by
  simpa [rdigA, Prod.ext_iff, numsD_inj, bytesD_inj, Vm.Data.lst.injEq, Int.natCast_inj] using h
@[go_sem] theorem rdig_pre (n : Nat) : rdigF.pre [.int .u64 (n : Int)] = (n ≤ 18446744073709551615) := PFn.of_pre rdig_inj n
@[go_sem] theorem rdig_res (n : Nat) : rdigF.res [.int .u64 (n : Int)] = [.str (dec n)] := PFn.of_res rdig_inj n
theorem rdig_ok : Pure E 28 rdigF := by
  apply Pure.of_body (rs := [.tmp 2]) (n := 28) Tryd.func28 rfl rfl rfl
  intro ds hds
  obtain ⟨n, rfl, hds⟩ := hds
  (try dsimp only at hds)
  rw [show rdigF.res (rdigA n) = [.str (dec n)] from rdig_res n]
  have hn := hds
  refine ⟨Nat.le_of_ble_eq_true rfl, ?_⟩
  show VC E none _ (pureSt 28 [.int .u64 (n : Int)]) _
  apply VC.regt sound_nil [0]; intro K' hK; dsimp only [List.take, List.drop, List.map, strip, stripG]; simp -implicitDefEqProofs only [go_sem, Nat.reduceLT, Nat.reduceAdd, Nat.reduceEqDiff, reduceIte, Nat.reduceMul, Nat.reduceSub, reduceCtorEq, Int.reduceNe, Int.reduceEq, ne_eq, Nat.reduceLeDiff, Nat.reduceMod, Nat.reduceDiv]
  (repeat' first | (refine hK _ ?_; clear hK K') | with_reducible apply And.intro | (simp -implicitDefEqProofs (disch := omega) only [u64_in, i64_in, List.length_cons, List.length_nil, Nat.reduceAdd]; done) | omega)
  all_goals
    apply VC.at
    · simp -implicitDefEqProofs only [go_sem, Nat.reduceLT, Nat.reduceAdd, Nat.reduceEqDiff, reduceIte, Nat.reduceMul, Nat.reduceSub, reduceCtorEq, Int.reduceNe, Int.reduceEq, ne_eq, Nat.reduceLeDiff, Nat.reduceMod, Nat.reduceDiv]; (try simp (disch := omega) only [i64_in, tmodn, tdivn]); exact rfl
    apply VC.regt sound_nil [0, 3]; intro K' hK; dsimp only [List.take, List.drop, List.map, strip, stripG]; simp -implicitDefEqProofs only [go_sem, Nat.reduceLT, Nat.reduceAdd, Nat.reduceEqDiff, reduceIte, Nat.reduceMul, Nat.reduceSub, reduceCtorEq, Int.reduceNe, Int.reduceEq, ne_eq, Nat.reduceLeDiff, Nat.reduceMod, Nat.reduceDiv]
    (repeat' first | (refine hK _ ?_; clear hK K') | with_reducible apply And.intro | (simp -implicitDefEqProofs (disch := omega) only [u64_in, i64_in, List.length_cons, List.length_nil, Nat.reduceAdd]; done) | omega)
    all_goals
      apply VC.at
      · simp -implicitDefEqProofs only [go_sem, Nat.reduceLT, Nat.reduceAdd, Nat.reduceEqDiff, reduceIte, Nat.reduceMul, Nat.reduceSub, reduceCtorEq, Int.reduceNe, Int.reduceEq, ne_eq, Nat.reduceLeDiff, Nat.reduceMod, Nat.reduceDiv]; (try simp (disch := omega) only [i64_in, tmodn, tdivn]); exact rfl
      apply VC.seq
      apply VC.regt sound_nil [0, 3, 4]; intro K' hK; dsimp only [List.take, List.drop, List.map, strip, stripG]; simp -implicitDefEqProofs only [go_sem, Nat.reduceLT, Nat.reduceAdd, Nat.reduceEqDiff, reduceIte, Nat.reduceMul, Nat.reduceSub, reduceCtorEq, Int.reduceNe, Int.reduceEq, ne_eq, Nat.reduceLeDiff, Nat.reduceMod, Nat.reduceDiv]
      (repeat' first | (refine hK _ ?_; clear hK K') | with_reducible apply And.intro | (simp -implicitDefEqProofs (disch := omega) only [u64_in, i64_in, List.length_cons, List.length_nil, Nat.reduceAdd]; done) | omega)
      all_goals
        apply VC.at
        · simp -implicitDefEqProofs only [go_sem, Nat.reduceLT, Nat.reduceAdd, Nat.reduceEqDiff, reduceIte, Nat.reduceMul, Nat.reduceSub, reduceCtorEq, Int.reduceNe, Int.reduceEq, ne_eq, Nat.reduceLeDiff, Nat.reduceMod, Nat.reduceDiv]; (try simp (disch := omega) only [i64_in, tmodn, tdivn]); exact rfl
        apply VC.block
        refine VC.loopP (ι := Nat × Nat × List UInt8) [] (fun i => [(4, .dat (.int .i64 (i.1 : Int))), (0, .dat (.int .u64 (i.2.1 : Int))), (3, .dat (.str i.2.2))]) (fun _ => []) (fun i => i.1 ≤ 20 ∧ i.2.2.length ≤ i.1 ∧ i.2.1 ≤ 18446744073709551615 ∧ contD i.1 i.2.1 i.2.2 = dec n) (fun i => 20 - i.1) (0, n, []) ?_ ?_ ?_
        · exact ⟨Nat.zero_le _, Nat.le_refl _, hn, rfl⟩
        · refine Ent.to rfl rfl rfl ?_ ?_ <;> (simp -implicitDefEqProofs only [go_sem, Nat.reduceLT, Nat.reduceAdd, Nat.reduceEqDiff, reduceIte, Nat.reduceMul, Nat.reduceSub, reduceCtorEq, Int.reduceNe, Int.reduceEq, ne_eq, Nat.reduceLeDiff, Nat.reduceMod, Nat.reduceDiv]; (try simp only [D.dat.injEq, Vm.Data.int.injEq, true_and, and_true, and_self, eq_self]); (try omega); (try ((repeat' apply And.intro) <;> first | omega | rfl)))
        · rintro ⟨k, m, s⟩ hp; (try dsimp only at hp); obtain ⟨hk, hs, hm, hc⟩ := hp
          apply VC.at
          · simp -implicitDefEqProofs only [go_sem, Nat.reduceLT, Nat.reduceAdd, Nat.reduceEqDiff, reduceIte, Nat.reduceMul, Nat.reduceSub, reduceCtorEq, Int.reduceNe, Int.reduceEq, ne_eq, Nat.reduceLeDiff, Nat.reduceMod, Nat.reduceDiv]; (try simp (disch := omega) only [i64_in, tmodn, tdivn]); exact rfl
          apply VC.seq
          apply VC.regt sound_nil [0, 3, 4, 14]; intro K' hK; dsimp only [List.take, List.drop, List.map, strip, stripG]; simp only [gtmp, List.getElem?_toArray, List.getElem?_cons_succ, List.getElem?_cons_zero, Option.bind_some]; simp -implicitDefEqProofs only [go_sem, Nat.reduceLT, Nat.reduceAdd, Nat.reduceEqDiff, reduceIte, Nat.reduceMul, Nat.reduceSub, reduceCtorEq, Int.reduceNe, Int.reduceEq, ne_eq, Nat.reduceLeDiff, Nat.reduceMod, Nat.reduceDiv]
          (repeat' first | (refine hK _ ?_; clear hK K') | (first | apply goB_splitD | apply goA_splitD | apply goB_split | apply goA_split | apply goA_all) <;> intro _ <;> simp -implicitDefEqProofs only [go_sem, Nat.reduceLT, Nat.reduceAdd, Nat.reduceEqDiff, reduceIte, Nat.reduceMul, Nat.reduceSub, reduceCtorEq, Int.reduceNe, Int.reduceEq, ne_eq, Nat.reduceLeDiff, Nat.reduceMod, Nat.reduceDiv] | with_reducible apply And.intro | (simp -implicitDefEqProofs (disch := omega) only [u64_in, i64_in, List.length_cons, List.length_nil, Nat.reduceAdd]; done) | omega)
          all_goals
            apply VC.at
            · simp -implicitDefEqProofs only [go_sem, Nat.reduceLT, Nat.reduceAdd, Nat.reduceEqDiff, reduceIte, Nat.reduceMul, Nat.reduceSub, reduceCtorEq, Int.reduceNe, Int.reduceEq, ne_eq, Nat.reduceLeDiff, Nat.reduceMod, Nat.reduceDiv]; (try simp (disch := omega) only [i64_in, tmodn, tdivn]); exact rfl
            first | (apply VC.condd; (focus (simp -implicitDefEqProofs only [go_sem, Nat.reduceLT, Nat.reduceAdd, Nat.reduceEqDiff, reduceIte, Nat.reduceMul, Nat.reduceSub, reduceCtorEq, Int.reduceNe, Int.reduceEq, ne_eq, Nat.reduceLeDiff, Nat.reduceMod, Nat.reduceDiv]; with_reducible exact rfl))) | (apply VC.condn; (focus (simp -implicitDefEqProofs only [go_sem, Nat.reduceLT, Nat.reduceAdd, Nat.reduceEqDiff, reduceIte, Nat.reduceMul, Nat.reduceSub, reduceCtorEq, Int.reduceNe, Int.reduceEq, ne_eq, Nat.reduceLeDiff, Nat.reduceMod, Nat.reduceDiv]; with_reducible exact rfl))) | (apply VC.condt; (focus (simp -implicitDefEqProofs only [go_sem, Nat.reduceLT, Nat.reduceAdd, Nat.reduceEqDiff, reduceIte, Nat.reduceMul, Nat.reduceSub, reduceCtorEq, Int.reduceNe, Int.reduceEq, ne_eq, Nat.reduceLeDiff, Nat.reduceMod, Nat.reduceDiv]; with_reducible exact rfl))) | (apply VC.condb; (focus (simp -implicitDefEqProofs only [go_sem, Nat.reduceLT, Nat.reduceAdd, Nat.reduceEqDiff, reduceIte, Nat.reduceMul, Nat.reduceSub, reduceCtorEq, Int.reduceNe, Int.reduceEq, ne_eq, Nat.reduceLeDiff, Nat.reduceMod, Nat.reduceDiv]; exact rfl)))
            · intro h; try exact absurd h (by decide)
              all_goals
                apply VC.skip
                refine thenK_n ?_
                apply VC.seq
                apply VC.block
                apply VC.regt sound_nil [0, 3, 4]; intro K' hK; dsimp only [List.take, List.drop, List.map, strip, stripG]; simp -implicitDefEqProofs only [go_sem, Nat.reduceLT, Nat.reduceAdd, Nat.reduceEqDiff, reduceIte, Nat.reduceMul, Nat.reduceSub, reduceCtorEq, Int.reduceNe, Int.reduceEq, ne_eq, Nat.reduceLeDiff, Nat.reduceMod, Nat.reduceDiv]
                (repeat' first | (refine hK _ ?_; clear hK K') | with_reducible apply And.intro | (simp -implicitDefEqProofs (disch := omega) only [u64_in, i64_in, List.length_cons, List.length_nil, Nat.reduceAdd]; done) | omega)
                all_goals
                  apply VC.at
                  · simp -implicitDefEqProofs only [go_sem, Nat.reduceLT, Nat.reduceAdd, Nat.reduceEqDiff, reduceIte, Nat.reduceMul, Nat.reduceSub, reduceCtorEq, Int.reduceNe, Int.reduceEq, ne_eq, Nat.reduceLeDiff, Nat.reduceMod, Nat.reduceDiv]; (try simp (disch := omega) only [i64_in, tmodn, tdivn]); (try simp only [dig_u8]); exact rfl
                  apply VC.regLast sound_nil; intro K' hK; dsimp only [List.take, List.drop, List.map, strip, stripG]; simp -implicitDefEqProofs only [go_sem, Nat.reduceLT, Nat.reduceAdd, Nat.reduceEqDiff, reduceIte, Nat.reduceMul, Nat.reduceSub, reduceCtorEq, Int.reduceNe, Int.reduceEq, ne_eq, Nat.reduceLeDiff, Nat.reduceMod, Nat.reduceDiv]
                  (repeat' first | (refine hK _ ?_; clear hK K') | with_reducible apply And.intro | (simp -implicitDefEqProofs (disch := omega) only [u64_in, i64_in, List.length_cons, List.length_nil, Nat.reduceAdd]; done) | omega)
                  all_goals
                    refine blockK_n ?_
                    refine thenK_n ?_
                    apply VC.regLast sound_nil; intro K' hK; dsimp only [List.take, List.drop, List.map, strip, stripG]; simp -implicitDefEqProofs only [go_sem, Nat.reduceLT, Nat.reduceAdd, Nat.reduceEqDiff, reduceIte, Nat.reduceMul, Nat.reduceSub, reduceCtorEq, Int.reduceNe, Int.reduceEq, ne_eq, Nat.reduceLeDiff, Nat.reduceMod, Nat.reduceDiv]
                    (repeat' first | (refine hK _ ?_; clear hK K') | with_reducible apply And.intro | (simp -implicitDefEqProofs (disch := omega) only [u64_in, i64_in, List.length_cons, List.length_nil, Nat.reduceAdd]; done) | omega)
                    all_goals
                      refine thenK_n ?_
                      refine ⟨(k + 1, m / 10, UInt8.ofNat (48 + m % 10) :: s), ?_, Ent.to rfl rfl rfl ?_ ?_, ?_⟩
                      · dsimp only; exact ⟨by omega, by simp only [List.length_cons]; omega, by omega, by rw [contD_step (by omega) (by omega)]; exact hc⟩
                      · simp -implicitDefEqProofs only [go_sem, Nat.reduceLT, Nat.reduceAdd, Nat.reduceEqDiff, reduceIte, Nat.reduceMul, Nat.reduceSub, reduceCtorEq, Int.reduceNe, Int.reduceEq, ne_eq, Nat.reduceLeDiff, Nat.reduceMod, Nat.reduceDiv]; (try simp (disch := omega) only [i64_in, tmodn, tdivn]); (try simp (disch := omega) only [dig_u8, u64_in]); (try simp -implicitDefEqProofs only [go_sem, Nat.reduceLT, Nat.reduceAdd, Nat.reduceEqDiff, reduceIte, Nat.reduceMul, Nat.reduceSub, reduceCtorEq, Int.reduceNe, Int.reduceEq, ne_eq, Nat.reduceLeDiff, Nat.reduceMod, Nat.reduceDiv]); (try simp only [D.dat.injEq, Vm.Data.int.injEq, Vm.Data.str.injEq, true_and, and_true, and_self, eq_self]); first | omega | (refine ⟨?_, ?_⟩ <;> first | omega | rfl)
                      · simp -implicitDefEqProofs only [go_sem, Nat.reduceLT, Nat.reduceAdd, Nat.reduceEqDiff, reduceIte, Nat.reduceMul, Nat.reduceSub, reduceCtorEq, Int.reduceNe, Int.reduceEq, ne_eq, Nat.reduceLeDiff, Nat.reduceMod, Nat.reduceDiv]; (try simp (disch := omega) only [i64_in, tmodn, tdivn]); (try simp only [D.dat.injEq, Vm.Data.int.injEq, true_and, and_true, and_self, eq_self]); (try omega); (try ((repeat' apply And.intro) <;> first | omega | rfl))
                      · dsimp only; omega
            · intro h; try exact absurd h (by decide)
              all_goals
                apply VC.exit
                refine thenK_e ?_
                refine thenK_e ?_
                refine blockK_e ?_
                refine thenK_n ?_
                apply VC.regt sound_nil [2]; intro K' hK; dsimp only [List.take, List.drop, List.map, strip, stripG]; simp -implicitDefEqProofs only [go_sem, Nat.reduceLT, Nat.reduceAdd, Nat.reduceEqDiff, reduceIte, Nat.reduceMul, Nat.reduceSub, reduceCtorEq, Int.reduceNe, Int.reduceEq, ne_eq, Nat.reduceLeDiff, Nat.reduceMod, Nat.reduceDiv]
                (repeat' first | (refine hK _ ?_; clear hK K') | with_reducible apply And.intro | (simp -implicitDefEqProofs (disch := omega) only [u64_in, i64_in, List.length_cons, List.length_nil, Nat.reduceAdd]; done) | omega)
                all_goals
                  apply VC.at
                  · simp -implicitDefEqProofs only [go_sem, Nat.reduceLT, Nat.reduceAdd, Nat.reduceEqDiff, reduceIte, Nat.reduceMul, Nat.reduceSub, reduceCtorEq, Int.reduceNe, Int.reduceEq, ne_eq, Nat.reduceLeDiff, Nat.reduceMod, Nat.reduceDiv]; (try simp (disch := omega) only [i64_in, tmodn, tdivn]); exact rfl
                  apply VC.ret
                  simp -implicitDefEqProofs only [go_sem, Nat.reduceLT, Nat.reduceAdd, Nat.reduceEqDiff, reduceIte, Nat.reduceMul, Nat.reduceSub, reduceCtorEq, Int.reduceNe, Int.reduceEq, ne_eq, Nat.reduceLeDiff, Nat.reduceMod, Nat.reduceDiv]
                  all_goals (first | (rw [← hc, contD_stop (by omega)]; done))
end Go.Proofs.YtgfadocohpinmaaDoor.Oa
namespace Go.Proofs.YtgfadocohpinmaaDoor.Oa
open Go Go.RowKit Go.Proofs.YtgfadocohpinmaaDoor.Vm Go.IntWalk
set_option maxRecDepth 100000
set_option maxHeartbeats 4000000
noncomputable def ΦT1 : Fns := tab [(12, rmayF), (28, rdigF)]
theorem ΦT1_ok : Sound E ΦT1 := sound_cons (by kernel_rfl) rmay_ok (sound_cons (by kernel_rfl) rdig_ok (sound_nil))
@[go_sem] theorem ΦT1_12 : ΦT1 12 = some rmayF := rfl
@[go_sem] theorem ΦT1_28 : ΦT1 28 = some rdigF := rfl
def textN (l : List Nat) (k : Nat) : List UInt8 := (List.range k).flatMap fun i => (if 0 < i then [46] else []) ++ dec (l.getD i 0)
def textS (l : List Nat) : List UInt8 := textN l l.length
theorem textN_zero (l : List Nat) : textN l 0 = [] := rfl
theorem textN_succ (l : List Nat) (k : Nat) : textN l (k + 1) = textN l k ++ ((if 0 < k then [46] else []) ++ dec (l.getD k 0)) := by simp [textN, List.range_succ]
theorem decS_len (f n : Nat) (s : List UInt8) : (decS f n s).length ≤ f + s.length := by
  induction f generalizing n s with
  | zero => simp [decS]
  | succ f ih =>
    simp only [decS]
    split
    · simp only [List.length_cons]; omega
    · have := ih (n / 10) (UInt8.ofNat (48 + n % 10) :: s); simp only [List.length_cons] at this; omega
theorem dec_len (n : Nat) : (dec n).length ≤ 20 := by have := decS_len 20 n []; simpa [dec] using this
theorem textN_len (l : List Nat) (k : Nat) : (textN l k).length ≤ 21 * k := by
  induction k with
  | zero => simp [textN_zero]
  | succ k ih =>
    rw [textN_succ, List.length_append, List.length_append]
    have := dec_len (l.getD k 0)
    have : (if 0 < k then ([46] : List UInt8) else []).length ≤ 1 := by split <;> simp
    omega
def rtextA (l : List Nat) : List Vm.Data := [.lst (numsD l)]
noncomputable def rtextF : PFn := PFn.of rtextA (fun l => l.length ≤ 4611686018427387904) (fun l => [.str (if may l then textS l else []), .int .i64 (if may l then 0 else 140)])
theorem rtext_inj (x y : List Nat) (h : rtextA x = rtextA y) : x = y := by
  simpa [rtextA, Prod.ext_iff, numsD_inj, bytesD_inj, Vm.Data.lst.injEq, Int.natCast_inj] using h
@[go_sem] theorem rtext_pre (l : List Nat) : rtextF.pre [.lst (numsD l)] = (l.length ≤ 4611686018427387904) := PFn.of_pre rtext_inj l
@[go_sem] theorem rtext_res (l : List Nat) : rtextF.res [.lst (numsD l)] = [.str (if may l then textS l else []), .int .i64 (if may l then 0 else 140)] := PFn.of_res rtext_inj l
theorem rtext_ok : Pure E 9 rtextF := by
  apply Pure.of_body (rs := [.tmp 2, .tmp 3]) (n := 29) Tryd.func9 rfl rfl rfl
  intro ds hds
  obtain ⟨l, rfl, hds⟩ := hds
  (try dsimp only at hds)
  rw [show rtextF.res (rtextA l) = [.str (if may l then textS l else []), .int .i64 (if may l then 0 else 140)] from rtext_res l]
  skip
  refine ⟨Nat.le_of_ble_eq_true rfl, ?_⟩
  show VC E none _ (pureSt 29 [.lst (numsD l)]) _
  apply VC.regt ΦT1_ok [0]; intro K' hK; dsimp only [List.take, List.drop, List.map, strip, stripG]; simp -implicitDefEqProofs only [go_sem, Nat.reduceLT, Nat.reduceAdd, Nat.reduceEqDiff, reduceIte, Nat.reduceMul, Nat.reduceSub, reduceCtorEq, Int.reduceNe, Int.reduceEq, ne_eq, Nat.reduceLeDiff, Nat.reduceMod, Nat.reduceDiv]
  (repeat' first | (refine hK _ ?_; clear hK K') | with_reducible apply And.intro | (simp -implicitDefEqProofs (disch := omega) only [numsD_at, i64_in, u64_in, List.length_cons, List.length_nil, Nat.reduceAdd]; done) | (simp only [maxLen]; omega) | omega | (simp only [List.length_append, List.length_cons, List.length_nil]; omega))
  all_goals
    apply VC.at
    · simp -implicitDefEqProofs only [go_sem, Nat.reduceLT, Nat.reduceAdd, Nat.reduceEqDiff, reduceIte, Nat.reduceMul, Nat.reduceSub, reduceCtorEq, Int.reduceNe, Int.reduceEq, ne_eq, Nat.reduceLeDiff, Nat.reduceMod, Nat.reduceDiv]; (try simp (disch := omega) only [i64_in, tmodn, tdivn]); exact rfl
    apply VC.regt ΦT1_ok [0, 4]; intro K' hK; dsimp only [List.take, List.drop, List.map, strip, stripG]; simp -implicitDefEqProofs only [go_sem, Nat.reduceLT, Nat.reduceAdd, Nat.reduceEqDiff, reduceIte, Nat.reduceMul, Nat.reduceSub, reduceCtorEq, Int.reduceNe, Int.reduceEq, ne_eq, Nat.reduceLeDiff, Nat.reduceMod, Nat.reduceDiv]
    (repeat' first | (refine hK _ ?_; clear hK K') | ((first | with_reducible refine runA_id ?_ | with_reducible refine goA_id ?_); simp -implicitDefEqProofs (disch := omega) only [numsD_at, i64_in, u64_in]; simp -implicitDefEqProofs only [go_sem, Nat.reduceLT, Nat.reduceAdd, Nat.reduceEqDiff, reduceIte, Nat.reduceMul, Nat.reduceSub, reduceCtorEq, Int.reduceNe, Int.reduceEq, ne_eq, Nat.reduceLeDiff, Nat.reduceMod, Nat.reduceDiv]) | with_reducible apply And.intro | (simp -implicitDefEqProofs (disch := omega) only [numsD_at, i64_in, u64_in, List.length_cons, List.length_nil, Nat.reduceAdd]; done) | (simp only [maxLen]; omega) | omega | (simp only [List.length_append, List.length_cons, List.length_nil]; omega))
    all_goals
      apply VC.at
      · simp -implicitDefEqProofs only [go_sem, Nat.reduceLT, Nat.reduceAdd, Nat.reduceEqDiff, reduceIte, Nat.reduceMul, Nat.reduceSub, reduceCtorEq, Int.reduceNe, Int.reduceEq, ne_eq, Nat.reduceLeDiff, Nat.reduceMod, Nat.reduceDiv]; (try simp (disch := omega) only [i64_in, tmodn, tdivn]); exact rfl
      apply VC.seq
      apply VC.regt ΦT1_ok [0, 10]; intro K' hK; dsimp only [List.take, List.drop, List.map, strip, stripG]; simp -implicitDefEqProofs only [go_sem, Nat.reduceLT, Nat.reduceAdd, Nat.reduceEqDiff, reduceIte, Nat.reduceMul, Nat.reduceSub, reduceCtorEq, Int.reduceNe, Int.reduceEq, ne_eq, Nat.reduceLeDiff, Nat.reduceMod, Nat.reduceDiv]
      (repeat' first | (refine hK _ ?_; clear hK K') | with_reducible apply And.intro | (simp -implicitDefEqProofs (disch := omega) only [numsD_at, i64_in, u64_in, List.length_cons, List.length_nil, Nat.reduceAdd]; done) | (simp only [maxLen]; omega) | omega | (simp only [List.length_append, List.length_cons, List.length_nil]; omega))
      all_goals
        apply VC.at
        · simp -implicitDefEqProofs only [go_sem, Nat.reduceLT, Nat.reduceAdd, Nat.reduceEqDiff, reduceIte, Nat.reduceMul, Nat.reduceSub, reduceCtorEq, Int.reduceNe, Int.reduceEq, ne_eq, Nat.reduceLeDiff, Nat.reduceMod, Nat.reduceDiv]; (try simp (disch := omega) only [i64_in, tmodn, tdivn]); exact rfl
        first | (apply VC.condd; (focus (simp -implicitDefEqProofs only [go_sem, Nat.reduceLT, Nat.reduceAdd, Nat.reduceEqDiff, reduceIte, Nat.reduceMul, Nat.reduceSub, reduceCtorEq, Int.reduceNe, Int.reduceEq, ne_eq, Nat.reduceLeDiff, Nat.reduceMod, Nat.reduceDiv]; with_reducible exact rfl))) | (apply VC.condn; (focus (simp -implicitDefEqProofs only [go_sem, Nat.reduceLT, Nat.reduceAdd, Nat.reduceEqDiff, reduceIte, Nat.reduceMul, Nat.reduceSub, reduceCtorEq, Int.reduceNe, Int.reduceEq, ne_eq, Nat.reduceLeDiff, Nat.reduceMod, Nat.reduceDiv]; with_reducible exact rfl))) | (apply VC.condt; (focus (simp -implicitDefEqProofs only [go_sem, Nat.reduceLT, Nat.reduceAdd, Nat.reduceEqDiff, reduceIte, Nat.reduceMul, Nat.reduceSub, reduceCtorEq, Int.reduceNe, Int.reduceEq, ne_eq, Nat.reduceLeDiff, Nat.reduceMod, Nat.reduceDiv]; with_reducible exact rfl))) | (apply VC.condb; (focus (simp -implicitDefEqProofs only [go_sem, Nat.reduceLT, Nat.reduceAdd, Nat.reduceEqDiff, reduceIte, Nat.reduceMul, Nat.reduceSub, reduceCtorEq, Int.reduceNe, Int.reduceEq, ne_eq, Nat.reduceLeDiff, Nat.reduceMod, Nat.reduceDiv]; exact rfl)))
        · intro h; try exact absurd h (by decide)
          all_goals
            apply VC.regt ΦT1_ok [2, 3]; intro K' hK; dsimp only [List.take, List.drop, List.map, strip, stripG]; simp -implicitDefEqProofs only [go_sem, Nat.reduceLT, Nat.reduceAdd, Nat.reduceEqDiff, reduceIte, Nat.reduceMul, Nat.reduceSub, reduceCtorEq, Int.reduceNe, Int.reduceEq, ne_eq, Nat.reduceLeDiff, Nat.reduceMod, Nat.reduceDiv]
            (repeat' first | (refine hK _ ?_; clear hK K') | with_reducible apply And.intro | (simp -implicitDefEqProofs (disch := omega) only [numsD_at, i64_in, u64_in, List.length_cons, List.length_nil, Nat.reduceAdd]; done) | (simp only [maxLen]; omega) | omega | (simp only [List.length_append, List.length_cons, List.length_nil]; omega))
            all_goals
              apply VC.at
              · simp -implicitDefEqProofs only [go_sem, Nat.reduceLT, Nat.reduceAdd, Nat.reduceEqDiff, reduceIte, Nat.reduceMul, Nat.reduceSub, reduceCtorEq, Int.reduceNe, Int.reduceEq, ne_eq, Nat.reduceLeDiff, Nat.reduceMod, Nat.reduceDiv]; (try simp (disch := omega) only [i64_in, tmodn, tdivn]); exact rfl
              apply VC.ret
              refine thenK_r ?_
              simp -implicitDefEqProofs only [go_sem, Nat.reduceLT, Nat.reduceAdd, Nat.reduceEqDiff, reduceIte, Nat.reduceMul, Nat.reduceSub, reduceCtorEq, Int.reduceNe, Int.reduceEq, ne_eq, Nat.reduceLeDiff, Nat.reduceMod, Nat.reduceDiv]
              all_goals (first | (rw [show may l = false by simpa using h]; rfl) | (rw [show k = l.length by omega, if_pos hm, if_pos hm]; rfl))
        · intro h; try exact absurd h (by decide)
          all_goals
            apply VC.skip
            refine thenK_n ?_
            have hm : may l = true := by simpa using h
            have hml := of_decide_eq_true hm
            apply VC.regt ΦT1_ok [0, 5]; intro K' hK; dsimp only [List.take, List.drop, List.map, strip, stripG]; simp -implicitDefEqProofs only [go_sem, Nat.reduceLT, Nat.reduceAdd, Nat.reduceEqDiff, reduceIte, Nat.reduceMul, Nat.reduceSub, reduceCtorEq, Int.reduceNe, Int.reduceEq, ne_eq, Nat.reduceLeDiff, Nat.reduceMod, Nat.reduceDiv]
            (repeat' first | (refine hK _ ?_; clear hK K') | with_reducible apply And.intro | (simp -implicitDefEqProofs (disch := omega) only [numsD_at, i64_in, u64_in, List.length_cons, List.length_nil, Nat.reduceAdd]; done) | (simp only [maxLen]; omega) | omega | (simp only [List.length_append, List.length_cons, List.length_nil]; omega))
            all_goals
              apply VC.at
              · simp -implicitDefEqProofs only [go_sem, Nat.reduceLT, Nat.reduceAdd, Nat.reduceEqDiff, reduceIte, Nat.reduceMul, Nat.reduceSub, reduceCtorEq, Int.reduceNe, Int.reduceEq, ne_eq, Nat.reduceLeDiff, Nat.reduceMod, Nat.reduceDiv]; (try simp (disch := omega) only [i64_in, tmodn, tdivn]); exact rfl
              apply VC.seq
              apply VC.regt ΦT1_ok [0, 5, 6]; intro K' hK; dsimp only [List.take, List.drop, List.map, strip, stripG]; simp -implicitDefEqProofs only [go_sem, Nat.reduceLT, Nat.reduceAdd, Nat.reduceEqDiff, reduceIte, Nat.reduceMul, Nat.reduceSub, reduceCtorEq, Int.reduceNe, Int.reduceEq, ne_eq, Nat.reduceLeDiff, Nat.reduceMod, Nat.reduceDiv]
              (repeat' first | (refine hK _ ?_; clear hK K') | with_reducible apply And.intro | (simp -implicitDefEqProofs (disch := omega) only [numsD_at, i64_in, u64_in, List.length_cons, List.length_nil, Nat.reduceAdd]; done) | (simp only [maxLen]; omega) | omega | (simp only [List.length_append, List.length_cons, List.length_nil]; omega))
              all_goals
                apply VC.at
                · simp -implicitDefEqProofs only [go_sem, Nat.reduceLT, Nat.reduceAdd, Nat.reduceEqDiff, reduceIte, Nat.reduceMul, Nat.reduceSub, reduceCtorEq, Int.reduceNe, Int.reduceEq, ne_eq, Nat.reduceLeDiff, Nat.reduceMod, Nat.reduceDiv]; (try simp (disch := omega) only [i64_in, tmodn, tdivn]); exact rfl
                apply VC.block
                refine VC.loopP (ι := Nat) [0] (fun i => [(6, .dat (.int .i64 (i : Int))), (5, .dat (.str (textN l i)))]) (fun _ => []) (fun i => i ≤ l.length) (fun i => l.length - i) 0 ?_ ?_ ?_
                · exact Nat.zero_le _
                · refine Ent.to rfl rfl rfl ?_ ?_ <;> (simp -implicitDefEqProofs only [go_sem, Nat.reduceLT, Nat.reduceAdd, Nat.reduceEqDiff, reduceIte, Nat.reduceMul, Nat.reduceSub, reduceCtorEq, Int.reduceNe, Int.reduceEq, ne_eq, Nat.reduceLeDiff, Nat.reduceMod, Nat.reduceDiv]; (try simp only [D.dat.injEq, Vm.Data.int.injEq, true_and, and_true, and_self, eq_self]); (try omega); (try ((repeat' apply And.intro) <;> first | omega | rfl)))
                · rintro k hp; (try dsimp only at hp); have hk := hp; have htl := textN_len l k; have hdl := dec_len (l.getD k 0)
                  apply VC.at
                  · simp -implicitDefEqProofs only [go_sem, Nat.reduceLT, Nat.reduceAdd, Nat.reduceEqDiff, reduceIte, Nat.reduceMul, Nat.reduceSub, reduceCtorEq, Int.reduceNe, Int.reduceEq, ne_eq, Nat.reduceLeDiff, Nat.reduceMod, Nat.reduceDiv]; (try simp (disch := omega) only [i64_in, tmodn, tdivn]); exact rfl
                  apply VC.seq
                  apply VC.regt ΦT1_ok [0, 5, 6, 14]; intro K' hK; dsimp only [List.take, List.drop, List.map, strip, stripG]; simp -implicitDefEqProofs only [go_sem, Nat.reduceLT, Nat.reduceAdd, Nat.reduceEqDiff, reduceIte, Nat.reduceMul, Nat.reduceSub, reduceCtorEq, Int.reduceNe, Int.reduceEq, ne_eq, Nat.reduceLeDiff, Nat.reduceMod, Nat.reduceDiv]
                  (repeat' first | (refine hK _ ?_; clear hK K') | with_reducible apply And.intro | (simp -implicitDefEqProofs (disch := omega) only [numsD_at, i64_in, u64_in, List.length_cons, List.length_nil, Nat.reduceAdd]; done) | (simp only [maxLen]; omega) | omega | (simp only [List.length_append, List.length_cons, List.length_nil]; omega))
                  all_goals
                    apply VC.at
                    · simp -implicitDefEqProofs only [go_sem, Nat.reduceLT, Nat.reduceAdd, Nat.reduceEqDiff, reduceIte, Nat.reduceMul, Nat.reduceSub, reduceCtorEq, Int.reduceNe, Int.reduceEq, ne_eq, Nat.reduceLeDiff, Nat.reduceMod, Nat.reduceDiv]; (try simp (disch := omega) only [i64_in, tmodn, tdivn]); exact rfl
                    first | (apply VC.condd; (focus (simp -implicitDefEqProofs only [go_sem, Nat.reduceLT, Nat.reduceAdd, Nat.reduceEqDiff, reduceIte, Nat.reduceMul, Nat.reduceSub, reduceCtorEq, Int.reduceNe, Int.reduceEq, ne_eq, Nat.reduceLeDiff, Nat.reduceMod, Nat.reduceDiv]; with_reducible exact rfl))) | (apply VC.condn; (focus (simp -implicitDefEqProofs only [go_sem, Nat.reduceLT, Nat.reduceAdd, Nat.reduceEqDiff, reduceIte, Nat.reduceMul, Nat.reduceSub, reduceCtorEq, Int.reduceNe, Int.reduceEq, ne_eq, Nat.reduceLeDiff, Nat.reduceMod, Nat.reduceDiv]; with_reducible exact rfl))) | (apply VC.condt; (focus (simp -implicitDefEqProofs only [go_sem, Nat.reduceLT, Nat.reduceAdd, Nat.reduceEqDiff, reduceIte, Nat.reduceMul, Nat.reduceSub, reduceCtorEq, Int.reduceNe, Int.reduceEq, ne_eq, Nat.reduceLeDiff, Nat.reduceMod, Nat.reduceDiv]; with_reducible exact rfl))) | (apply VC.condb; (focus (simp -implicitDefEqProofs only [go_sem, Nat.reduceLT, Nat.reduceAdd, Nat.reduceEqDiff, reduceIte, Nat.reduceMul, Nat.reduceSub, reduceCtorEq, Int.reduceNe, Int.reduceEq, ne_eq, Nat.reduceLeDiff, Nat.reduceMod, Nat.reduceDiv]; exact rfl)))
                    · intro h; try exact absurd h (by decide)
                      all_goals
                        apply VC.skip
                        refine thenK_n ?_
                        apply VC.seq
                        apply VC.block
                        apply VC.seq
                        apply VC.regt ΦT1_ok [0, 5, 6, 18]; intro K' hK; dsimp only [List.take, List.drop, List.map, strip, stripG]; simp -implicitDefEqProofs only [go_sem, Nat.reduceLT, Nat.reduceAdd, Nat.reduceEqDiff, reduceIte, Nat.reduceMul, Nat.reduceSub, reduceCtorEq, Int.reduceNe, Int.reduceEq, ne_eq, Nat.reduceLeDiff, Nat.reduceMod, Nat.reduceDiv]
                        (repeat' first | (refine hK _ ?_; clear hK K') | with_reducible apply And.intro | (simp -implicitDefEqProofs (disch := omega) only [numsD_at, i64_in, u64_in, List.length_cons, List.length_nil, Nat.reduceAdd]; done) | (simp only [maxLen]; omega) | omega | (simp only [List.length_append, List.length_cons, List.length_nil]; omega))
                        all_goals
                          apply VC.at
                          · simp -implicitDefEqProofs only [go_sem, Nat.reduceLT, Nat.reduceAdd, Nat.reduceEqDiff, reduceIte, Nat.reduceMul, Nat.reduceSub, reduceCtorEq, Int.reduceNe, Int.reduceEq, ne_eq, Nat.reduceLeDiff, Nat.reduceMod, Nat.reduceDiv]; (try simp (disch := omega) only [i64_in, tmodn, tdivn]); exact rfl
                          first | (apply VC.condd; (focus (simp -implicitDefEqProofs only [go_sem, Nat.reduceLT, Nat.reduceAdd, Nat.reduceEqDiff, reduceIte, Nat.reduceMul, Nat.reduceSub, reduceCtorEq, Int.reduceNe, Int.reduceEq, ne_eq, Nat.reduceLeDiff, Nat.reduceMod, Nat.reduceDiv]; with_reducible exact rfl))) | (apply VC.condn; (focus (simp -implicitDefEqProofs only [go_sem, Nat.reduceLT, Nat.reduceAdd, Nat.reduceEqDiff, reduceIte, Nat.reduceMul, Nat.reduceSub, reduceCtorEq, Int.reduceNe, Int.reduceEq, ne_eq, Nat.reduceLeDiff, Nat.reduceMod, Nat.reduceDiv]; with_reducible exact rfl))) | (apply VC.condt; (focus (simp -implicitDefEqProofs only [go_sem, Nat.reduceLT, Nat.reduceAdd, Nat.reduceEqDiff, reduceIte, Nat.reduceMul, Nat.reduceSub, reduceCtorEq, Int.reduceNe, Int.reduceEq, ne_eq, Nat.reduceLeDiff, Nat.reduceMod, Nat.reduceDiv]; with_reducible exact rfl))) | (apply VC.condb; (focus (simp -implicitDefEqProofs only [go_sem, Nat.reduceLT, Nat.reduceAdd, Nat.reduceEqDiff, reduceIte, Nat.reduceMul, Nat.reduceSub, reduceCtorEq, Int.reduceNe, Int.reduceEq, ne_eq, Nat.reduceLeDiff, Nat.reduceMod, Nat.reduceDiv]; exact rfl)))
                          · intro h; try exact absurd h (by decide)
                            all_goals
                              apply VC.regLast ΦT1_ok; intro K' hK; dsimp only [List.take, List.drop, List.map, strip, stripG]; simp -implicitDefEqProofs only [go_sem, Nat.reduceLT, Nat.reduceAdd, Nat.reduceEqDiff, reduceIte, Nat.reduceMul, Nat.reduceSub, reduceCtorEq, Int.reduceNe, Int.reduceEq, ne_eq, Nat.reduceLeDiff, Nat.reduceMod, Nat.reduceDiv]
                              (repeat' first | (refine hK _ ?_; clear hK K') | with_reducible apply And.intro | (simp -implicitDefEqProofs (disch := omega) only [numsD_at, i64_in, u64_in, List.length_cons, List.length_nil, Nat.reduceAdd]; done) | (simp only [maxLen]; omega) | omega | (simp only [List.length_append, List.length_cons, List.length_nil]; omega))
                              all_goals
                                refine thenK_n ?_
                                have hgk : l.getD k 0 ≤ 9223372036854775807 := Nat.le_trans (mx_ge l k (by omega)) hml.2.2.2.2.1
                                have hdl := dec_len (l.getD k 0)
                                apply VC.regLast ΦT1_ok; intro K' hK; dsimp only [List.take, List.drop, List.map, strip, stripG]; simp -implicitDefEqProofs only [go_sem, Nat.reduceLT, Nat.reduceAdd, Nat.reduceEqDiff, reduceIte, Nat.reduceMul, Nat.reduceSub, reduceCtorEq, Int.reduceNe, Int.reduceEq, ne_eq, Nat.reduceLeDiff, Nat.reduceMod, Nat.reduceDiv]
                                (repeat' first | (refine hK _ ?_; clear hK K') | ((first | with_reducible refine runA_id ?_ | with_reducible refine goA_id ?_); simp -implicitDefEqProofs (disch := omega) only [numsD_at, i64_in, u64_in]; simp -implicitDefEqProofs only [go_sem, Nat.reduceLT, Nat.reduceAdd, Nat.reduceEqDiff, reduceIte, Nat.reduceMul, Nat.reduceSub, reduceCtorEq, Int.reduceNe, Int.reduceEq, ne_eq, Nat.reduceLeDiff, Nat.reduceMod, Nat.reduceDiv]) | with_reducible apply And.intro | (simp -implicitDefEqProofs (disch := omega) only [numsD_at, i64_in, u64_in, List.length_cons, List.length_nil, Nat.reduceAdd]; done) | (simp only [maxLen]; omega) | omega | (simp only [List.length_append, List.length_cons, List.length_nil]; omega))
                                all_goals
                                  refine blockK_n ?_
                                  refine thenK_n ?_
                                  apply VC.regLast ΦT1_ok; intro K' hK; dsimp only [List.take, List.drop, List.map, strip, stripG]; simp -implicitDefEqProofs only [go_sem, Nat.reduceLT, Nat.reduceAdd, Nat.reduceEqDiff, reduceIte, Nat.reduceMul, Nat.reduceSub, reduceCtorEq, Int.reduceNe, Int.reduceEq, ne_eq, Nat.reduceLeDiff, Nat.reduceMod, Nat.reduceDiv]
                                  (repeat' first | (refine hK _ ?_; clear hK K') | with_reducible apply And.intro | (simp -implicitDefEqProofs (disch := omega) only [numsD_at, i64_in, u64_in, List.length_cons, List.length_nil, Nat.reduceAdd]; done) | (simp only [maxLen]; omega) | omega | (simp only [List.length_append, List.length_cons, List.length_nil]; omega))
                                  all_goals
                                    refine thenK_n ?_
                                    refine ⟨(k + 1), ?_, Ent.to rfl rfl rfl ?_ ?_, ?_⟩
                                    · omega
                                    · simp -implicitDefEqProofs only [go_sem, Nat.reduceLT, Nat.reduceAdd, Nat.reduceEqDiff, reduceIte, Nat.reduceMul, Nat.reduceSub, reduceCtorEq, Int.reduceNe, Int.reduceEq, ne_eq, Nat.reduceLeDiff, Nat.reduceMod, Nat.reduceDiv]; (try simp (disch := omega) only [i64_in, tmodn, tdivn]); (try simp only [D.dat.injEq, Vm.Data.int.injEq, Vm.Data.str.injEq, true_and, and_true, and_self, eq_self]); first | (refine ⟨by omega, ?_⟩; rw [textN_succ]; first | (rw [if_pos (by omega)]; simp) | (rw [if_neg (by omega)]; simp))
                                    · simp -implicitDefEqProofs only [go_sem, Nat.reduceLT, Nat.reduceAdd, Nat.reduceEqDiff, reduceIte, Nat.reduceMul, Nat.reduceSub, reduceCtorEq, Int.reduceNe, Int.reduceEq, ne_eq, Nat.reduceLeDiff, Nat.reduceMod, Nat.reduceDiv]; (try simp (disch := omega) only [i64_in, tmodn, tdivn]); (try simp only [D.dat.injEq, Vm.Data.int.injEq, true_and, and_true, and_self, eq_self]); (try omega); (try ((repeat' apply And.intro) <;> first | omega | rfl))
                                    · omega
                          · intro h; try exact absurd h (by decide)
                            all_goals
                              apply VC.skip
                              refine thenK_n ?_
                              have hgk : l.getD k 0 ≤ 9223372036854775807 := Nat.le_trans (mx_ge l k (by omega)) hml.2.2.2.2.1
                              have hdl := dec_len (l.getD k 0)
                              apply VC.regLast ΦT1_ok; intro K' hK; dsimp only [List.take, List.drop, List.map, strip, stripG]; simp -implicitDefEqProofs only [go_sem, Nat.reduceLT, Nat.reduceAdd, Nat.reduceEqDiff, reduceIte, Nat.reduceMul, Nat.reduceSub, reduceCtorEq, Int.reduceNe, Int.reduceEq, ne_eq, Nat.reduceLeDiff, Nat.reduceMod, Nat.reduceDiv]
                              (repeat' first | (refine hK _ ?_; clear hK K') | ((first | with_reducible refine runA_id ?_ | with_reducible refine goA_id ?_); simp -implicitDefEqProofs (disch := omega) only [numsD_at, i64_in, u64_in]; simp -implicitDefEqProofs only [go_sem, Nat.reduceLT, Nat.reduceAdd, Nat.reduceEqDiff, reduceIte, Nat.reduceMul, Nat.reduceSub, reduceCtorEq, Int.reduceNe, Int.reduceEq, ne_eq, Nat.reduceLeDiff, Nat.reduceMod, Nat.reduceDiv]) | with_reducible apply And.intro | (simp -implicitDefEqProofs (disch := omega) only [numsD_at, i64_in, u64_in, List.length_cons, List.length_nil, Nat.reduceAdd]; done) | (simp only [maxLen]; omega) | omega | (simp only [List.length_append, List.length_cons, List.length_nil]; omega))
                              all_goals
                                refine blockK_n ?_
                                refine thenK_n ?_
                                apply VC.regLast ΦT1_ok; intro K' hK; dsimp only [List.take, List.drop, List.map, strip, stripG]; simp -implicitDefEqProofs only [go_sem, Nat.reduceLT, Nat.reduceAdd, Nat.reduceEqDiff, reduceIte, Nat.reduceMul, Nat.reduceSub, reduceCtorEq, Int.reduceNe, Int.reduceEq, ne_eq, Nat.reduceLeDiff, Nat.reduceMod, Nat.reduceDiv]
                                (repeat' first | (refine hK _ ?_; clear hK K') | with_reducible apply And.intro | (simp -implicitDefEqProofs (disch := omega) only [numsD_at, i64_in, u64_in, List.length_cons, List.length_nil, Nat.reduceAdd]; done) | (simp only [maxLen]; omega) | omega | (simp only [List.length_append, List.length_cons, List.length_nil]; omega))
                                all_goals
                                  refine thenK_n ?_
                                  refine ⟨(k + 1), ?_, Ent.to rfl rfl rfl ?_ ?_, ?_⟩
                                  · omega
                                  · simp -implicitDefEqProofs only [go_sem, Nat.reduceLT, Nat.reduceAdd, Nat.reduceEqDiff, reduceIte, Nat.reduceMul, Nat.reduceSub, reduceCtorEq, Int.reduceNe, Int.reduceEq, ne_eq, Nat.reduceLeDiff, Nat.reduceMod, Nat.reduceDiv]; (try simp (disch := omega) only [i64_in, tmodn, tdivn]); (try simp only [D.dat.injEq, Vm.Data.int.injEq, Vm.Data.str.injEq, true_and, and_true, and_self, eq_self]); first | (refine ⟨by omega, ?_⟩; rw [textN_succ]; first | (rw [if_pos (by omega)]; simp) | (rw [if_neg (by omega)]; simp))
                                  · simp -implicitDefEqProofs only [go_sem, Nat.reduceLT, Nat.reduceAdd, Nat.reduceEqDiff, reduceIte, Nat.reduceMul, Nat.reduceSub, reduceCtorEq, Int.reduceNe, Int.reduceEq, ne_eq, Nat.reduceLeDiff, Nat.reduceMod, Nat.reduceDiv]; (try simp (disch := omega) only [i64_in, tmodn, tdivn]); (try simp only [D.dat.injEq, Vm.Data.int.injEq, true_and, and_true, and_self, eq_self]); (try omega); (try ((repeat' apply And.intro) <;> first | omega | rfl))
                                  · omega
                    · intro h; try exact absurd h (by decide)
                      all_goals
                        apply VC.exit
                        refine thenK_e ?_
                        refine thenK_e ?_
                        refine blockK_e ?_
                        refine thenK_n ?_
                        apply VC.regt ΦT1_ok [2, 3]; intro K' hK; dsimp only [List.take, List.drop, List.map, strip, stripG]; simp -implicitDefEqProofs only [go_sem, Nat.reduceLT, Nat.reduceAdd, Nat.reduceEqDiff, reduceIte, Nat.reduceMul, Nat.reduceSub, reduceCtorEq, Int.reduceNe, Int.reduceEq, ne_eq, Nat.reduceLeDiff, Nat.reduceMod, Nat.reduceDiv]
                        (repeat' first | (refine hK _ ?_; clear hK K') | with_reducible apply And.intro | (simp -implicitDefEqProofs (disch := omega) only [numsD_at, i64_in, u64_in, List.length_cons, List.length_nil, Nat.reduceAdd]; done) | (simp only [maxLen]; omega) | omega | (simp only [List.length_append, List.length_cons, List.length_nil]; omega))
                        all_goals
                          apply VC.at
                          · simp -implicitDefEqProofs only [go_sem, Nat.reduceLT, Nat.reduceAdd, Nat.reduceEqDiff, reduceIte, Nat.reduceMul, Nat.reduceSub, reduceCtorEq, Int.reduceNe, Int.reduceEq, ne_eq, Nat.reduceLeDiff, Nat.reduceMod, Nat.reduceDiv]; (try simp (disch := omega) only [i64_in, tmodn, tdivn]); exact rfl
                          apply VC.ret
                          simp -implicitDefEqProofs only [go_sem, Nat.reduceLT, Nat.reduceAdd, Nat.reduceEqDiff, reduceIte, Nat.reduceMul, Nat.reduceSub, reduceCtorEq, Int.reduceNe, Int.reduceEq, ne_eq, Nat.reduceLeDiff, Nat.reduceMod, Nat.reduceDiv]
                          all_goals (first | (rw [show may l = false by simpa using h]; rfl) | (rw [show k = l.length by omega, if_pos hm, if_pos hm]; rfl))
end Go.Proofs.YtgfadocohpinmaaDoor.Oa
namespace Go.Proofs.YtgfadocohpinmaaDoor.Oa
open Go Go.RowKit Go.Proofs.YtgfadocohpinmaaDoor.Vm Go.IntWalk
set_option maxRecDepth 100000
set_option maxHeartbeats 4000000
/-- The error that the public ParseUint tells. -/
def puE : Lib.NumEnd Nat → Vm.Data
  | .ok n => .nili
  | _ => .iface 99 (.ptr [])
@[go_sem] theorem puE_ok (n : Nat) : puE (.ok n) = .nili := rfl
@[go_sem] theorem puE_syntax : puE Lib.NumEnd.syntax = .iface 99 (.ptr []) := rfl
@[go_sem] theorem puE_range : puE .range = .iface 99 (.ptr []) := rfl
@[go_sem] theorem puNum_ok (n : Nat) : puNum (.ok n) = n := rfl
@[go_sem] theorem puErr_ok (n : Nat) : puErr (.ok n) = .nili := rfl
@[go_sem] theorem puErr_syntax : puErr Lib.NumEnd.syntax = .iface 97 (.int .i64 2) := rfl
@[go_sem] theorem puErr_range : puErr .range = .iface 97 (.int .i64 1) := rfl
theorem pub_eq : pub = [80, 97, 114, 115, 101, 85, 105, 110, 116] := rfl
theorem decS_dec : ∀ (f n : Nat) (s : List UInt8), n < 10 ^ f → decS f n s = (if f = 0 then s else Lib.decDigits n ++ s)
  | 0, n, s, _ => by simp [decS]
  | f + 1, n, s, h => by
    rw [if_neg (by omega)]
    unfold decS
    by_cases h10 : n < 10
    · rw [if_pos (by omega), Lib.decDigits_one h10, Nat.mod_eq_of_lt h10]; rfl
    · rw [if_neg (by omega), decS_dec f (n / 10) _ (by rw [Nat.pow_succ] at h; omega)]
      have hf : f ≠ 0 := by rintro rfl; simp at h; omega
      rw [if_neg hf, show Lib.decDigits n = Lib.decDigits (n / 10) ++ [UInt8.ofNat (48 + n % 10)] by rw [Lib.decDigits, dif_neg h10]]
      simp
theorem dec_digits (n : Nat) (h : n < 18446744073709551616) : Lib.decDigits n = dec n := by
  unfold dec
  rw [decS_dec 20 n [] (by omega), if_neg (by decide), List.append_nil]
theorem textN_tail (l : List Nat) (k : Nat) (hk : k < l.length) : textN l (k + 1) = dec (l.getD 0 0) ++ Lib.joinTail [46] (((l.drop 1).take k).map dec) := by
  induction k with
  | zero => rw [textN_succ, textN_zero]; simp [Lib.joinTail]
  | succ k ih =>
    rw [textN_succ, ih (by omega), if_pos (by omega)]
    rw [show ((l.drop 1).take (k + 1)).map dec = ((l.drop 1).take k).map dec ++ [dec (l.getD (k + 1) 0)] by
      rw [List.take_add_one, List.getElem?_drop, Nat.add_comm 1 k, List.getElem?_eq_getElem hk, List.getD_eq_getElem?_getD, List.getElem?_eq_getElem hk]; simp]
    simp [Lib.joinTail, List.append_assoc]
theorem join_text (l : List Nat) : Lib.join (l.map dec) [46] = textS l := by
  cases l with
  | nil => rfl
  | cons x l =>
    unfold textS
    rw [List.length_cons, textN_tail _ _ (by simp), List.map_cons, Lib.join_cons]
    simp
theorem strsD_snoc (l : List (List UInt8)) (s : List UInt8) : strsD l ++ [[.str s]] = strsD (l ++ [s]) := by simp [strsD]
theorem map_take_succ (l : List Nat) (k : Nat) (h : k < l.length) : (l.take (k + 1)).map dec = (l.take k).map dec ++ [dec (l.getD k 0)] := by
  rw [List.take_add_one, List.getElem?_eq_getElem h, List.getD_eq_getElem?_getD, List.getElem?_eq_getElem h]
  simp only [List.map_append, Option.toList_some, List.map_cons, List.map_nil, Option.getD_some]
@[go_sem] theorem k97 : kindT Tryd.prog 97 = .int .i64 := by kernel_rfl
@[go_sem] theorem s97 : szT Tryd.prog 97 = 1 := by kernel_rfl
@[go_sem] theorem p97 : posT Tryd.prog 97 = true := by kernel_rfl
@[go_sem] theorem b97 : bytesT Tryd.prog 97 = 8 := by kernel_rfl
@[go_sem] theorem k99 : kindT Tryd.prog 99 = .ptr := by kernel_rfl
@[go_sem] theorem s99 : szT Tryd.prog 99 = 1 := by kernel_rfl
@[go_sem] theorem p99 : posT Tryd.prog 99 = true := by kernel_rfl
@[go_sem] theorem b99 : bytesT Tryd.prog 99 = 8 := by kernel_rfl
@[go_sem] theorem k60 : kindT Tryd.prog 60 = .iface := by kernel_rfl
@[go_sem] theorem s60 : szT Tryd.prog 60 = 1 := by kernel_rfl
@[go_sem] theorem p60 : posT Tryd.prog 60 = true := by kernel_rfl
@[go_sem] theorem b60 : bytesT Tryd.prog 60 = 16 := by kernel_rfl
@[go_sem] theorem s61 : szT Tryd.prog 61 = 1 := by kernel_rfl
@[go_sem] theorem p61 : posT Tryd.prog 61 = true := by kernel_rfl
@[go_sem] theorem b61 : bytesT Tryd.prog 61 = 0 := by kernel_rfl
noncomputable def ΦP1 : Fns := tab [(38, fmtUF), (43, parseIF), (44, toErrF)]
theorem ΦP1_ok : Sound E ΦP1 := sound_cons (by kernel_rfl) fmtU_ok (sound_cons (by kernel_rfl) parseI_ok (sound_cons (by kernel_rfl) toErr_ok (sound_nil)))
@[go_sem] theorem ΦP1_38 : ΦP1 38 = some fmtUF := rfl
@[go_sem] theorem ΦP1_43 : ΦP1 43 = some parseIF := rfl
@[go_sem] theorem ΦP1_44 : ΦP1 44 = some toErrF := rfl
def fmtPA (n : Nat) : List Vm.Data := [.int .u64 (n : Int), .int .i64 10]
noncomputable def fmtPF : PFn := PFn.of fmtPA (fun n => n < 18446744073709551616) (fun n => [.str (dec n)])
theorem fmtP_inj (x y : Nat) (h : fmtPA x = fmtPA y) : x = y := by
  simpa [fmtPA, Prod.ext_iff, numsD_inj, bytesD_inj, Vm.Data.lst.injEq, Int.natCast_inj] using h
@[go_sem] theorem fmtP_pre (n : Nat) : fmtPF.pre [.int .u64 (n : Int), .int .i64 10] = (n < 18446744073709551616) := PFn.of_pre fmtP_inj n
@[go_sem] theorem fmtP_res (n : Nat) : fmtPF.res [.int .u64 (n : Int), .int .i64 10] = [.str (dec n)] := PFn.of_res fmtP_inj n
theorem fmtP_ok : Pure E 26 fmtPF := by
  apply Pure.of_body (rs := [.tmp 4]) (n := 8) Tryd.func26 rfl rfl rfl
  intro ds hds
  obtain ⟨n, rfl, hds⟩ := hds
  (try dsimp only at hds)
  rw [show fmtPF.res (fmtPA n) = [.str (dec n)] from fmtP_res n]
  skip
  refine ⟨Nat.le_of_ble_eq_true rfl, ?_⟩
  show VC E none _ (pureSt 8 [.int .u64 (n : Int), .int .i64 10]) _
  apply VC.regt ΦP1_ok [0, 1]; intro K' hK; dsimp only [List.take, List.drop, List.map, strip, stripG]; simp -implicitDefEqProofs only [go_sem, Nat.reduceLT, Nat.reduceAdd, Nat.reduceEqDiff, reduceIte, Nat.reduceMul, Nat.reduceSub, reduceCtorEq, Int.reduceNe, Int.reduceEq, ne_eq, Nat.reduceLeDiff, Nat.reduceMod, Nat.reduceDiv]
  (repeat' first | (refine hK _ ?_; clear hK K') | with_reducible apply And.intro | omega)
  all_goals
    apply VC.at
    · simp -implicitDefEqProofs only [go_sem, Nat.reduceLT, Nat.reduceAdd, Nat.reduceEqDiff, reduceIte, Nat.reduceMul, Nat.reduceSub, reduceCtorEq, Int.reduceNe, Int.reduceEq, ne_eq, Nat.reduceLeDiff, Nat.reduceMod, Nat.reduceDiv]; (try simp (disch := omega) only [i64_in, tmodn, tdivn]); exact rfl
    apply VC.regt ΦP1_ok [4]; intro K' hK; dsimp only [List.take, List.drop, List.map, strip, stripG]; simp -implicitDefEqProofs only [go_sem, Nat.reduceLT, Nat.reduceAdd, Nat.reduceEqDiff, reduceIte, Nat.reduceMul, Nat.reduceSub, reduceCtorEq, Int.reduceNe, Int.reduceEq, ne_eq, Nat.reduceLeDiff, Nat.reduceMod, Nat.reduceDiv]
    (repeat' first | (refine hK _ ?_; clear hK K') | with_reducible apply And.intro | omega)
    all_goals
      apply VC.at
      · simp -implicitDefEqProofs only [go_sem, Nat.reduceLT, Nat.reduceAdd, Nat.reduceEqDiff, reduceIte, Nat.reduceMul, Nat.reduceSub, reduceCtorEq, Int.reduceNe, Int.reduceEq, ne_eq, Nat.reduceLeDiff, Nat.reduceMod, Nat.reduceDiv]; (try simp (disch := omega) only [i64_in, tmodn, tdivn]); exact rfl
      apply VC.ret
      simp -implicitDefEqProofs only [go_sem, Nat.reduceLT, Nat.reduceAdd, Nat.reduceEqDiff, reduceIte, Nat.reduceMul, Nat.reduceSub, reduceCtorEq, Int.reduceNe, Int.reduceEq, ne_eq, Nat.reduceLeDiff, Nat.reduceMod, Nat.reduceDiv]
      all_goals (rw [dec_digits n hds])
def parseUA (s : List UInt8) : List Vm.Data := [.str s, .int .i64 10, .int .i64 63]
noncomputable def parseUF : PFn := PFn.of parseUA (fun s => s.length ≤ 1000000) (fun s => [.int .u64 (puNum (puN s)), puE (puN s)])
theorem parseU_inj (x y : List UInt8) (h : parseUA x = parseUA y) : x = y := by
  simpa [parseUA, Prod.ext_iff, numsD_inj, bytesD_inj, Vm.Data.lst.injEq, Int.natCast_inj] using h
@[go_sem] theorem parseU_pre (s : List UInt8) : parseUF.pre [.str s, .int .i64 10, .int .i64 63] = (s.length ≤ 1000000) := PFn.of_pre parseU_inj s
@[go_sem] theorem parseU_res (s : List UInt8) : parseUF.res [.str s, .int .i64 10, .int .i64 63] = [.int .u64 (puNum (puN s)), puE (puN s)] := PFn.of_res parseU_inj s
theorem parseU_ok : Pure E 30 parseUF := by
  apply Pure.of_body (rs := [.tmp 6, .tmp 7]) (n := 26) Tryd.func30 rfl rfl rfl
  intro ds hds
  obtain ⟨s, rfl, hds⟩ := hds
  (try dsimp only at hds)
  rw [show parseUF.res (parseUA s) = [.int .u64 (puNum (puN s)), puE (puN s)] from parseU_res s]
  rcases hh : puN s with n | _ | _
  all_goals
    refine ⟨Nat.le_of_ble_eq_true rfl, ?_⟩
    show VC E none _ (pureSt 26 [.str s, .int .i64 10, .int .i64 63]) _
    apply VC.regt ΦP1_ok [0, 1, 2]; intro K' hK; dsimp only [List.take, List.drop, List.map, strip, stripG]; simp -implicitDefEqProofs only [go_sem, Nat.reduceLT, Nat.reduceAdd, Nat.reduceEqDiff, reduceIte, Nat.reduceMul, Nat.reduceSub, reduceCtorEq, Int.reduceNe, Int.reduceEq, ne_eq, Nat.reduceLeDiff, Nat.reduceMod, Nat.reduceDiv, hh, ← pub_eq]
    (repeat' first | (refine hK _ ?_; clear hK K') | with_reducible apply And.intro | exact hds)
    all_goals
      apply VC.at
      · simp -implicitDefEqProofs only [go_sem, Nat.reduceLT, Nat.reduceAdd, Nat.reduceEqDiff, reduceIte, Nat.reduceMul, Nat.reduceSub, reduceCtorEq, Int.reduceNe, Int.reduceEq, ne_eq, Nat.reduceLeDiff, Nat.reduceMod, Nat.reduceDiv, hh, ← pub_eq]; (try simp (disch := omega) only [i64_in, tmodn, tdivn]); exact rfl
      apply VC.regt ΦP1_ok [0, 1, 2, 8, 9]; intro K' hK; dsimp only [List.take, List.drop, List.map, strip, stripG]; simp -implicitDefEqProofs only [go_sem, Nat.reduceLT, Nat.reduceAdd, Nat.reduceEqDiff, reduceIte, Nat.reduceMul, Nat.reduceSub, reduceCtorEq, Int.reduceNe, Int.reduceEq, ne_eq, Nat.reduceLeDiff, Nat.reduceMod, Nat.reduceDiv, hh, ← pub_eq]
      (repeat' first | (refine hK _ ?_; clear hK K') | with_reducible apply And.intro | exact hds)
      all_goals
        apply VC.at
        · simp -implicitDefEqProofs only [go_sem, Nat.reduceLT, Nat.reduceAdd, Nat.reduceEqDiff, reduceIte, Nat.reduceMul, Nat.reduceSub, reduceCtorEq, Int.reduceNe, Int.reduceEq, ne_eq, Nat.reduceLeDiff, Nat.reduceMod, Nat.reduceDiv, hh, ← pub_eq]; (try simp (disch := omega) only [i64_in, tmodn, tdivn]); exact rfl
        apply VC.seq
        apply VC.regt ΦP1_ok [0, 1, 2, 8, 9, 18]; intro K' hK; dsimp only [List.take, List.drop, List.map, strip, stripG]; simp -implicitDefEqProofs only [go_sem, Nat.reduceLT, Nat.reduceAdd, Nat.reduceEqDiff, reduceIte, Nat.reduceMul, Nat.reduceSub, reduceCtorEq, Int.reduceNe, Int.reduceEq, ne_eq, Nat.reduceLeDiff, Nat.reduceMod, Nat.reduceDiv, hh, ← pub_eq]
        (repeat' first | (refine hK _ ?_; clear hK K') | with_reducible apply And.intro | exact hds)
        all_goals
          apply VC.at
          · simp -implicitDefEqProofs only [go_sem, Nat.reduceLT, Nat.reduceAdd, Nat.reduceEqDiff, reduceIte, Nat.reduceMul, Nat.reduceSub, reduceCtorEq, Int.reduceNe, Int.reduceEq, ne_eq, Nat.reduceLeDiff, Nat.reduceMod, Nat.reduceDiv, hh, ← pub_eq]; (try simp (disch := omega) only [i64_in, tmodn, tdivn]); exact rfl
          first | (apply VC.condd; (focus (simp -implicitDefEqProofs only [go_sem, Nat.reduceLT, Nat.reduceAdd, Nat.reduceEqDiff, reduceIte, Nat.reduceMul, Nat.reduceSub, reduceCtorEq, Int.reduceNe, Int.reduceEq, ne_eq, Nat.reduceLeDiff, Nat.reduceMod, Nat.reduceDiv, hh, ← pub_eq]; with_reducible exact rfl))) | (apply VC.condn; (focus (simp -implicitDefEqProofs only [go_sem, Nat.reduceLT, Nat.reduceAdd, Nat.reduceEqDiff, reduceIte, Nat.reduceMul, Nat.reduceSub, reduceCtorEq, Int.reduceNe, Int.reduceEq, ne_eq, Nat.reduceLeDiff, Nat.reduceMod, Nat.reduceDiv, hh, ← pub_eq]; with_reducible exact rfl))) | (apply VC.condt; (focus (simp -implicitDefEqProofs only [go_sem, Nat.reduceLT, Nat.reduceAdd, Nat.reduceEqDiff, reduceIte, Nat.reduceMul, Nat.reduceSub, reduceCtorEq, Int.reduceNe, Int.reduceEq, ne_eq, Nat.reduceLeDiff, Nat.reduceMod, Nat.reduceDiv, hh, ← pub_eq]; with_reducible exact rfl))) | (apply VC.condb; (focus (simp -implicitDefEqProofs only [go_sem, Nat.reduceLT, Nat.reduceAdd, Nat.reduceEqDiff, reduceIte, Nat.reduceMul, Nat.reduceSub, reduceCtorEq, Int.reduceNe, Int.reduceEq, ne_eq, Nat.reduceLeDiff, Nat.reduceMod, Nat.reduceDiv, hh, ← pub_eq]; exact rfl)))
          · intro h; try exact absurd h (by decide)
            all_goals
              apply VC.regt ΦP1_ok [6, 7]; intro K' hK; dsimp only [List.take, List.drop, List.map, strip, stripG]; simp -implicitDefEqProofs only [go_sem, Nat.reduceLT, Nat.reduceAdd, Nat.reduceEqDiff, reduceIte, Nat.reduceMul, Nat.reduceSub, reduceCtorEq, Int.reduceNe, Int.reduceEq, ne_eq, Nat.reduceLeDiff, Nat.reduceMod, Nat.reduceDiv, hh, ← pub_eq]
              (repeat' first | (refine hK _ ?_; clear hK K') | with_reducible apply And.intro | exact hds)
              all_goals
                apply VC.at
                · simp -implicitDefEqProofs only [go_sem, Nat.reduceLT, Nat.reduceAdd, Nat.reduceEqDiff, reduceIte, Nat.reduceMul, Nat.reduceSub, reduceCtorEq, Int.reduceNe, Int.reduceEq, ne_eq, Nat.reduceLeDiff, Nat.reduceMod, Nat.reduceDiv, hh, ← pub_eq]; (try simp (disch := omega) only [i64_in, tmodn, tdivn]); exact rfl
                apply VC.ret
                refine thenK_r ?_
                simp -implicitDefEqProofs only [go_sem, Nat.reduceLT, Nat.reduceAdd, Nat.reduceEqDiff, reduceIte, Nat.reduceMul, Nat.reduceSub, reduceCtorEq, Int.reduceNe, Int.reduceEq, ne_eq, Nat.reduceLeDiff, Nat.reduceMod, Nat.reduceDiv, hh, ← pub_eq]
                all_goals (rfl)
          · intro h; try exact absurd h (by decide)
            all_goals
              apply VC.skip
              refine thenK_n ?_
              apply VC.regt ΦP1_ok [6, 7]; intro K' hK; dsimp only [List.take, List.drop, List.map, strip, stripG]; simp -implicitDefEqProofs only [go_sem, Nat.reduceLT, Nat.reduceAdd, Nat.reduceEqDiff, reduceIte, Nat.reduceMul, Nat.reduceSub, reduceCtorEq, Int.reduceNe, Int.reduceEq, ne_eq, Nat.reduceLeDiff, Nat.reduceMod, Nat.reduceDiv, hh, ← pub_eq]
              (repeat' first | (refine hK _ ?_; clear hK K') | with_reducible apply And.intro | exact hds)
              all_goals
                apply VC.at
                · simp -implicitDefEqProofs only [go_sem, Nat.reduceLT, Nat.reduceAdd, Nat.reduceEqDiff, reduceIte, Nat.reduceMul, Nat.reduceSub, reduceCtorEq, Int.reduceNe, Int.reduceEq, ne_eq, Nat.reduceLeDiff, Nat.reduceMod, Nat.reduceDiv, hh, ← pub_eq]; (try simp (disch := omega) only [i64_in, tmodn, tdivn]); exact rfl
                apply VC.ret
                simp -implicitDefEqProofs only [go_sem, Nat.reduceLT, Nat.reduceAdd, Nat.reduceEqDiff, reduceIte, Nat.reduceMul, Nat.reduceSub, reduceCtorEq, Int.reduceNe, Int.reduceEq, ne_eq, Nat.reduceLeDiff, Nat.reduceMod, Nat.reduceDiv, hh, ← pub_eq]
                all_goals (rfl)
end Go.Proofs.YtgfadocohpinmaaDoor.Oa
namespace Go.Proofs.YtgfadocohpinmaaDoor.Oa
open Go Go.RowKit Go.Proofs.YtgfadocohpinmaaDoor.Vm Go.IntWalk
set_option maxRecDepth 100000
set_option maxHeartbeats 4000000
noncomputable def ΦP2 : Fns := tab [(26, fmtPF), (14, checkF), (27, joinF)]
theorem ΦP2_ok : Sound E ΦP2 := sound_cons (by kernel_rfl) fmtP_ok (sound_cons (by kernel_rfl) check_ok (sound_cons (by kernel_rfl) join_ok (sound_nil)))
@[go_sem] theorem ΦP2_26 : ΦP2 26 = some fmtPF := rfl
@[go_sem] theorem ΦP2_14 : ΦP2 14 = some checkF := rfl
@[go_sem] theorem ΦP2_27 : ΦP2 27 = some joinF := rfl
@[go_sem] theorem s25 : szT Tryd.prog 25 = 1 := by kernel_rfl
@[go_sem] theorem p25 : posT Tryd.prog 25 = true := by kernel_rfl
@[go_sem] theorem b25 : bytesT Tryd.prog 25 = 0 := by kernel_rfl
@[go_sem] theorem z50 : zeroT Tryd.prog 50 = some [.nilsl] := by kernel_rfl
theorem take_strs (l : List Nat) : (strsD (l.map dec)).take l.length = strsD (l.map dec) := List.take_of_length_le (by rw [strsD_len, List.length_map]; exact Nat.le_refl _)
def textA (l : List Nat) : List Vm.Data := [.lst (numsD l)]
noncomputable def textF : PFn := PFn.of textA (fun l => l.length ≤ 4611686018427387904) (fun l => [.str (if may l then textS l else []), .int .i64 (if may l then 0 else 140)])
theorem text_inj (x y : List Nat) (h : textA x = textA y) : x = y := by
  simpa [textA, Prod.ext_iff, numsD_inj, bytesD_inj, Vm.Data.lst.injEq, Int.natCast_inj] using h
@[go_sem] theorem text_pre (l : List Nat) : textF.pre [.lst (numsD l)] = (l.length ≤ 4611686018427387904) := PFn.of_pre text_inj l
@[go_sem] theorem text_res (l : List Nat) : textF.res [.lst (numsD l)] = [.str (if may l then textS l else []), .int .i64 (if may l then 0 else 140)] := PFn.of_res text_inj l
theorem text_ok : Pure E 8 textF := by
  apply Pure.of_body (rs := [.tmp 2, .tmp 3]) (n := 27) Tryd.func8 rfl rfl rfl
  intro ds hds
  obtain ⟨l, rfl, hds⟩ := hds
  (try dsimp only at hds)
  rw [show textF.res (textA l) = [.str (if may l then textS l else []), .int .i64 (if may l then 0 else 140)] from text_res l]
  skip
  refine ⟨Nat.le_of_ble_eq_true rfl, ?_⟩
  show VC E none _ (pureSt 27 [.lst (numsD l)]) _
  apply VC.regt ΦP2_ok [0]; intro K' hK; dsimp only [List.take, List.drop, List.map, strip, stripG]; simp -implicitDefEqProofs only [go_sem, Nat.reduceLT, Nat.reduceAdd, Nat.reduceEqDiff, reduceIte, Nat.reduceMul, Nat.reduceSub, reduceCtorEq, Int.reduceNe, Int.reduceEq, ne_eq, Nat.reduceLeDiff, Nat.reduceMod, Nat.reduceDiv]
  (repeat' first | (refine hK _ ?_; clear hK K') | with_reducible apply And.intro | (simp -implicitDefEqProofs (disch := omega) only [numsD_at, i64_in, u64_in, List.length_map, take_strs, Nat.le_refl, List.length_cons, List.length_nil, Nat.reduceAdd]; done) | (refine ⟨by rw [List.length_map]; omega, ?_⟩; rw [join_text]; exact Nat.le_trans (textN_len l l.length) (by omega)) | (rw [List.length_map]; omega) | (rw [join_text]; exact Nat.le_trans (textN_len l l.length) (by omega)) | (simp only [maxLen]; omega) | omega | (simp only [strsD_len, hlk, List.length_cons, List.length_nil]; omega) | (simp only [strsD_len, hlk]; omega))
  all_goals
    apply VC.at
    · simp -implicitDefEqProofs only [go_sem, Nat.reduceLT, Nat.reduceAdd, Nat.reduceEqDiff, reduceIte, Nat.reduceMul, Nat.reduceSub, reduceCtorEq, Int.reduceNe, Int.reduceEq, ne_eq, Nat.reduceLeDiff, Nat.reduceMod, Nat.reduceDiv]; (try simp (disch := omega) only [i64_in, tmodn, tdivn]); exact rfl
    apply VC.seq
    apply VC.regt ΦP2_ok [0, 4]; intro K' hK; dsimp only [List.take, List.drop, List.map, strip, stripG]; simp -implicitDefEqProofs only [go_sem, Nat.reduceLT, Nat.reduceAdd, Nat.reduceEqDiff, reduceIte, Nat.reduceMul, Nat.reduceSub, reduceCtorEq, Int.reduceNe, Int.reduceEq, ne_eq, Nat.reduceLeDiff, Nat.reduceMod, Nat.reduceDiv]
    (repeat' first | (refine hK _ ?_; clear hK K') | ((first | with_reducible refine runA_id ?_ | with_reducible refine goA_id ?_); simp -implicitDefEqProofs (disch := omega) only [numsD_at, i64_in, u64_in, List.length_map, take_strs, Nat.le_refl]; simp -implicitDefEqProofs only [go_sem, Nat.reduceLT, Nat.reduceAdd, Nat.reduceEqDiff, reduceIte, Nat.reduceMul, Nat.reduceSub, reduceCtorEq, Int.reduceNe, Int.reduceEq, ne_eq, Nat.reduceLeDiff, Nat.reduceMod, Nat.reduceDiv]) | with_reducible apply And.intro | (simp -implicitDefEqProofs (disch := omega) only [numsD_at, i64_in, u64_in, List.length_map, take_strs, Nat.le_refl, List.length_cons, List.length_nil, Nat.reduceAdd]; done) | (refine ⟨by rw [List.length_map]; omega, ?_⟩; rw [join_text]; exact Nat.le_trans (textN_len l l.length) (by omega)) | (rw [List.length_map]; omega) | (rw [join_text]; exact Nat.le_trans (textN_len l l.length) (by omega)) | (simp only [maxLen]; omega) | omega | (simp only [strsD_len, hlk, List.length_cons, List.length_nil]; omega) | (simp only [strsD_len, hlk]; omega))
    all_goals
      apply VC.at
      · simp -implicitDefEqProofs only [go_sem, Nat.reduceLT, Nat.reduceAdd, Nat.reduceEqDiff, reduceIte, Nat.reduceMul, Nat.reduceSub, reduceCtorEq, Int.reduceNe, Int.reduceEq, ne_eq, Nat.reduceLeDiff, Nat.reduceMod, Nat.reduceDiv]; (try simp (disch := omega) only [i64_in, tmodn, tdivn]); exact rfl
      apply VC.regt ΦP2_ok [0, 4, 11]; intro K' hK; dsimp only [List.take, List.drop, List.map, strip, stripG]; simp -implicitDefEqProofs only [go_sem, Nat.reduceLT, Nat.reduceAdd, Nat.reduceEqDiff, reduceIte, Nat.reduceMul, Nat.reduceSub, reduceCtorEq, Int.reduceNe, Int.reduceEq, ne_eq, Nat.reduceLeDiff, Nat.reduceMod, Nat.reduceDiv]
      (repeat' first | (refine hK _ ?_; clear hK K') | with_reducible apply And.intro | (simp -implicitDefEqProofs (disch := omega) only [numsD_at, i64_in, u64_in, List.length_map, take_strs, Nat.le_refl, List.length_cons, List.length_nil, Nat.reduceAdd]; done) | (refine ⟨by rw [List.length_map]; omega, ?_⟩; rw [join_text]; exact Nat.le_trans (textN_len l l.length) (by omega)) | (rw [List.length_map]; omega) | (rw [join_text]; exact Nat.le_trans (textN_len l l.length) (by omega)) | (simp only [maxLen]; omega) | omega | (simp only [strsD_len, hlk, List.length_cons, List.length_nil]; omega) | (simp only [strsD_len, hlk]; omega))
      all_goals
        apply VC.at
        · simp -implicitDefEqProofs only [go_sem, Nat.reduceLT, Nat.reduceAdd, Nat.reduceEqDiff, reduceIte, Nat.reduceMul, Nat.reduceSub, reduceCtorEq, Int.reduceNe, Int.reduceEq, ne_eq, Nat.reduceLeDiff, Nat.reduceMod, Nat.reduceDiv]; (try simp (disch := omega) only [i64_in, tmodn, tdivn]); exact rfl
        first | (apply VC.condd; (focus (simp -implicitDefEqProofs only [go_sem, Nat.reduceLT, Nat.reduceAdd, Nat.reduceEqDiff, reduceIte, Nat.reduceMul, Nat.reduceSub, reduceCtorEq, Int.reduceNe, Int.reduceEq, ne_eq, Nat.reduceLeDiff, Nat.reduceMod, Nat.reduceDiv]; with_reducible exact rfl))) | (apply VC.condn; (focus (simp -implicitDefEqProofs only [go_sem, Nat.reduceLT, Nat.reduceAdd, Nat.reduceEqDiff, reduceIte, Nat.reduceMul, Nat.reduceSub, reduceCtorEq, Int.reduceNe, Int.reduceEq, ne_eq, Nat.reduceLeDiff, Nat.reduceMod, Nat.reduceDiv]; with_reducible exact rfl))) | (apply VC.condt; (focus (simp -implicitDefEqProofs only [go_sem, Nat.reduceLT, Nat.reduceAdd, Nat.reduceEqDiff, reduceIte, Nat.reduceMul, Nat.reduceSub, reduceCtorEq, Int.reduceNe, Int.reduceEq, ne_eq, Nat.reduceLeDiff, Nat.reduceMod, Nat.reduceDiv]; with_reducible exact rfl))) | (apply VC.condb; (focus (simp -implicitDefEqProofs only [go_sem, Nat.reduceLT, Nat.reduceAdd, Nat.reduceEqDiff, reduceIte, Nat.reduceMul, Nat.reduceSub, reduceCtorEq, Int.reduceNe, Int.reduceEq, ne_eq, Nat.reduceLeDiff, Nat.reduceMod, Nat.reduceDiv]; exact rfl)))
        · intro h; try exact absurd h (by decide)
          all_goals
            apply VC.regt ΦP2_ok [2, 3]; intro K' hK; dsimp only [List.take, List.drop, List.map, strip, stripG]; simp -implicitDefEqProofs only [go_sem, Nat.reduceLT, Nat.reduceAdd, Nat.reduceEqDiff, reduceIte, Nat.reduceMul, Nat.reduceSub, reduceCtorEq, Int.reduceNe, Int.reduceEq, ne_eq, Nat.reduceLeDiff, Nat.reduceMod, Nat.reduceDiv]
            (repeat' first | (refine hK _ ?_; clear hK K') | with_reducible apply And.intro | (simp -implicitDefEqProofs (disch := omega) only [numsD_at, i64_in, u64_in, List.length_map, take_strs, Nat.le_refl, List.length_cons, List.length_nil, Nat.reduceAdd]; done) | (refine ⟨by rw [List.length_map]; omega, ?_⟩; rw [join_text]; exact Nat.le_trans (textN_len l l.length) (by omega)) | (rw [List.length_map]; omega) | (rw [join_text]; exact Nat.le_trans (textN_len l l.length) (by omega)) | (simp only [maxLen]; omega) | omega | (simp only [strsD_len, hlk, List.length_cons, List.length_nil]; omega) | (simp only [strsD_len, hlk]; omega))
            all_goals
              apply VC.at
              · simp -implicitDefEqProofs only [go_sem, Nat.reduceLT, Nat.reduceAdd, Nat.reduceEqDiff, reduceIte, Nat.reduceMul, Nat.reduceSub, reduceCtorEq, Int.reduceNe, Int.reduceEq, ne_eq, Nat.reduceLeDiff, Nat.reduceMod, Nat.reduceDiv]; (try simp (disch := omega) only [i64_in, tmodn, tdivn]); exact rfl
              apply VC.ret
              refine thenK_r ?_
              simp -implicitDefEqProofs only [go_sem, Nat.reduceLT, Nat.reduceAdd, Nat.reduceEqDiff, reduceIte, Nat.reduceMul, Nat.reduceSub, reduceCtorEq, Int.reduceNe, Int.reduceEq, ne_eq, Nat.reduceLeDiff, Nat.reduceMod, Nat.reduceDiv]
              all_goals (first | (rw [show may l = false by cases e : may l <;> simp_all]; rfl) | (simp [join_text, hm]; done))
        · intro h; try exact absurd h (by decide)
          all_goals
            apply VC.skip
            refine thenK_n ?_
            have hm : may l = true := by
              cases e : may l
              · rw [e] at h; exact absurd h (by decide)
              · rfl
            have hml := of_decide_eq_true hm
            apply VC.regt ΦP2_ok [0, 5]; intro K' hK; dsimp only [List.take, List.drop, List.map, strip, stripG]; simp -implicitDefEqProofs only [go_sem, Nat.reduceLT, Nat.reduceAdd, Nat.reduceEqDiff, reduceIte, Nat.reduceMul, Nat.reduceSub, reduceCtorEq, Int.reduceNe, Int.reduceEq, ne_eq, Nat.reduceLeDiff, Nat.reduceMod, Nat.reduceDiv]
            (repeat' first | (refine hK _ ?_; clear hK K') | with_reducible apply And.intro | (simp -implicitDefEqProofs (disch := omega) only [numsD_at, i64_in, u64_in, List.length_map, take_strs, Nat.le_refl, List.length_cons, List.length_nil, Nat.reduceAdd]; done) | (refine ⟨by rw [List.length_map]; omega, ?_⟩; rw [join_text]; exact Nat.le_trans (textN_len l l.length) (by omega)) | (rw [List.length_map]; omega) | (rw [join_text]; exact Nat.le_trans (textN_len l l.length) (by omega)) | (simp only [maxLen]; omega) | omega | (simp only [strsD_len, hlk, List.length_cons, List.length_nil]; omega) | (simp only [strsD_len, hlk]; omega))
            all_goals
              apply VC.at
              · simp -implicitDefEqProofs only [go_sem, Nat.reduceLT, Nat.reduceAdd, Nat.reduceEqDiff, reduceIte, Nat.reduceMul, Nat.reduceSub, reduceCtorEq, Int.reduceNe, Int.reduceEq, ne_eq, Nat.reduceLeDiff, Nat.reduceMod, Nat.reduceDiv]; (try simp (disch := omega) only [i64_in, tmodn, tdivn]); exact rfl
              apply VC.seq
              apply VC.regt ΦP2_ok [5, 13, 14, 15]; intro K' hK; dsimp only [List.take, List.drop, List.map, strip, stripG]; simp -implicitDefEqProofs only [go_sem, Nat.reduceLT, Nat.reduceAdd, Nat.reduceEqDiff, reduceIte, Nat.reduceMul, Nat.reduceSub, reduceCtorEq, Int.reduceNe, Int.reduceEq, ne_eq, Nat.reduceLeDiff, Nat.reduceMod, Nat.reduceDiv]
              (repeat' first | (refine hK _ ?_; clear hK K') | with_reducible apply And.intro | (simp -implicitDefEqProofs (disch := omega) only [numsD_at, i64_in, u64_in, List.length_map, take_strs, Nat.le_refl, List.length_cons, List.length_nil, Nat.reduceAdd]; done) | (refine ⟨by rw [List.length_map]; omega, ?_⟩; rw [join_text]; exact Nat.le_trans (textN_len l l.length) (by omega)) | (rw [List.length_map]; omega) | (rw [join_text]; exact Nat.le_trans (textN_len l l.length) (by omega)) | (simp only [maxLen]; omega) | omega | (simp only [strsD_len, hlk, List.length_cons, List.length_nil]; omega) | (simp only [strsD_len, hlk]; omega))
              all_goals
                apply VC.at
                · simp -implicitDefEqProofs only [go_sem, Nat.reduceLT, Nat.reduceAdd, Nat.reduceEqDiff, reduceIte, Nat.reduceMul, Nat.reduceSub, reduceCtorEq, Int.reduceNe, Int.reduceEq, ne_eq, Nat.reduceLeDiff, Nat.reduceMod, Nat.reduceDiv]; (try simp (disch := omega) only [i64_in, tmodn, tdivn]); exact rfl
                apply VC.block
                refine VC.loopP (ι := Nat) [13, 14] (fun i => [(15, .dat (.int .i64 (i : Int))), (5, .sl 1 0 i)]) (fun i => [(1, .arr 9 1 (strsD ((l.take i).map dec)) 0)]) (fun i => i ≤ l.length) (fun i => l.length - i) 0 (Nat.zero_le _) ?_ ?_
                · refine (Ent.nilT 5 1 9 1 (by decide) (by simp -implicitDefEqProofs only [go_sem, Nat.reduceLT, Nat.reduceAdd, Nat.reduceEqDiff, reduceIte, Nat.reduceMul, Nat.reduceSub, reduceCtorEq, Int.reduceNe, Int.reduceEq, ne_eq, Nat.reduceLeDiff, Nat.reduceMod, Nat.reduceDiv]) (by simp -implicitDefEqProofs only [go_sem, Nat.reduceLT, Nat.reduceAdd, Nat.reduceEqDiff, reduceIte, Nat.reduceMul, Nat.reduceSub, reduceCtorEq, Int.reduceNe, Int.reduceEq, ne_eq, Nat.reduceLeDiff, Nat.reduceMod, Nat.reduceDiv])).trans (Ent.to rfl rfl rfl ?_ ?_)
                  · simp -implicitDefEqProofs only [go_sem, Nat.reduceLT, Nat.reduceAdd, Nat.reduceEqDiff, reduceIte, Nat.reduceMul, Nat.reduceSub, reduceCtorEq, Int.reduceNe, Int.reduceEq, ne_eq, Nat.reduceLeDiff, Nat.reduceMod, Nat.reduceDiv]; (try simp only [D.dat.injEq, Vm.Data.int.injEq, true_and, and_true, and_self, eq_self]); (try omega); (try ((repeat' apply And.intro) <;> first | omega | rfl))
                  · (repeat' (first | exact all_nil | (refine all_cons ?_ ?_))) <;> (simp -implicitDefEqProofs only [go_sem, Nat.reduceLT, Nat.reduceAdd, Nat.reduceEqDiff, reduceIte, Nat.reduceMul, Nat.reduceSub, reduceCtorEq, Int.reduceNe, Int.reduceEq, ne_eq, Nat.reduceLeDiff, Nat.reduceMod, Nat.reduceDiv]; (try rfl); try rfl)
                · intro k hk; (try dsimp only at hk); have hlk : ((l.take k).map dec).length = k := by rw [List.length_map, List.length_take]; omega
                  apply VC.at
                  · simp -implicitDefEqProofs only [go_sem, Nat.reduceLT, Nat.reduceAdd, Nat.reduceEqDiff, reduceIte, Nat.reduceMul, Nat.reduceSub, reduceCtorEq, Int.reduceNe, Int.reduceEq, ne_eq, Nat.reduceLeDiff, Nat.reduceMod, Nat.reduceDiv]; (try simp (disch := omega) only [i64_in, tmodn, tdivn]); exact rfl
                  apply VC.regt ΦP2_ok [5, 13, 14, 15, 16]; intro K' hK; dsimp only [List.take, List.drop, List.map, strip, stripG]; simp -implicitDefEqProofs only [go_sem, Nat.reduceLT, Nat.reduceAdd, Nat.reduceEqDiff, reduceIte, Nat.reduceMul, Nat.reduceSub, reduceCtorEq, Int.reduceNe, Int.reduceEq, ne_eq, Nat.reduceLeDiff, Nat.reduceMod, Nat.reduceDiv]
                  (repeat' first | (refine hK _ ?_; clear hK K') | with_reducible apply And.intro | (simp -implicitDefEqProofs (disch := omega) only [numsD_at, i64_in, u64_in, List.length_map, take_strs, Nat.le_refl, List.length_cons, List.length_nil, Nat.reduceAdd]; done) | (refine ⟨by rw [List.length_map]; omega, ?_⟩; rw [join_text]; exact Nat.le_trans (textN_len l l.length) (by omega)) | (rw [List.length_map]; omega) | (rw [join_text]; exact Nat.le_trans (textN_len l l.length) (by omega)) | (simp only [maxLen]; omega) | omega | (simp only [strsD_len, hlk, List.length_cons, List.length_nil]; omega) | (simp only [strsD_len, hlk]; omega))
                  all_goals
                    apply VC.at
                    · simp -implicitDefEqProofs only [go_sem, Nat.reduceLT, Nat.reduceAdd, Nat.reduceEqDiff, reduceIte, Nat.reduceMul, Nat.reduceSub, reduceCtorEq, Int.reduceNe, Int.reduceEq, ne_eq, Nat.reduceLeDiff, Nat.reduceMod, Nat.reduceDiv]; (try simp (disch := omega) only [i64_in, tmodn, tdivn]); exact rfl
                    apply VC.seq
                    first | (apply VC.condd; (focus (simp -implicitDefEqProofs only [go_sem, Nat.reduceLT, Nat.reduceAdd, Nat.reduceEqDiff, reduceIte, Nat.reduceMul, Nat.reduceSub, reduceCtorEq, Int.reduceNe, Int.reduceEq, ne_eq, Nat.reduceLeDiff, Nat.reduceMod, Nat.reduceDiv]; with_reducible exact rfl))) | (apply VC.condn; (focus (simp -implicitDefEqProofs only [go_sem, Nat.reduceLT, Nat.reduceAdd, Nat.reduceEqDiff, reduceIte, Nat.reduceMul, Nat.reduceSub, reduceCtorEq, Int.reduceNe, Int.reduceEq, ne_eq, Nat.reduceLeDiff, Nat.reduceMod, Nat.reduceDiv]; with_reducible exact rfl))) | (apply VC.condt; (focus (simp -implicitDefEqProofs only [go_sem, Nat.reduceLT, Nat.reduceAdd, Nat.reduceEqDiff, reduceIte, Nat.reduceMul, Nat.reduceSub, reduceCtorEq, Int.reduceNe, Int.reduceEq, ne_eq, Nat.reduceLeDiff, Nat.reduceMod, Nat.reduceDiv]; with_reducible exact rfl))) | (apply VC.condb; (focus (simp -implicitDefEqProofs only [go_sem, Nat.reduceLT, Nat.reduceAdd, Nat.reduceEqDiff, reduceIte, Nat.reduceMul, Nat.reduceSub, reduceCtorEq, Int.reduceNe, Int.reduceEq, ne_eq, Nat.reduceLeDiff, Nat.reduceMod, Nat.reduceDiv]; exact rfl)))
                    · intro h; try exact absurd h (by decide)
                      all_goals
                        apply VC.skip
                        refine thenK_n ?_
                        apply VC.seq
                        apply VC.block
                        apply VC.regt ΦP2_ok [5, 7, 13, 14, 15]; intro K' hK; dsimp only [List.take, List.drop, List.map, strip, stripG]; simp -implicitDefEqProofs only [go_sem, Nat.reduceLT, Nat.reduceAdd, Nat.reduceEqDiff, reduceIte, Nat.reduceMul, Nat.reduceSub, reduceCtorEq, Int.reduceNe, Int.reduceEq, ne_eq, Nat.reduceLeDiff, Nat.reduceMod, Nat.reduceDiv]
                        (repeat' first | (refine hK _ ?_; clear hK K') | ((first | with_reducible refine runA_id ?_ | with_reducible refine goA_id ?_); simp -implicitDefEqProofs (disch := omega) only [numsD_at, i64_in, u64_in, List.length_map, take_strs, Nat.le_refl]; simp -implicitDefEqProofs only [go_sem, Nat.reduceLT, Nat.reduceAdd, Nat.reduceEqDiff, reduceIte, Nat.reduceMul, Nat.reduceSub, reduceCtorEq, Int.reduceNe, Int.reduceEq, ne_eq, Nat.reduceLeDiff, Nat.reduceMod, Nat.reduceDiv]) | with_reducible apply And.intro | (simp -implicitDefEqProofs (disch := omega) only [numsD_at, i64_in, u64_in, List.length_map, take_strs, Nat.le_refl, List.length_cons, List.length_nil, Nat.reduceAdd]; done) | (refine ⟨by rw [List.length_map]; omega, ?_⟩; rw [join_text]; exact Nat.le_trans (textN_len l l.length) (by omega)) | (rw [List.length_map]; omega) | (rw [join_text]; exact Nat.le_trans (textN_len l l.length) (by omega)) | (simp only [maxLen]; omega) | omega | (simp only [strsD_len, hlk, List.length_cons, List.length_nil]; omega) | (simp only [strsD_len, hlk]; omega))
                        all_goals
                          apply VC.at
                          · simp -implicitDefEqProofs only [go_sem, Nat.reduceLT, Nat.reduceAdd, Nat.reduceEqDiff, reduceIte, Nat.reduceMul, Nat.reduceSub, reduceCtorEq, Int.reduceNe, Int.reduceEq, ne_eq, Nat.reduceLeDiff, Nat.reduceMod, Nat.reduceDiv]; (try simp (disch := omega) only [i64_in, tmodn, tdivn]); exact rfl
                          have hgk : l.getD k 0 ≤ 9223372036854775807 := Nat.le_trans (mx_ge l k (by omega)) hml.2.2.2.2.1
                          apply VC.regLast ΦP2_ok; intro K' hK; dsimp only [List.take, List.drop, List.map, strip, stripG]; simp -implicitDefEqProofs only [go_sem, Nat.reduceLT, Nat.reduceAdd, Nat.reduceEqDiff, reduceIte, Nat.reduceMul, Nat.reduceSub, reduceCtorEq, Int.reduceNe, Int.reduceEq, ne_eq, Nat.reduceLeDiff, Nat.reduceMod, Nat.reduceDiv]
                          (repeat' first | (refine hK _ ?_; clear hK K') | ((first | with_reducible refine runA_id ?_ | with_reducible refine goA_id ?_); simp -implicitDefEqProofs (disch := omega) only [numsD_at, i64_in, u64_in, List.length_map, take_strs, Nat.le_refl]; simp -implicitDefEqProofs only [go_sem, Nat.reduceLT, Nat.reduceAdd, Nat.reduceEqDiff, reduceIte, Nat.reduceMul, Nat.reduceSub, reduceCtorEq, Int.reduceNe, Int.reduceEq, ne_eq, Nat.reduceLeDiff, Nat.reduceMod, Nat.reduceDiv]) | with_reducible apply And.intro | (simp -implicitDefEqProofs (disch := omega) only [numsD_at, i64_in, u64_in, List.length_map, take_strs, Nat.le_refl, List.length_cons, List.length_nil, Nat.reduceAdd]; done) | (refine ⟨by rw [List.length_map]; omega, ?_⟩; rw [join_text]; exact Nat.le_trans (textN_len l l.length) (by omega)) | (rw [List.length_map]; omega) | (rw [join_text]; exact Nat.le_trans (textN_len l l.length) (by omega)) | (simp only [maxLen]; omega) | omega | (simp only [strsD_len, hlk, List.length_cons, List.length_nil]; omega) | (simp only [strsD_len, hlk]; omega))
                          all_goals
                            refine blockK_n ?_
                            refine thenK_n ?_
                            apply VC.regLast ΦP2_ok; intro K' hK; dsimp only [List.take, List.drop, List.map, strip, stripG]; simp -implicitDefEqProofs only [go_sem, Nat.reduceLT, Nat.reduceAdd, Nat.reduceEqDiff, reduceIte, Nat.reduceMul, Nat.reduceSub, reduceCtorEq, Int.reduceNe, Int.reduceEq, ne_eq, Nat.reduceLeDiff, Nat.reduceMod, Nat.reduceDiv]
                            (repeat' first | (refine hK _ ?_; clear hK K') | with_reducible apply And.intro | (simp -implicitDefEqProofs (disch := omega) only [numsD_at, i64_in, u64_in, List.length_map, take_strs, Nat.le_refl, List.length_cons, List.length_nil, Nat.reduceAdd]; done) | (refine ⟨by rw [List.length_map]; omega, ?_⟩; rw [join_text]; exact Nat.le_trans (textN_len l l.length) (by omega)) | (rw [List.length_map]; omega) | (rw [join_text]; exact Nat.le_trans (textN_len l l.length) (by omega)) | (simp only [maxLen]; omega) | omega | (simp only [strsD_len, hlk, List.length_cons, List.length_nil]; omega) | (simp only [strsD_len, hlk]; omega))
                            all_goals
                              refine thenK_n ?_
                              refine ⟨k + 1, by omega, Ent.to rfl rfl rfl (by simp -implicitDefEqProofs only [go_sem, Nat.reduceLT, Nat.reduceAdd, Nat.reduceEqDiff, reduceIte, Nat.reduceMul, Nat.reduceSub, reduceCtorEq, Int.reduceNe, Int.reduceEq, ne_eq, Nat.reduceLeDiff, Nat.reduceMod, Nat.reduceDiv]; (try simp (disch := omega) only [i64_in, tmodn, tdivn]); (try simp only [D.dat.injEq, Vm.Data.int.injEq, true_and, and_true, and_self, eq_self]); (try omega); (try ((repeat' apply And.intro) <;> first | omega | rfl))) ?_, by omega⟩
                              · (repeat' (first | exact all_nil | (refine all_cons ?_ ?_))) <;> (simp -implicitDefEqProofs only [go_sem, Nat.reduceLT, Nat.reduceAdd, Nat.reduceEqDiff, reduceIte, Nat.reduceMul, Nat.reduceSub, reduceCtorEq, Int.reduceNe, Int.reduceEq, ne_eq, Nat.reduceLeDiff, Nat.reduceMod, Nat.reduceDiv]; (try rfl); try (rw [map_take_succ l k (by omega), ← strsD_snoc, List.take_of_length_le (by rw [strsD_len, hlk]; exact Nat.le_refl _)]))
                    · intro h; try exact absurd h (by decide)
                      all_goals
                        apply VC.exit
                        refine thenK_e ?_
                        refine thenK_e ?_
                        refine blockK_e ?_
                        refine thenK_n ?_
                        obtain rfl : k = l.length := by omega
                        clear hlk
                        rw [List.take_length]
                        apply VC.regt ΦP2_ok [2, 3]; intro K' hK; dsimp only [List.take, List.drop, List.map, strip, stripG]; simp -implicitDefEqProofs only [go_sem, Nat.reduceLT, Nat.reduceAdd, Nat.reduceEqDiff, reduceIte, Nat.reduceMul, Nat.reduceSub, reduceCtorEq, Int.reduceNe, Int.reduceEq, ne_eq, Nat.reduceLeDiff, Nat.reduceMod, Nat.reduceDiv]
                        (repeat' first | (refine hK _ ?_; clear hK K') | ((first | with_reducible refine runA_id ?_ | with_reducible refine goA_id ?_); simp -implicitDefEqProofs (disch := omega) only [numsD_at, i64_in, u64_in, List.length_map, take_strs, Nat.le_refl]; simp -implicitDefEqProofs only [go_sem, Nat.reduceLT, Nat.reduceAdd, Nat.reduceEqDiff, reduceIte, Nat.reduceMul, Nat.reduceSub, reduceCtorEq, Int.reduceNe, Int.reduceEq, ne_eq, Nat.reduceLeDiff, Nat.reduceMod, Nat.reduceDiv]) | with_reducible apply And.intro | (simp -implicitDefEqProofs (disch := omega) only [numsD_at, i64_in, u64_in, List.length_map, take_strs, Nat.le_refl, List.length_cons, List.length_nil, Nat.reduceAdd]; done) | (refine ⟨by rw [List.length_map]; omega, ?_⟩; rw [join_text]; exact Nat.le_trans (textN_len l l.length) (by omega)) | (rw [List.length_map]; omega) | (rw [join_text]; exact Nat.le_trans (textN_len l l.length) (by omega)) | (simp only [maxLen]; omega) | omega | (simp only [strsD_len, hlk, List.length_cons, List.length_nil]; omega) | (simp only [strsD_len, hlk]; omega))
                        all_goals
                          apply VC.at
                          · simp -implicitDefEqProofs only [go_sem, Nat.reduceLT, Nat.reduceAdd, Nat.reduceEqDiff, reduceIte, Nat.reduceMul, Nat.reduceSub, reduceCtorEq, Int.reduceNe, Int.reduceEq, ne_eq, Nat.reduceLeDiff, Nat.reduceMod, Nat.reduceDiv]; (try simp (disch := omega) only [i64_in, tmodn, tdivn]); exact rfl
                          apply VC.ret
                          simp -implicitDefEqProofs only [go_sem, Nat.reduceLT, Nat.reduceAdd, Nat.reduceEqDiff, reduceIte, Nat.reduceMul, Nat.reduceSub, reduceCtorEq, Int.reduceNe, Int.reduceEq, ne_eq, Nat.reduceLeDiff, Nat.reduceMod, Nat.reduceDiv]
                          all_goals (first | (rw [show may l = false by cases e : may l <;> simp_all]; rfl) | (simp [join_text, hm]; done))
end Go.Proofs.YtgfadocohpinmaaDoor.Oa
namespace Go.Proofs.YtgfadocohpinmaaDoor.Oa
open Go Go.RowKit Go.Proofs.YtgfadocohpinmaaDoor.Vm Go.IntWalk
set_option maxRecDepth 100000
set_option maxHeartbeats 4000000
def twinA (l : List Nat) : List Vm.Data := [.lst (numsD l)]
noncomputable def twinO : OFn := OFn.of twinA (fun l => l.length ≤ 1000) 36 1 (fun l => numsD (l ++ [77])) (fun l => [])
noncomputable def twinF : PFn := twinO.shut
theorem twin_inj (x y : List Nat) (h : twinA x = twinA y) : x = y := by
  simpa [twinA, Prod.ext_iff, numsD_inj, bytesD_inj, Vm.Data.lst.injEq, Int.natCast_inj] using h
@[go_sem] theorem twin_opre (l : List Nat) : twinO.pre [.lst (numsD l)] = (l.length ≤ 1000) := OFn.of_pre twin_inj l
@[go_sem] theorem twin_orow (l : List Nat) : twinO.row [.lst (numsD l)] = numsD (l ++ [77]) := OFn.of_row twin_inj l
@[go_sem] theorem twin_orest (l : List Nat) : twinO.rest [.lst (numsD l)] = [] := OFn.of_rest twin_inj l
@[go_sem] theorem twin_oe : twinO.e = 36 := rfl
@[go_sem] theorem twin_osz : twinO.sz = 1 := rfl
@[go_sem] theorem twin_pre (l : List Nat) : twinF.pre [.lst (numsD l)] = (l.length ≤ 1000) := twin_opre l
@[go_sem] theorem twin_res (l : List Nat) : twinF.res [.lst (numsD l)] = [.lst (numsD (l ++ [77]))] := by
  show Vm.Data.lst (twinO.row [.lst (numsD l)]) :: twinO.rest [.lst (numsD l)] = _
  rw [twin_orow, twin_orest]
theorem twin_own : Own E 7 twinO := by
  apply Own.of_body (rs := [.tmp 2]) (n := 10) Tryd.func7 rfl rfl rfl
  intro ds hds
  obtain ⟨l, rfl, hds⟩ := hds
  (try dsimp only at hds)
  rw [show twinO.row (twinA l) = numsD (l ++ [77]) from twin_orow l, show twinO.rest (twinA l) = [] from twin_orest l, twin_oe, twin_osz]
  skip
  refine ⟨Nat.le_of_ble_eq_true rfl, ?_⟩
  show VC E none _ (pureSt 10 [.lst (numsD l)]) _
  apply VC.regt sound_nil [0]; intro K' hK; dsimp only [List.take, List.drop, List.map, strip, stripG]; simp -implicitDefEqProofs only [go_sem, Nat.reduceLT, Nat.reduceAdd, Nat.reduceEqDiff, reduceIte, Nat.reduceMul, Nat.reduceSub, reduceCtorEq, Int.reduceNe, Int.reduceEq, ne_eq, Nat.reduceLeDiff, Nat.reduceMod, Nat.reduceDiv]
  (repeat' first | (refine hK _ ?_; clear hK K') | with_reducible apply And.intro | (simp only [maxLen]; omega) | omega | (simp only [numsD_len, List.length_append, List.length_cons, List.length_nil]; omega))
  all_goals
    apply VC.at
    · simp -implicitDefEqProofs only [go_sem, Nat.reduceLT, Nat.reduceAdd, Nat.reduceEqDiff, reduceIte, Nat.reduceMul, Nat.reduceSub, reduceCtorEq, Int.reduceNe, Int.reduceEq, ne_eq, Nat.reduceLeDiff, Nat.reduceMod, Nat.reduceDiv]; (try simp (disch := omega) only [i64_in, tmodn, tdivn]); exact rfl
    apply VC.regt sound_nil [3]; intro K' hK; dsimp only [List.take, List.drop, List.map, strip, stripG]; simp -implicitDefEqProofs only [go_sem, Nat.reduceLT, Nat.reduceAdd, Nat.reduceEqDiff, reduceIte, Nat.reduceMul, Nat.reduceSub, reduceCtorEq, Int.reduceNe, Int.reduceEq, ne_eq, Nat.reduceLeDiff, Nat.reduceMod, Nat.reduceDiv]
    (repeat' first | (refine hK _ ?_; clear hK K') | with_reducible apply And.intro | (simp only [maxLen]; omega) | omega | (simp only [numsD_len, List.length_append, List.length_cons, List.length_nil]; omega))
    all_goals
      apply VC.at
      · simp -implicitDefEqProofs only [go_sem, Nat.reduceLT, Nat.reduceAdd, Nat.reduceEqDiff, reduceIte, Nat.reduceMul, Nat.reduceSub, reduceCtorEq, Int.reduceNe, Int.reduceEq, ne_eq, Nat.reduceLeDiff, Nat.reduceMod, Nat.reduceDiv]; (try simp (disch := omega) only [i64_in, tmodn, tdivn]); exact rfl
      apply VC.regt sound_nil [2]; intro K' hK; dsimp only [List.take, List.drop, List.map, strip, stripG]; simp -implicitDefEqProofs only [go_sem, Nat.reduceLT, Nat.reduceAdd, Nat.reduceEqDiff, reduceIte, Nat.reduceMul, Nat.reduceSub, reduceCtorEq, Int.reduceNe, Int.reduceEq, ne_eq, Nat.reduceLeDiff, Nat.reduceMod, Nat.reduceDiv]
      (repeat' first | (refine hK _ ?_; clear hK K') | with_reducible apply And.intro | (simp only [maxLen]; omega) | omega | (simp only [numsD_len, List.length_append, List.length_cons, List.length_nil]; omega))
      all_goals
        apply VC.at
        · simp -implicitDefEqProofs only [go_sem, Nat.reduceLT, Nat.reduceAdd, Nat.reduceEqDiff, reduceIte, Nat.reduceMul, Nat.reduceSub, reduceCtorEq, Int.reduceNe, Int.reduceEq, ne_eq, Nat.reduceLeDiff, Nat.reduceMod, Nat.reduceDiv]; (try simp (disch := omega) only [i64_in, tmodn, tdivn]); exact rfl
        apply VC.ret
        simp -implicitDefEqProofs only [go_sem, Nat.reduceLT, Nat.reduceAdd, Nat.reduceEqDiff, reduceIte, Nat.reduceMul, Nat.reduceSub, reduceCtorEq, Int.reduceNe, Int.reduceEq, ne_eq, Nat.reduceLeDiff, Nat.reduceMod, Nat.reduceDiv]
        all_goals (refine ⟨by simp, ?_⟩; rw [← numsD_snoc]; rfl)
theorem twin_ok : Pure E 7 twinF := twin_own.pure
end Go.Proofs.YtgfadocohpinmaaDoor.Oa
namespace Go.Proofs.YtgfadocohpinmaaDoor.Oa
open Go Go.RowKit Go.Proofs.YtgfadocohpinmaaDoor.Vm Go.IntWalk
set_option maxRecDepth 100000
set_option maxHeartbeats 4000000
noncomputable def ΦP4 : Fns := tab [(56, idxF), (30, parseUF), (8, textF)]
theorem ΦP4_ok : Sound E ΦP4 := sound_cons (by kernel_rfl) idx_ok (sound_cons (by kernel_rfl) parseU_ok (sound_cons (by kernel_rfl) text_ok (sound_nil)))
@[go_sem] theorem ΦP4_29 : ΦP4 29 = none := rfl
@[go_sem] theorem ΦP4_c29 : callable Tryd.prog 29 = true := by kernel_rfl
@[go_sem] theorem ΦP4_42 : ΦP4 42 = none := rfl
@[go_sem] theorem ΦP4_c42 : callable Tryd.prog 42 = true := by kernel_rfl
@[go_sem] theorem ΦP4_54 : ΦP4 54 = none := rfl
@[go_sem] theorem ΦP4_c54 : callable Tryd.prog 54 = true := by kernel_rfl
@[go_sem] theorem ΦP4_56 : ΦP4 56 = some idxF := rfl
@[go_sem] theorem ΦP4_30 : ΦP4 30 = some parseUF := rfl
@[go_sem] theorem ΦP4_8 : ΦP4 8 = some textF := rfl
@[go_sem] theorem k57 : kindT Tryd.prog 57 = .func := by kernel_rfl
@[go_sem] theorem s57 : szT Tryd.prog 57 = 1 := by kernel_rfl
@[go_sem] theorem p57 : posT Tryd.prog 57 = true := by kernel_rfl
@[go_sem] theorem b57 : bytesT Tryd.prog 57 = 8 := by kernel_rfl
@[go_sem] theorem z24 : zeroT Tryd.prog 24 = some [.dat (.int .i64 0)] := by kernel_rfl
/-- A word's number, if it is one. -/
def wordP (w : List UInt8) : Option Nat := match puN w with
  | .ok n => some n
  | _ => none
/-- The words' numbers, one by one. -/
def progA : List UInt8 → List UInt8 → List Nat → Option (List Nat)
  | [], w, out => match wordP w with
    | some n => some (out ++ [n])
    | none => none
  | c :: r, w, out => if c = 46 then (match wordP w with
    | some n => progA r [] (out ++ [n])
    | none => none) else progA r (w ++ [c]) out
/-- The program's answer: the numbers of a text. -/
def parseP (s : List UInt8) : Option (List Nat) := match progA s [] [] with
  | some l => if may l = true ∧ textS l = s then some l else none
  | none => none
theorem idx_neg : ∀ (r w : List UInt8) (out : List Nat), Lib.indexByte r 46 < 0 → progA r w out = (match wordP (w ++ r) with
    | some n => some (out ++ [n])
    | none => none)
  | [], w, out, _ => by simp [progA]
  | c :: r, w, out, h => by
    unfold Lib.indexByte at h
    by_cases hc : c = 46
    · subst hc; simp at h
    · have hc' : (c == 46) = false := by simpa using hc
      rw [hc'] at h
      simp only [Bool.false_eq_true, if_false] at h
      have hr : Lib.indexByte r 46 < 0 := by
        by_cases h1 : (Lib.indexByte r 46 == -1) = true
        · have := eq_of_beq h1; omega
        · rw [if_neg h1] at h; omega
      rw [progA, if_neg hc, idx_neg r (w ++ [c]) out hr]
      simp
theorem idx_pos : ∀ (r w : List UInt8) (out : List Nat), ¬ Lib.indexByte r 46 < 0 → ∃ i : Nat, Lib.indexByte r 46 = (i : Int) ∧ i < r.length ∧ progA r w out = (match wordP (w ++ r.take i) with
    | some n => progA (r.drop (i + 1)) [] (out ++ [n])
    | none => none)
  | [], w, out, h => by simp [Lib.indexByte] at h
  | c :: r, w, out, h => by
    unfold Lib.indexByte at h
    by_cases hc : c = 46
    · subst hc
      refine ⟨0, by simp [Lib.indexByte], by simp, ?_⟩
      rw [progA, if_pos rfl]; simp
    · have hc' : (c == 46) = false := by simpa using hc
      rw [hc'] at h
      simp only [Bool.false_eq_true, if_false] at h
      have h1 : ¬ (Lib.indexByte r 46 == -1) = true := fun h1 => by rw [if_pos h1] at h; exact h (by decide)
      rw [if_neg h1] at h
      have h2 : ¬ Lib.indexByte r 46 < 0 := by
        intro h3
        have := idxlow r
        have : Lib.indexByte r 46 = -1 := by omega
        exact h1 (by rw [this]; rfl)
      obtain ⟨i, e, hi, hp⟩ := idx_pos r (w ++ [c]) out h2
      refine ⟨i + 1, ?_, by simp; omega, ?_⟩
      · rw [show Lib.indexByte (c :: r) 46 = if c == 46 then 0 else if Lib.indexByte r 46 == -1 then -1 else Lib.indexByte r 46 + 1 from rfl, hc', if_neg (by decide), if_neg h1, e]; rfl
      · rw [progA, if_neg hc, hp]; simp
where idxlow : ∀ (r : List UInt8), -1 ≤ Lib.indexByte r 46
  | [] => by simp [Lib.indexByte]
  | c :: r => by
    have := idxlow r
    unfold Lib.indexByte
    split
    · omega
    · split <;> omega
theorem take_rest (r : List UInt8) (i : Nat) : (r.drop ((i : Int) + 1).toNat).take ((r.length : Int) - ((i : Int) + 1)).toNat = r.drop (i + 1) := by
  rw [show ((i : Int) + 1).toNat = i + 1 by omega]
  exact List.take_of_length_le (by rw [List.length_drop]; omega)
theorem take_rest2 (r : List UInt8) (i : Nat) (h : i < r.length) (hr : r.length ≤ 100000) : (r.drop (IntKind.i64.wrap ((i : Int) + ((1 : Nat) : Int))).toNat).take ((r.length : Int) - IntKind.i64.wrap ((i : Int) + ((1 : Nat) : Int))).toNat = r.drop (i + 1) := by
  rw [i64_in _ (by omega)]
  exact take_rest r i
theorem wordP_some {w : List UInt8} {n : Nat} (h : puN w = .ok n) : wordP w = some n := by unfold wordP; rw [h]
theorem wordP_none {w : List UInt8} (h : ∀ n, puN w ≠ .ok n) : wordP w = none := by
  unfold wordP; cases e : puN w with
  | ok n => exact absurd e (h n)
  | _ => rfl
theorem wordP_syntax {w : List UInt8} (h : puN w = Lib.NumEnd.syntax) : wordP w = none := wordP_none fun n e => by rw [h] at e; cases e
theorem wordP_range {w : List UInt8} (h : puN w = .range) : wordP w = none := wordP_none fun n e => by rw [h] at e; cases e
theorem parseP_none {s : List UInt8} (h : progA s [] [] = none) : parseP s = none := by unfold parseP; rw [h]
theorem parseP_bad {s : List UInt8} {l : List Nat} (h : progA s [] [] = some l) (h2 : ¬ (may l = true ∧ textS l = s)) : parseP s = none := by unfold parseP; rw [h]; exact if_neg h2
theorem parseP_yes {s : List UInt8} {l : List Nat} (h : progA s [] [] = some l) (h2 : may l = true ∧ textS l = s) : parseP s = some l := by unfold parseP; rw [h]; exact if_pos h2
def parseA (s : List UInt8) : List Vm.Data := [.str s]
noncomputable def parseF : PFn := PFn.of parseA (fun s => s.length ≤ 100000) (fun s => [.lst (numsD ((parseP s).getD [])), .int .i64 (if (parseP s).isSome then 0 else 140)])
theorem parse_inj (x y : List UInt8) (h : parseA x = parseA y) : x = y := by
  simpa [parseA, Prod.ext_iff, numsD_inj, bytesD_inj, Vm.Data.lst.injEq, Int.natCast_inj] using h
@[go_sem] theorem parse_pre (s : List UInt8) : parseF.pre [.str s] = (s.length ≤ 100000) := PFn.of_pre parse_inj s
@[go_sem] theorem parse_res (s : List UInt8) : parseF.res [.str s] = [.lst (numsD ((parseP s).getD [])), .int .i64 (if (parseP s).isSome then 0 else 140)] := PFn.of_res parse_inj s
theorem parse_ok : Pure E 10 parseF := by
  apply Pure.of_body (rs := [.cell 2 22, .cell 3 24]) (n := 37) Tryd.func10 rfl rfl rfl
  intro ds hds
  obtain ⟨s, rfl, hds⟩ := hds
  (try dsimp only at hds)
  rw [show parseF.res (parseA s) = [.lst (numsD ((parseP s).getD [])), .int .i64 (if (parseP s).isSome then 0 else 140)] from parse_res s]
  skip
  refine ⟨Nat.le_of_ble_eq_true rfl, ?_⟩
  show VC E none _ (pureSt 37 [.str s]) _
  apply VC.regt ΦP4_ok [0, 2, 3, 5]; intro K' hK; dsimp only [List.take, List.drop, List.map, strip, stripG]; simp -implicitDefEqProofs only [go_sem, Nat.reduceLT, Nat.reduceAdd, Nat.reduceEqDiff, reduceIte, Nat.reduceMul, Nat.reduceSub, reduceCtorEq, Int.reduceNe, Int.reduceEq, ne_eq, Nat.reduceLeDiff, Nat.reduceMod, Nat.reduceDiv]
  (repeat' first | (refine hK _ ?_; clear hK K') | with_reducible apply And.intro | (simp -implicitDefEqProofs (disch := omega) only [i64_in, u64_in, List.length_cons, List.length_nil, Nat.reduceAdd]; done) | (simp only [maxLen]; omega) | omega | (simp only [numsD_len]; omega))
  all_goals
    apply VC.at
    · simp -implicitDefEqProofs only [go_sem, Nat.reduceLT, Nat.reduceAdd, Nat.reduceEqDiff, reduceIte, Nat.reduceMul, Nat.reduceSub, reduceCtorEq, Int.reduceNe, Int.reduceEq, ne_eq, Nat.reduceLeDiff, Nat.reduceMod, Nat.reduceDiv]; (try simp (disch := omega) only [i64_in, tmodn, tdivn]); exact rfl
    apply VC.regt ΦP4_ok [0, 2, 3, 4, 5]; intro K' hK; dsimp only [List.take, List.drop, List.map, strip, stripG]; simp -implicitDefEqProofs only [go_sem, Nat.reduceLT, Nat.reduceAdd, Nat.reduceEqDiff, reduceIte, Nat.reduceMul, Nat.reduceSub, reduceCtorEq, Int.reduceNe, Int.reduceEq, ne_eq, Nat.reduceLeDiff, Nat.reduceMod, Nat.reduceDiv]
    (repeat' first | (refine hK _ ?_; clear hK K') | with_reducible apply And.intro | (simp -implicitDefEqProofs (disch := omega) only [i64_in, u64_in, List.length_cons, List.length_nil, Nat.reduceAdd]; done) | (simp only [maxLen]; omega) | omega | (simp only [numsD_len]; omega))
    all_goals
      apply VC.at
      · simp -implicitDefEqProofs only [go_sem, Nat.reduceLT, Nat.reduceAdd, Nat.reduceEqDiff, reduceIte, Nat.reduceMul, Nat.reduceSub, reduceCtorEq, Int.reduceNe, Int.reduceEq, ne_eq, Nat.reduceLeDiff, Nat.reduceMod, Nat.reduceDiv]; (try simp (disch := omega) only [i64_in, tmodn, tdivn]); exact rfl
      apply VC.seq
      apply VC.regt ΦP4_ok [0, 2, 3, 4, 5, 11]; intro K' hK; dsimp only [List.take, List.drop, List.map, strip, stripG]; simp -implicitDefEqProofs only [go_sem, Nat.reduceLT, Nat.reduceAdd, Nat.reduceEqDiff, reduceIte, Nat.reduceMul, Nat.reduceSub, reduceCtorEq, Int.reduceNe, Int.reduceEq, ne_eq, Nat.reduceLeDiff, Nat.reduceMod, Nat.reduceDiv]
      refine VCcall.enter (E := E) (g := 29) (fn := Tryd.f29) (rs := [.tmp 4]) (n := 8) Tryd.func29 rfl rfl rfl ?_ ?_
      · exact Nat.le_of_ble_eq_true rfl
      apply VC.at
      · simp -implicitDefEqProofs only [go_sem, Nat.reduceLT, Nat.reduceAdd, Nat.reduceEqDiff, reduceIte, Nat.reduceMul, Nat.reduceSub, reduceCtorEq, Int.reduceNe, Int.reduceEq, ne_eq, Nat.reduceLeDiff, Nat.reduceMod, Nat.reduceDiv]; exact rfl
      apply VC.regt ΦP4_ok [0, 1]; intro K' hK; dsimp only [List.take, List.drop, List.map, strip, stripG]; simp -implicitDefEqProofs only [go_sem, Nat.reduceLT, Nat.reduceAdd, Nat.reduceEqDiff, reduceIte, Nat.reduceMul, Nat.reduceSub, reduceCtorEq, Int.reduceNe, Int.reduceEq, ne_eq, Nat.reduceLeDiff, Nat.reduceMod, Nat.reduceDiv]
      (repeat' first | (refine hK _ ?_; clear hK K') | with_reducible apply And.intro | (simp -implicitDefEqProofs (disch := omega) only [i64_in, u64_in, List.length_cons, List.length_nil, Nat.reduceAdd]; done) | (simp only [maxLen]; omega) | omega | (simp only [numsD_len]; omega))
      all_goals
        apply VC.at
        · simp -implicitDefEqProofs only [go_sem, Nat.reduceLT, Nat.reduceAdd, Nat.reduceEqDiff, reduceIte, Nat.reduceMul, Nat.reduceSub, reduceCtorEq, Int.reduceNe, Int.reduceEq, ne_eq, Nat.reduceLeDiff, Nat.reduceMod, Nat.reduceDiv]; (try simp (disch := omega) only [i64_in, tmodn, tdivn]); exact rfl
        apply VC.regt ΦP4_ok [4]; intro K' hK; dsimp only [List.take, List.drop, List.map, strip, stripG]; simp -implicitDefEqProofs only [go_sem, Nat.reduceLT, Nat.reduceAdd, Nat.reduceEqDiff, reduceIte, Nat.reduceMul, Nat.reduceSub, reduceCtorEq, Int.reduceNe, Int.reduceEq, ne_eq, Nat.reduceLeDiff, Nat.reduceMod, Nat.reduceDiv]
        refine VCcall.enter (E := E) (g := 42) (fn := Tryd.f42) (rs := [.tmp 6]) (n := 8) Tryd.func42 rfl rfl rfl ?_ ?_
        · exact Nat.le_of_ble_eq_true rfl
        apply VC.at
        · simp -implicitDefEqProofs only [go_sem, Nat.reduceLT, Nat.reduceAdd, Nat.reduceEqDiff, reduceIte, Nat.reduceMul, Nat.reduceSub, reduceCtorEq, Int.reduceNe, Int.reduceEq, ne_eq, Nat.reduceLeDiff, Nat.reduceMod, Nat.reduceDiv]; exact rfl
        apply VC.regt ΦP4_ok [3, 4, 5]; intro K' hK; dsimp only [List.take, List.drop, List.map, strip, stripG]; simp -implicitDefEqProofs only [go_sem, Nat.reduceLT, Nat.reduceAdd, Nat.reduceEqDiff, reduceIte, Nat.reduceMul, Nat.reduceSub, reduceCtorEq, Int.reduceNe, Int.reduceEq, ne_eq, Nat.reduceLeDiff, Nat.reduceMod, Nat.reduceDiv]
        (repeat' first | (refine hK _ ?_; clear hK K') | with_reducible apply And.intro | (simp -implicitDefEqProofs (disch := omega) only [i64_in, u64_in, List.length_cons, List.length_nil, Nat.reduceAdd]; done) | (simp only [maxLen]; omega) | omega | (simp only [numsD_len]; omega))
        all_goals
          apply VC.at
          · simp -implicitDefEqProofs only [go_sem, Nat.reduceLT, Nat.reduceAdd, Nat.reduceEqDiff, reduceIte, Nat.reduceMul, Nat.reduceSub, reduceCtorEq, Int.reduceNe, Int.reduceEq, ne_eq, Nat.reduceLeDiff, Nat.reduceMod, Nat.reduceDiv]; (try simp (disch := omega) only [i64_in, tmodn, tdivn]); exact rfl
          apply VC.regt ΦP4_ok [6]; intro K' hK; dsimp only [List.take, List.drop, List.map, strip, stripG]; simp -implicitDefEqProofs only [go_sem, Nat.reduceLT, Nat.reduceAdd, Nat.reduceEqDiff, reduceIte, Nat.reduceMul, Nat.reduceSub, reduceCtorEq, Int.reduceNe, Int.reduceEq, ne_eq, Nat.reduceLeDiff, Nat.reduceMod, Nat.reduceDiv]
          (repeat' first | (refine hK _ ?_; clear hK K') | with_reducible apply And.intro | (simp -implicitDefEqProofs (disch := omega) only [i64_in, u64_in, List.length_cons, List.length_nil, Nat.reduceAdd]; done) | (simp only [maxLen]; omega) | omega | (simp only [numsD_len]; omega))
          all_goals
            apply VC.at
            · simp -implicitDefEqProofs only [go_sem, Nat.reduceLT, Nat.reduceAdd, Nat.reduceEqDiff, reduceIte, Nat.reduceMul, Nat.reduceSub, reduceCtorEq, Int.reduceNe, Int.reduceEq, ne_eq, Nat.reduceLeDiff, Nat.reduceMod, Nat.reduceDiv]; (try simp (disch := omega) only [i64_in, tmodn, tdivn]); exact rfl
            apply VC.ret
            simp -implicitDefEqProofs only [go_sem, Nat.reduceLT, Nat.reduceAdd, Nat.reduceEqDiff, reduceIte, Nat.reduceMul, Nat.reduceSub, reduceCtorEq, Int.reduceNe, Int.reduceEq, ne_eq, Nat.reduceLeDiff, Nat.reduceMod, Nat.reduceDiv]
            (repeat' first | (refine hK _ ?_; clear hK K') | ((first | with_reducible refine runA_id ?_ | with_reducible refine goA_id ?_); simp -implicitDefEqProofs (disch := omega) only [i64_in, u64_in]; simp -implicitDefEqProofs only [go_sem, Nat.reduceLT, Nat.reduceAdd, Nat.reduceEqDiff, reduceIte, Nat.reduceMul, Nat.reduceSub, reduceCtorEq, Int.reduceNe, Int.reduceEq, ne_eq, Nat.reduceLeDiff, Nat.reduceMod, Nat.reduceDiv]) | with_reducible apply And.intro | (simp -implicitDefEqProofs (disch := omega) only [i64_in, u64_in, List.length_cons, List.length_nil, Nat.reduceAdd]; done) | (simp only [maxLen]; omega) | omega | (simp only [numsD_len]; omega))
            all_goals
              apply VC.at
              · simp -implicitDefEqProofs only [go_sem, Nat.reduceLT, Nat.reduceAdd, Nat.reduceEqDiff, reduceIte, Nat.reduceMul, Nat.reduceSub, reduceCtorEq, Int.reduceNe, Int.reduceEq, ne_eq, Nat.reduceLeDiff, Nat.reduceMod, Nat.reduceDiv]; (try simp (disch := omega) only [i64_in, tmodn, tdivn]); exact rfl
              apply VC.ret
              simp -implicitDefEqProofs only [go_sem, Nat.reduceLT, Nat.reduceAdd, Nat.reduceEqDiff, reduceIte, Nat.reduceMul, Nat.reduceSub, reduceCtorEq, Int.reduceNe, Int.reduceEq, ne_eq, Nat.reduceLeDiff, Nat.reduceMod, Nat.reduceDiv]
              (repeat' first | (refine hK _ ?_; clear hK K') | ((first | with_reducible refine runA_id ?_ | with_reducible refine goA_id ?_); simp -implicitDefEqProofs (disch := omega) only [i64_in, u64_in]; simp -implicitDefEqProofs only [go_sem, Nat.reduceLT, Nat.reduceAdd, Nat.reduceEqDiff, reduceIte, Nat.reduceMul, Nat.reduceSub, reduceCtorEq, Int.reduceNe, Int.reduceEq, ne_eq, Nat.reduceLeDiff, Nat.reduceMod, Nat.reduceDiv]) | with_reducible apply And.intro | (simp -implicitDefEqProofs (disch := omega) only [i64_in, u64_in, List.length_cons, List.length_nil, Nat.reduceAdd]; done) | (simp only [maxLen]; omega) | omega | (simp only [numsD_len]; omega))
              all_goals
                apply VC.at
                · simp -implicitDefEqProofs only [go_sem, Nat.reduceLT, Nat.reduceAdd, Nat.reduceEqDiff, reduceIte, Nat.reduceMul, Nat.reduceSub, reduceCtorEq, Int.reduceNe, Int.reduceEq, ne_eq, Nat.reduceLeDiff, Nat.reduceMod, Nat.reduceDiv]; (try simp (disch := omega) only [i64_in, tmodn, tdivn]); exact rfl
                apply VC.block
                refine VC.ent (Ent.nilC 3 0 7 36 1 (cs := [.nilsl]) (fz := false) (by decide) (by simp -implicitDefEqProofs only [go_sem, Nat.reduceLT, Nat.reduceAdd, Nat.reduceEqDiff, reduceIte, Nat.reduceMul, Nat.reduceSub, reduceCtorEq, Int.reduceNe, Int.reduceEq, ne_eq, Nat.reduceLeDiff, Nat.reduceMod, Nat.reduceDiv]) (by decide) (by simp -implicitDefEqProofs only [go_sem, Nat.reduceLT, Nat.reduceAdd, Nat.reduceEqDiff, reduceIte, Nat.reduceMul, Nat.reduceSub, reduceCtorEq, Int.reduceNe, Int.reduceEq, ne_eq, Nat.reduceLeDiff, Nat.reduceMod, Nat.reduceDiv]) rfl) ?_
                apply VC.at; · simp -implicitDefEqProofs only [go_sem, Nat.reduceLT, Nat.reduceAdd, Nat.reduceEqDiff, reduceIte, Nat.reduceMul, Nat.reduceSub, reduceCtorEq, Int.reduceNe, Int.reduceEq, ne_eq, Nat.reduceLeDiff, Nat.reduceMod, Nat.reduceDiv]; exact rfl
                refine VC.rangeO (f := 54) (ys := [.ref 5 0, .ref 4 0, .ref 6 0]) 8 9 (by decide) ?_ ?_ ?_ (by kernel_rfl) ?_ ?_
                · simp -implicitDefEqProofs only [go_sem, Nat.reduceLT, Nat.reduceAdd, Nat.reduceEqDiff, reduceIte, Nat.reduceMul, Nat.reduceSub, reduceCtorEq, Int.reduceNe, Int.reduceEq, ne_eq, Nat.reduceLeDiff, Nat.reduceMod, Nat.reduceDiv]
                · simp -implicitDefEqProofs only [go_sem, Nat.reduceLT, Nat.reduceAdd, Nat.reduceEqDiff, reduceIte, Nat.reduceMul, Nat.reduceSub, reduceCtorEq, Int.reduceNe, Int.reduceEq, ne_eq, Nat.reduceLeDiff, Nat.reduceMod, Nat.reduceDiv]
                · simp -implicitDefEqProofs only [go_sem, Nat.reduceLT, Nat.reduceAdd, Nat.reduceEqDiff, reduceIte, Nat.reduceMul, Nat.reduceSub, reduceCtorEq, Int.reduceNe, Int.reduceEq, ne_eq, Nat.reduceLeDiff, Nat.reduceMod, Nat.reduceDiv]
                · intro A B; simp -implicitDefEqProofs only [go_sem, Nat.reduceLT, Nat.reduceAdd, Nat.reduceEqDiff, reduceIte, Nat.reduceMul, Nat.reduceSub, reduceCtorEq, Int.reduceNe, Int.reduceEq, ne_eq, Nat.reduceLeDiff, Nat.reduceMod, Nat.reduceDiv]
                · intro A B hA hB
                  refine VCcall.enter (E := E) (g := 54) (fn := Tryd.f54) (rs := []) (n := 52) Tryd.func54 rfl rfl rfl ?_ ?_
                  · exact Nat.le_of_ble_eq_true rfl
                  apply VC.at
                  · simp -implicitDefEqProofs only [go_sem, Nat.reduceLT, Nat.reduceAdd, Nat.reduceEqDiff, reduceIte, Nat.reduceMul, Nat.reduceSub, reduceCtorEq, Int.reduceNe, Int.reduceEq, ne_eq, Nat.reduceLeDiff, Nat.reduceMod, Nat.reduceDiv]; exact rfl
                  apply VC.seq
                  apply VC.regt ΦP4_ok [0, 1, 2, 3, 11]; intro K' hK; dsimp only [List.take, List.drop, List.map, strip, stripG]; simp -implicitDefEqProofs only [go_sem, Nat.reduceLT, Nat.reduceAdd, Nat.reduceEqDiff, reduceIte, Nat.reduceMul, Nat.reduceSub, reduceCtorEq, Int.reduceNe, Int.reduceEq, ne_eq, Nat.reduceLeDiff, Nat.reduceMod, Nat.reduceDiv]
                  (repeat' first | (refine hK _ ?_; clear hK K') | with_reducible apply And.intro | (simp -implicitDefEqProofs (disch := omega) only [i64_in, Int.add_zero, List.length_cons, List.length_nil, Nat.reduceAdd]; done) | (simp only [maxLen]; omega) | omega | (simp -implicitDefEqProofs (disch := omega) only [Int.add_zero, i64_in, List.length_cons, List.length_nil]; omega))
                  all_goals
                    apply VC.at
                    · simp -implicitDefEqProofs only [go_sem, Nat.reduceLT, Nat.reduceAdd, Nat.reduceEqDiff, reduceIte, Nat.reduceMul, Nat.reduceSub, reduceCtorEq, Int.reduceNe, Int.reduceEq, ne_eq, Nat.reduceLeDiff, Nat.reduceMod, Nat.reduceDiv]; (try simp (disch := omega) only [i64_in, tmodn, tdivn]); exact rfl
                    first | (apply VC.condd; (focus (simp -implicitDefEqProofs only [go_sem, Nat.reduceLT, Nat.reduceAdd, Nat.reduceEqDiff, reduceIte, Nat.reduceMul, Nat.reduceSub, reduceCtorEq, Int.reduceNe, Int.reduceEq, ne_eq, Nat.reduceLeDiff, Nat.reduceMod, Nat.reduceDiv]; with_reducible exact rfl))) | (apply VC.condn; (focus (simp -implicitDefEqProofs only [go_sem, Nat.reduceLT, Nat.reduceAdd, Nat.reduceEqDiff, reduceIte, Nat.reduceMul, Nat.reduceSub, reduceCtorEq, Int.reduceNe, Int.reduceEq, ne_eq, Nat.reduceLeDiff, Nat.reduceMod, Nat.reduceDiv]; with_reducible exact rfl))) | (apply VC.condt; (focus (simp -implicitDefEqProofs only [go_sem, Nat.reduceLT, Nat.reduceAdd, Nat.reduceEqDiff, reduceIte, Nat.reduceMul, Nat.reduceSub, reduceCtorEq, Int.reduceNe, Int.reduceEq, ne_eq, Nat.reduceLeDiff, Nat.reduceMod, Nat.reduceDiv]; with_reducible exact rfl))) | (apply VC.condb; (focus (simp -implicitDefEqProofs only [go_sem, Nat.reduceLT, Nat.reduceAdd, Nat.reduceEqDiff, reduceIte, Nat.reduceMul, Nat.reduceSub, reduceCtorEq, Int.reduceNe, Int.reduceEq, ne_eq, Nat.reduceLeDiff, Nat.reduceMod, Nat.reduceDiv]; exact rfl)))
                    · intro h; try exact absurd h (by decide)
                      all_goals
                        apply VC.seq
                        apply VC.block
                        skip
                    · intro h; try exact absurd h (by decide)
                      all_goals
                        apply VC.skip
                        refine thenK_n ?_
                        apply VC.seq
                        apply VC.block
                        refine VC.loopS (ι := List UInt8 × List Nat) [0, 1, 2, 3] (fun i => []) (fun i => [(4, .cells [.dat (.str i.1)] false), (3, .cells [.sl 7 0 i.2.length] false), (7, .arr 36 1 (numsD i.2) 0)]) (fun i => i.1.length + i.2.length ≤ s.length ∧ progA i.1 [] i.2 = progA s [] []) (fun i => i.1.length) (s, []) ⟨Nat.le_refl _, rfl⟩ ?_ ?_
                        · refine Ent.to rfl rfl rfl ?_ ?_
                          · simp -implicitDefEqProofs only [go_sem, Nat.reduceLT, Nat.reduceAdd, Nat.reduceEqDiff, reduceIte, Nat.reduceMul, Nat.reduceSub, reduceCtorEq, Int.reduceNe, Int.reduceEq, ne_eq, Nat.reduceLeDiff, Nat.reduceMod, Nat.reduceDiv]; (try simp only [D.dat.injEq, Vm.Data.int.injEq, true_and, and_true, and_self, eq_self]); (try omega); (try ((repeat' apply And.intro) <;> first | omega | rfl))
                          · apply all_at
                            · simp -implicitDefEqProofs only [go_sem, Nat.reduceLT, Nat.reduceAdd, Nat.reduceEqDiff, reduceIte, Nat.reduceMul, Nat.reduceSub, reduceCtorEq, Int.reduceNe, Int.reduceEq, ne_eq, Nat.reduceLeDiff, Nat.reduceMod, Nat.reduceDiv]; exact rfl
                            · (repeat' (first | exact all_nil | (refine all_cons ?_ ?_))) <;> (simp -implicitDefEqProofs only [go_sem, Nat.reduceLT, Nat.reduceAdd, Nat.reduceEqDiff, reduceIte, Nat.reduceMul, Nat.reduceSub, reduceCtorEq, Int.reduceNe, Int.reduceEq, ne_eq, Nat.reduceLeDiff, Nat.reduceMod, Nat.reduceDiv]; (try rfl); skip)
                        · rintro ⟨r, out⟩ hp; (try dsimp only at hp); obtain ⟨hrl, hpr⟩ := hp
                          apply VC.at
                          · simp -implicitDefEqProofs only [go_sem, Nat.reduceLT, Nat.reduceAdd, Nat.reduceEqDiff, reduceIte, Nat.reduceMul, Nat.reduceSub, reduceCtorEq, Int.reduceNe, Int.reduceEq, ne_eq, Nat.reduceLeDiff, Nat.reduceMod, Nat.reduceDiv]; (try simp (disch := omega) only [i64_in, tmodn, tdivn]); exact rfl
                          apply VC.block
                          apply VC.regt ΦP4_ok [0, 1, 2, 3, 7]; intro K' hK; dsimp only [List.take, List.drop, List.map, strip, stripG]; simp -implicitDefEqProofs only [go_sem, Nat.reduceLT, Nat.reduceAdd, Nat.reduceEqDiff, reduceIte, Nat.reduceMul, Nat.reduceSub, reduceCtorEq, Int.reduceNe, Int.reduceEq, ne_eq, Nat.reduceLeDiff, Nat.reduceMod, Nat.reduceDiv]
                          (repeat' first | (refine hK _ ?_; clear hK K') | ((first | with_reducible refine runA_id ?_ | with_reducible refine goA_id ?_); simp -implicitDefEqProofs (disch := omega) only [i64_in, Int.add_zero]; simp -implicitDefEqProofs only [go_sem, Nat.reduceLT, Nat.reduceAdd, Nat.reduceEqDiff, reduceIte, Nat.reduceMul, Nat.reduceSub, reduceCtorEq, Int.reduceNe, Int.reduceEq, ne_eq, Nat.reduceLeDiff, Nat.reduceMod, Nat.reduceDiv]) | with_reducible apply And.intro | (simp -implicitDefEqProofs (disch := omega) only [i64_in, Int.add_zero, List.length_cons, List.length_nil, Nat.reduceAdd]; done) | (simp only [maxLen]; omega) | omega | (simp -implicitDefEqProofs (disch := omega) only [Int.add_zero, i64_in, List.length_cons, List.length_nil]; omega))
                          all_goals
                            apply VC.at
                            · simp -implicitDefEqProofs only [go_sem, Nat.reduceLT, Nat.reduceAdd, Nat.reduceEqDiff, reduceIte, Nat.reduceMul, Nat.reduceSub, reduceCtorEq, Int.reduceNe, Int.reduceEq, ne_eq, Nat.reduceLeDiff, Nat.reduceMod, Nat.reduceDiv]; (try simp (disch := omega) only [i64_in, tmodn, tdivn]); exact rfl
                            apply VC.seq
                            apply VC.regt ΦP4_ok [0, 1, 2, 3, 7, 33]; intro K' hK; dsimp only [List.take, List.drop, List.map, strip, stripG]; simp -implicitDefEqProofs only [go_sem, Nat.reduceLT, Nat.reduceAdd, Nat.reduceEqDiff, reduceIte, Nat.reduceMul, Nat.reduceSub, reduceCtorEq, Int.reduceNe, Int.reduceEq, ne_eq, Nat.reduceLeDiff, Nat.reduceMod, Nat.reduceDiv]
                            (repeat' first | (refine hK _ ?_; clear hK K') | with_reducible apply And.intro | (simp -implicitDefEqProofs (disch := omega) only [i64_in, Int.add_zero, List.length_cons, List.length_nil, Nat.reduceAdd]; done) | (simp only [maxLen]; omega) | omega | (simp -implicitDefEqProofs (disch := omega) only [Int.add_zero, i64_in, List.length_cons, List.length_nil]; omega))
                            all_goals
                              apply VC.at
                              · simp -implicitDefEqProofs only [go_sem, Nat.reduceLT, Nat.reduceAdd, Nat.reduceEqDiff, reduceIte, Nat.reduceMul, Nat.reduceSub, reduceCtorEq, Int.reduceNe, Int.reduceEq, ne_eq, Nat.reduceLeDiff, Nat.reduceMod, Nat.reduceDiv]; (try simp (disch := omega) only [i64_in, tmodn, tdivn]); exact rfl
                              first | (apply VC.condd; (focus (simp -implicitDefEqProofs only [go_sem, Nat.reduceLT, Nat.reduceAdd, Nat.reduceEqDiff, reduceIte, Nat.reduceMul, Nat.reduceSub, reduceCtorEq, Int.reduceNe, Int.reduceEq, ne_eq, Nat.reduceLeDiff, Nat.reduceMod, Nat.reduceDiv]; with_reducible exact rfl))) | (apply VC.condn; (focus (simp -implicitDefEqProofs only [go_sem, Nat.reduceLT, Nat.reduceAdd, Nat.reduceEqDiff, reduceIte, Nat.reduceMul, Nat.reduceSub, reduceCtorEq, Int.reduceNe, Int.reduceEq, ne_eq, Nat.reduceLeDiff, Nat.reduceMod, Nat.reduceDiv]; with_reducible exact rfl))) | (apply VC.condt; (focus (simp -implicitDefEqProofs only [go_sem, Nat.reduceLT, Nat.reduceAdd, Nat.reduceEqDiff, reduceIte, Nat.reduceMul, Nat.reduceSub, reduceCtorEq, Int.reduceNe, Int.reduceEq, ne_eq, Nat.reduceLeDiff, Nat.reduceMod, Nat.reduceDiv]; with_reducible exact rfl))) | (apply VC.condb; (focus (simp -implicitDefEqProofs only [go_sem, Nat.reduceLT, Nat.reduceAdd, Nat.reduceEqDiff, reduceIte, Nat.reduceMul, Nat.reduceSub, reduceCtorEq, Int.reduceNe, Int.reduceEq, ne_eq, Nat.reduceLeDiff, Nat.reduceMod, Nat.reduceDiv]; exact rfl)))
                              · intro h; try exact absurd h (by decide)
                                all_goals
                                  apply VC.exit
                                  refine thenK_e ?_
                                  refine blockK_m (by decide) ?_
                                  refine thenK_e ?_
                                  refine blockK_e ?_
                                  refine thenK_n ?_
                                  apply VC.regLast ΦP4_ok; intro K' hK; dsimp only [List.take, List.drop, List.map, strip, stripG]; simp -implicitDefEqProofs only [go_sem, Nat.reduceLT, Nat.reduceAdd, Nat.reduceEqDiff, reduceIte, Nat.reduceMul, Nat.reduceSub, reduceCtorEq, Int.reduceNe, Int.reduceEq, ne_eq, Nat.reduceLeDiff, Nat.reduceMod, Nat.reduceDiv]
                                  apply VCyield.round
                                  · simp -implicitDefEqProofs only [go_sem, Nat.reduceLT, Nat.reduceAdd, Nat.reduceEqDiff, reduceIte, Nat.reduceMul, Nat.reduceSub, reduceCtorEq, Int.reduceNe, Int.reduceEq, ne_eq, Nat.reduceLeDiff, Nat.reduceMod, Nat.reduceDiv]; exact rfl
                                  · rfl
                                  · decide
                                  refine VC.code hA ?_
                                  apply VC.at
                                  · simp -implicitDefEqProofs only [go_sem, Nat.reduceLT, Nat.reduceAdd, Nat.reduceEqDiff, reduceIte, Nat.reduceMul, Nat.reduceSub, reduceCtorEq, Int.reduceNe, Int.reduceEq, ne_eq, Nat.reduceLeDiff, Nat.reduceMod, Nat.reduceDiv]; exact rfl
                                  apply VC.regLast ΦP4_ok; intro K' hK; dsimp only [List.take, List.drop, List.map, strip, stripG]; simp -implicitDefEqProofs only [go_sem, Nat.reduceLT, Nat.reduceAdd, Nat.reduceEqDiff, reduceIte, Nat.reduceMul, Nat.reduceSub, reduceCtorEq, Int.reduceNe, Int.reduceEq, ne_eq, Nat.reduceLeDiff, Nat.reduceMod, Nat.reduceDiv]
                                  (repeat' first | (refine hK _ ?_; clear hK K') | with_reducible apply And.intro | (simp only [maxLen]; omega) | omega | (rw [List.length_take]; omega))
                                  all_goals
                                    simp -implicitDefEqProofs only [go_sem, Nat.reduceLT, Nat.reduceAdd, Nat.reduceEqDiff, reduceIte, Nat.reduceMul, Nat.reduceSub, reduceCtorEq, Int.reduceNe, Int.reduceEq, ne_eq, Nat.reduceLeDiff, Nat.reduceMod, Nat.reduceDiv]
                                    refine VC.code hB ?_
                                    rcases hpu : puN (r) with n | _ | _
                                    all_goals
                                      apply VC.block
                                      apply VC.regt ΦP4_ok [2, 3, 4, 6, 7]; intro K' hK; dsimp only [List.take, List.drop, List.map, strip, stripG]; simp -implicitDefEqProofs only [go_sem, Nat.reduceLT, Nat.reduceAdd, Nat.reduceEqDiff, reduceIte, Nat.reduceMul, Nat.reduceSub, reduceCtorEq, Int.reduceNe, Int.reduceEq, ne_eq, Nat.reduceLeDiff, Nat.reduceMod, Nat.reduceDiv, hpu]
                                      (repeat' first | (refine hK _ ?_; clear hK K') | with_reducible apply And.intro | (simp only [maxLen]; omega) | omega | (rw [List.length_take]; omega))
                                      all_goals
                                        apply VC.at
                                        · simp -implicitDefEqProofs only [go_sem, Nat.reduceLT, Nat.reduceAdd, Nat.reduceEqDiff, reduceIte, Nat.reduceMul, Nat.reduceSub, reduceCtorEq, Int.reduceNe, Int.reduceEq, ne_eq, Nat.reduceLeDiff, Nat.reduceMod, Nat.reduceDiv, hpu]; (try simp (disch := omega) only [i64_in, tmodn, tdivn]); exact rfl
                                        apply VC.seq
                                        apply VC.regt ΦP4_ok [2, 3, 4, 6, 19]; intro K' hK; dsimp only [List.take, List.drop, List.map, strip, stripG]; simp -implicitDefEqProofs only [go_sem, Nat.reduceLT, Nat.reduceAdd, Nat.reduceEqDiff, reduceIte, Nat.reduceMul, Nat.reduceSub, reduceCtorEq, Int.reduceNe, Int.reduceEq, ne_eq, Nat.reduceLeDiff, Nat.reduceMod, Nat.reduceDiv, hpu]
                                        (repeat' first | (refine hK _ ?_; clear hK K') | with_reducible apply And.intro | (simp only [maxLen]; omega) | omega | (rw [List.length_take]; omega))
                                        all_goals
                                          apply VC.at
                                          · simp -implicitDefEqProofs only [go_sem, Nat.reduceLT, Nat.reduceAdd, Nat.reduceEqDiff, reduceIte, Nat.reduceMul, Nat.reduceSub, reduceCtorEq, Int.reduceNe, Int.reduceEq, ne_eq, Nat.reduceLeDiff, Nat.reduceMod, Nat.reduceDiv, hpu]; (try simp (disch := omega) only [i64_in, tmodn, tdivn]); exact rfl
                                          first | (apply VC.condd; (focus (simp -implicitDefEqProofs only [go_sem, Nat.reduceLT, Nat.reduceAdd, Nat.reduceEqDiff, reduceIte, Nat.reduceMul, Nat.reduceSub, reduceCtorEq, Int.reduceNe, Int.reduceEq, ne_eq, Nat.reduceLeDiff, Nat.reduceMod, Nat.reduceDiv, hpu]; with_reducible exact rfl))) | (apply VC.condn; (focus (simp -implicitDefEqProofs only [go_sem, Nat.reduceLT, Nat.reduceAdd, Nat.reduceEqDiff, reduceIte, Nat.reduceMul, Nat.reduceSub, reduceCtorEq, Int.reduceNe, Int.reduceEq, ne_eq, Nat.reduceLeDiff, Nat.reduceMod, Nat.reduceDiv, hpu]; with_reducible exact rfl))) | (apply VC.condt; (focus (simp -implicitDefEqProofs only [go_sem, Nat.reduceLT, Nat.reduceAdd, Nat.reduceEqDiff, reduceIte, Nat.reduceMul, Nat.reduceSub, reduceCtorEq, Int.reduceNe, Int.reduceEq, ne_eq, Nat.reduceLeDiff, Nat.reduceMod, Nat.reduceDiv, hpu]; with_reducible exact rfl))) | (apply VC.condb; (focus (simp -implicitDefEqProofs only [go_sem, Nat.reduceLT, Nat.reduceAdd, Nat.reduceEqDiff, reduceIte, Nat.reduceMul, Nat.reduceSub, reduceCtorEq, Int.reduceNe, Int.reduceEq, ne_eq, Nat.reduceLeDiff, Nat.reduceMod, Nat.reduceDiv, hpu]; exact rfl)))
                                          · intro h; try exact absurd h (by decide)
                                            all_goals
                                              apply VC.regt ΦP4_ok [2, 3]; intro K' hK; dsimp only [List.take, List.drop, List.map, strip, stripG]; simp -implicitDefEqProofs only [go_sem, Nat.reduceLT, Nat.reduceAdd, Nat.reduceEqDiff, reduceIte, Nat.reduceMul, Nat.reduceSub, reduceCtorEq, Int.reduceNe, Int.reduceEq, ne_eq, Nat.reduceLeDiff, Nat.reduceMod, Nat.reduceDiv, hpu]
                                              (repeat' first | (refine hK _ ?_; clear hK K') | with_reducible apply And.intro | (simp only [maxLen]; omega) | omega | (rw [List.length_take]; omega))
                                              all_goals
                                                apply VC.at
                                                · simp -implicitDefEqProofs only [go_sem, Nat.reduceLT, Nat.reduceAdd, Nat.reduceEqDiff, reduceIte, Nat.reduceMul, Nat.reduceSub, reduceCtorEq, Int.reduceNe, Int.reduceEq, ne_eq, Nat.reduceLeDiff, Nat.reduceMod, Nat.reduceDiv, hpu]; (try simp (disch := omega) only [i64_in, tmodn, tdivn]); exact rfl
                                                apply VC.ret
                                                refine thenK_r ?_
                                                refine blockK_r ?_
                                                simp -implicitDefEqProofs only [go_sem, Nat.reduceLT, Nat.reduceAdd, Nat.reduceEqDiff, reduceIte, Nat.reduceMul, Nat.reduceSub, reduceCtorEq, Int.reduceNe, Int.reduceEq, ne_eq, Nat.reduceLeDiff, Nat.reduceMod, Nat.reduceDiv, hpu]
                                                (repeat' first | (refine hK _ ?_; clear hK K') | ((first | with_reducible refine runA_id ?_ | with_reducible refine goA_id ?_); simp -implicitDefEqProofs (disch := omega) only [i64_in, Int.add_zero]; simp -implicitDefEqProofs only [go_sem, Nat.reduceLT, Nat.reduceAdd, Nat.reduceEqDiff, reduceIte, Nat.reduceMul, Nat.reduceSub, reduceCtorEq, Int.reduceNe, Int.reduceEq, ne_eq, Nat.reduceLeDiff, Nat.reduceMod, Nat.reduceDiv]) | with_reducible apply And.intro | (simp -implicitDefEqProofs (disch := omega) only [i64_in, Int.add_zero, List.length_cons, List.length_nil, Nat.reduceAdd]; done) | (simp only [maxLen]; omega) | omega | (simp -implicitDefEqProofs (disch := omega) only [Int.add_zero, i64_in, List.length_cons, List.length_nil]; omega))
                                                all_goals
                                                  simp -implicitDefEqProofs only [go_sem, Nat.reduceLT, Nat.reduceAdd, Nat.reduceEqDiff, reduceIte, Nat.reduceMul, Nat.reduceSub, reduceCtorEq, Int.reduceNe, Int.reduceEq, ne_eq, Nat.reduceLeDiff, Nat.reduceMod, Nat.reduceDiv]
                                                  apply aftS_d
                                                  · simp -implicitDefEqProofs only [go_sem, Nat.reduceLT, Nat.reduceAdd, Nat.reduceEqDiff, reduceIte, Nat.reduceMul, Nat.reduceSub, reduceCtorEq, Int.reduceNe, Int.reduceEq, ne_eq, Nat.reduceLeDiff, Nat.reduceMod, Nat.reduceDiv]; exact rfl
                                                  apply VC.ret
                                                  refine blockK_r ?_
                                                  refine thenK_r ?_
                                                  first | (refine pureK_r (pureS_one (l := 8) (by simp -implicitDefEqProofs only [go_sem, Nat.reduceLT, Nat.reduceAdd, Nat.reduceEqDiff, reduceIte, Nat.reduceMul, Nat.reduceSub, reduceCtorEq, Int.reduceNe, Int.reduceEq, ne_eq, Nat.reduceLeDiff, Nat.reduceMod, Nat.reduceDiv]) ?_)) | skip
                                                  simp -implicitDefEqProofs only [go_sem, Nat.reduceLT, Nat.reduceAdd, Nat.reduceEqDiff, reduceIte, Nat.reduceMul, Nat.reduceSub, reduceCtorEq, Int.reduceNe, Int.reduceEq, ne_eq, Nat.reduceLeDiff, Nat.reduceMod, Nat.reduceDiv]
                                                  all_goals (first | (rw [parseP_none (by rw [← hpr, idx_neg r [] out (by assumption), List.nil_append]; first | rw [wordP_syntax hpu] | rw [wordP_range hpu])]; rfl) | (rw [parseP_none (by rw [← hpr, hpi, List.nil_append]; first | rw [wordP_syntax hpu] | rw [wordP_range hpu])]; rfl) | (rw [parseP_bad hP (by rintro ⟨h1, h2⟩; simp_all; done)]; rfl) | (rw [parseP_yes hP (by simp_all; done)]; rfl))
                                          · intro h; try exact absurd h (by decide)
                                            all_goals
                                              apply VC.skip
                                              refine thenK_n ?_
                                              apply VC.regLast ΦP4_ok; intro K' hK; dsimp only [List.take, List.drop, List.map, strip, stripG]; simp -implicitDefEqProofs only [go_sem, Nat.reduceLT, Nat.reduceAdd, Nat.reduceEqDiff, reduceIte, Nat.reduceMul, Nat.reduceSub, reduceCtorEq, Int.reduceNe, Int.reduceEq, ne_eq, Nat.reduceLeDiff, Nat.reduceMod, Nat.reduceDiv, hpu]
                                              (repeat' first | (refine hK _ ?_; clear hK K') | with_reducible apply And.intro | (simp only [maxLen]; omega) | omega | (rw [List.length_take]; omega))
                                              all_goals
                                                refine blockK_n ?_
                                                simp -implicitDefEqProofs only [go_sem, Nat.reduceLT, Nat.reduceAdd, Nat.reduceEqDiff, reduceIte, Nat.reduceMul, Nat.reduceSub, reduceCtorEq, Int.reduceNe, Int.reduceEq, ne_eq, Nat.reduceLeDiff, Nat.reduceMod, Nat.reduceDiv, hpu]
                                                (repeat' first | (refine hK _ ?_; clear hK K') | ((first | with_reducible refine runA_id ?_ | with_reducible refine goA_id ?_); simp -implicitDefEqProofs (disch := omega) only [i64_in, Int.add_zero]; simp -implicitDefEqProofs only [go_sem, Nat.reduceLT, Nat.reduceAdd, Nat.reduceEqDiff, reduceIte, Nat.reduceMul, Nat.reduceSub, reduceCtorEq, Int.reduceNe, Int.reduceEq, ne_eq, Nat.reduceLeDiff, Nat.reduceMod, Nat.reduceDiv]) | with_reducible apply And.intro | (simp -implicitDefEqProofs (disch := omega) only [i64_in, Int.add_zero, List.length_cons, List.length_nil, Nat.reduceAdd]; done) | (simp only [maxLen]; omega) | omega | (simp -implicitDefEqProofs (disch := omega) only [Int.add_zero, i64_in, List.length_cons, List.length_nil]; omega))
                                                all_goals
                                                  simp -implicitDefEqProofs only [go_sem, Nat.reduceLT, Nat.reduceAdd, Nat.reduceEqDiff, reduceIte, Nat.reduceMul, Nat.reduceSub, reduceCtorEq, Int.reduceNe, Int.reduceEq, ne_eq, Nat.reduceLeDiff, Nat.reduceMod, Nat.reduceDiv]
                                                  apply aftS_n
                                                  · simp -implicitDefEqProofs only [go_sem, Nat.reduceLT, Nat.reduceAdd, Nat.reduceEqDiff, reduceIte, Nat.reduceMul, Nat.reduceSub, reduceCtorEq, Int.reduceNe, Int.reduceEq, ne_eq, Nat.reduceLeDiff, Nat.reduceMod, Nat.reduceDiv]; exact rfl
                                                  refine blockK_n ?_
                                                  refine thenK_n ?_
                                                  apply VC.seq
                                                  have hP : progA s [] [] = some (out ++ [n]) := by rw [← hpr, idx_neg r [] out (by assumption), List.nil_append, wordP_some hpu]
                                                  have hL : (out ++ [n]).length ≤ s.length + 1 := by simp; omega
                                                  simp only [numsD_take_len, numsD_snoc, show out.length + 1 = (out ++ [n]).length by simp]
                                                  generalize out ++ [n] = L at *
                                                  apply VC.regt ΦP4_ok [0, 2, 3, 4, 8, 9]; intro K' hK; dsimp only [List.take, List.drop, List.map, strip, stripG]; simp -implicitDefEqProofs only [go_sem, Nat.reduceLT, Nat.reduceAdd, Nat.reduceEqDiff, reduceIte, Nat.reduceMul, Nat.reduceSub, reduceCtorEq, Int.reduceNe, Int.reduceEq, ne_eq, Nat.reduceLeDiff, Nat.reduceMod, Nat.reduceDiv]
                                                  (repeat' first | (refine hK _ ?_; clear hK K') | ((first | with_reducible refine runA_id ?_ | with_reducible refine goA_id ?_); simp -implicitDefEqProofs (disch := omega) only [i64_in, u64_in]; simp -implicitDefEqProofs only [go_sem, Nat.reduceLT, Nat.reduceAdd, Nat.reduceEqDiff, reduceIte, Nat.reduceMul, Nat.reduceSub, reduceCtorEq, Int.reduceNe, Int.reduceEq, ne_eq, Nat.reduceLeDiff, Nat.reduceMod, Nat.reduceDiv]) | with_reducible apply And.intro | (simp -implicitDefEqProofs (disch := omega) only [i64_in, u64_in, List.length_cons, List.length_nil, Nat.reduceAdd]; done) | (simp only [maxLen]; omega) | omega | (simp only [numsD_len]; omega))
                                                  all_goals
                                                    apply VC.at
                                                    · simp -implicitDefEqProofs only [go_sem, Nat.reduceLT, Nat.reduceAdd, Nat.reduceEqDiff, reduceIte, Nat.reduceMul, Nat.reduceSub, reduceCtorEq, Int.reduceNe, Int.reduceEq, ne_eq, Nat.reduceLeDiff, Nat.reduceMod, Nat.reduceDiv]; (try simp (disch := omega) only [i64_in, tmodn, tdivn]); exact rfl
                                                    apply VC.regt ΦP4_ok [2, 3, 4, 35]; intro K' hK; dsimp only [List.take, List.drop, List.map, strip, stripG]; simp only [gtmp, List.getElem?_toArray, List.getElem?_cons_succ, List.getElem?_cons_zero, Option.bind_some]; simp -implicitDefEqProofs only [go_sem, Nat.reduceLT, Nat.reduceAdd, Nat.reduceEqDiff, reduceIte, Nat.reduceMul, Nat.reduceSub, reduceCtorEq, Int.reduceNe, Int.reduceEq, ne_eq, Nat.reduceLeDiff, Nat.reduceMod, Nat.reduceDiv]
                                                    (repeat' first | (refine hK _ ?_; clear hK K') | (first | apply goB_splitD | apply goA_splitD | apply goB_split | apply goA_split | apply goA_all) <;> intro _ <;> simp -implicitDefEqProofs only [go_sem, Nat.reduceLT, Nat.reduceAdd, Nat.reduceEqDiff, reduceIte, Nat.reduceMul, Nat.reduceSub, reduceCtorEq, Int.reduceNe, Int.reduceEq, ne_eq, Nat.reduceLeDiff, Nat.reduceMod, Nat.reduceDiv] | with_reducible apply And.intro | (simp -implicitDefEqProofs (disch := omega) only [i64_in, u64_in, List.length_cons, List.length_nil, Nat.reduceAdd]; done) | (simp only [maxLen]; omega) | omega | (simp only [numsD_len]; omega))
                                                    all_goals
                                                      apply VC.at
                                                      · simp -implicitDefEqProofs only [go_sem, Nat.reduceLT, Nat.reduceAdd, Nat.reduceEqDiff, reduceIte, Nat.reduceMul, Nat.reduceSub, reduceCtorEq, Int.reduceNe, Int.reduceEq, ne_eq, Nat.reduceLeDiff, Nat.reduceMod, Nat.reduceDiv]; (try simp (disch := omega) only [i64_in, tmodn, tdivn]); exact rfl
                                                      first | (apply VC.condd; (focus (simp -implicitDefEqProofs only [go_sem, Nat.reduceLT, Nat.reduceAdd, Nat.reduceEqDiff, reduceIte, Nat.reduceMul, Nat.reduceSub, reduceCtorEq, Int.reduceNe, Int.reduceEq, ne_eq, Nat.reduceLeDiff, Nat.reduceMod, Nat.reduceDiv]; with_reducible exact rfl))) | (apply VC.condn; (focus (simp -implicitDefEqProofs only [go_sem, Nat.reduceLT, Nat.reduceAdd, Nat.reduceEqDiff, reduceIte, Nat.reduceMul, Nat.reduceSub, reduceCtorEq, Int.reduceNe, Int.reduceEq, ne_eq, Nat.reduceLeDiff, Nat.reduceMod, Nat.reduceDiv]; with_reducible exact rfl))) | (apply VC.condt; (focus (simp -implicitDefEqProofs only [go_sem, Nat.reduceLT, Nat.reduceAdd, Nat.reduceEqDiff, reduceIte, Nat.reduceMul, Nat.reduceSub, reduceCtorEq, Int.reduceNe, Int.reduceEq, ne_eq, Nat.reduceLeDiff, Nat.reduceMod, Nat.reduceDiv]; with_reducible exact rfl))) | (apply VC.condb; (focus (simp -implicitDefEqProofs only [go_sem, Nat.reduceLT, Nat.reduceAdd, Nat.reduceEqDiff, reduceIte, Nat.reduceMul, Nat.reduceSub, reduceCtorEq, Int.reduceNe, Int.reduceEq, ne_eq, Nat.reduceLeDiff, Nat.reduceMod, Nat.reduceDiv]; exact rfl)))
                                                      · intro h; try exact absurd h (by decide)
                                                        all_goals
                                                          apply VC.regt ΦP4_ok [2, 3]; intro K' hK; dsimp only [List.take, List.drop, List.map, strip, stripG]; simp -implicitDefEqProofs only [go_sem, Nat.reduceLT, Nat.reduceAdd, Nat.reduceEqDiff, reduceIte, Nat.reduceMul, Nat.reduceSub, reduceCtorEq, Int.reduceNe, Int.reduceEq, ne_eq, Nat.reduceLeDiff, Nat.reduceMod, Nat.reduceDiv]
                                                          (repeat' first | (refine hK _ ?_; clear hK K') | with_reducible apply And.intro | (simp -implicitDefEqProofs (disch := omega) only [i64_in, u64_in, List.length_cons, List.length_nil, Nat.reduceAdd]; done) | (simp only [maxLen]; omega) | omega | (simp only [numsD_len]; omega))
                                                          all_goals
                                                            apply VC.at
                                                            · simp -implicitDefEqProofs only [go_sem, Nat.reduceLT, Nat.reduceAdd, Nat.reduceEqDiff, reduceIte, Nat.reduceMul, Nat.reduceSub, reduceCtorEq, Int.reduceNe, Int.reduceEq, ne_eq, Nat.reduceLeDiff, Nat.reduceMod, Nat.reduceDiv]; (try simp (disch := omega) only [i64_in, tmodn, tdivn]); exact rfl
                                                            apply VC.ret
                                                            refine thenK_r ?_
                                                            first | (refine pureK_r (pureS_one (l := 8) (by simp -implicitDefEqProofs only [go_sem, Nat.reduceLT, Nat.reduceAdd, Nat.reduceEqDiff, reduceIte, Nat.reduceMul, Nat.reduceSub, reduceCtorEq, Int.reduceNe, Int.reduceEq, ne_eq, Nat.reduceLeDiff, Nat.reduceMod, Nat.reduceDiv]) ?_)) | skip
                                                            simp -implicitDefEqProofs only [go_sem, Nat.reduceLT, Nat.reduceAdd, Nat.reduceEqDiff, reduceIte, Nat.reduceMul, Nat.reduceSub, reduceCtorEq, Int.reduceNe, Int.reduceEq, ne_eq, Nat.reduceLeDiff, Nat.reduceMod, Nat.reduceDiv]
                                                            all_goals (first | (rw [parseP_none (by rw [← hpr, idx_neg r [] out (by assumption), List.nil_append]; first | rw [wordP_syntax hpu] | rw [wordP_range hpu])]; rfl) | (rw [parseP_none (by rw [← hpr, hpi, List.nil_append]; first | rw [wordP_syntax hpu] | rw [wordP_range hpu])]; rfl) | (rw [parseP_bad hP (by rintro ⟨h1, h2⟩; simp_all; done)]; rfl) | (rw [parseP_yes hP (by simp_all; done)]; rfl))
                                                      · intro h; try exact absurd h (by decide)
                                                        all_goals
                                                          apply VC.skip
                                                          refine thenK_n ?_
                                                          apply VC.regt ΦP4_ok [2, 3]; intro K' hK; dsimp only [List.take, List.drop, List.map, strip, stripG]; simp -implicitDefEqProofs only [go_sem, Nat.reduceLT, Nat.reduceAdd, Nat.reduceEqDiff, reduceIte, Nat.reduceMul, Nat.reduceSub, reduceCtorEq, Int.reduceNe, Int.reduceEq, ne_eq, Nat.reduceLeDiff, Nat.reduceMod, Nat.reduceDiv]
                                                          (repeat' first | (refine hK _ ?_; clear hK K') | with_reducible apply And.intro | (simp -implicitDefEqProofs (disch := omega) only [i64_in, u64_in, List.length_cons, List.length_nil, Nat.reduceAdd]; done) | (simp only [maxLen]; omega) | omega | (simp only [numsD_len]; omega))
                                                          all_goals
                                                            apply VC.at
                                                            · simp -implicitDefEqProofs only [go_sem, Nat.reduceLT, Nat.reduceAdd, Nat.reduceEqDiff, reduceIte, Nat.reduceMul, Nat.reduceSub, reduceCtorEq, Int.reduceNe, Int.reduceEq, ne_eq, Nat.reduceLeDiff, Nat.reduceMod, Nat.reduceDiv]; (try simp (disch := omega) only [i64_in, tmodn, tdivn]); exact rfl
                                                            apply VC.ret
                                                            first | (refine pureK_r (pureS_one (l := 8) (by simp -implicitDefEqProofs only [go_sem, Nat.reduceLT, Nat.reduceAdd, Nat.reduceEqDiff, reduceIte, Nat.reduceMul, Nat.reduceSub, reduceCtorEq, Int.reduceNe, Int.reduceEq, ne_eq, Nat.reduceLeDiff, Nat.reduceMod, Nat.reduceDiv]) ?_)) | skip
                                                            simp -implicitDefEqProofs only [go_sem, Nat.reduceLT, Nat.reduceAdd, Nat.reduceEqDiff, reduceIte, Nat.reduceMul, Nat.reduceSub, reduceCtorEq, Int.reduceNe, Int.reduceEq, ne_eq, Nat.reduceLeDiff, Nat.reduceMod, Nat.reduceDiv]
                                                            all_goals (first | (rw [parseP_none (by rw [← hpr, idx_neg r [] out (by assumption), List.nil_append]; first | rw [wordP_syntax hpu] | rw [wordP_range hpu])]; rfl) | (rw [parseP_none (by rw [← hpr, hpi, List.nil_append]; first | rw [wordP_syntax hpu] | rw [wordP_range hpu])]; rfl) | (rw [parseP_bad hP (by rintro ⟨h1, h2⟩; simp_all; done)]; rfl) | (rw [parseP_yes hP (by simp_all; done)]; rfl))
                              · intro h; try exact absurd h (by decide)
                                all_goals
                                  apply VC.skip
                                  refine thenK_n ?_
                                  obtain ⟨i, hi, hil, hpi⟩ := idx_pos r [] out h
                                  simp only [hi]
                                  apply VC.regt ΦP4_ok [0, 1, 2, 3, 7, 8]; intro K' hK; dsimp only [List.take, List.drop, List.map, strip, stripG]; simp -implicitDefEqProofs only [go_sem, Nat.reduceLT, Nat.reduceAdd, Nat.reduceEqDiff, reduceIte, Nat.reduceMul, Nat.reduceSub, reduceCtorEq, Int.reduceNe, Int.reduceEq, ne_eq, Nat.reduceLeDiff, Nat.reduceMod, Nat.reduceDiv]
                                  (repeat' first | (refine hK _ ?_; clear hK K') | ((first | with_reducible refine runA_id ?_ | with_reducible refine goA_id ?_); simp -implicitDefEqProofs (disch := omega) only [i64_in, Int.add_zero]; simp -implicitDefEqProofs only [go_sem, Nat.reduceLT, Nat.reduceAdd, Nat.reduceEqDiff, reduceIte, Nat.reduceMul, Nat.reduceSub, reduceCtorEq, Int.reduceNe, Int.reduceEq, ne_eq, Nat.reduceLeDiff, Nat.reduceMod, Nat.reduceDiv]) | with_reducible apply And.intro | (simp -implicitDefEqProofs (disch := omega) only [i64_in, Int.add_zero, List.length_cons, List.length_nil, Nat.reduceAdd]; done) | (simp only [maxLen]; omega) | omega | (simp -implicitDefEqProofs (disch := omega) only [Int.add_zero, i64_in, List.length_cons, List.length_nil]; omega))
                                  all_goals
                                    apply VC.at
                                    · simp -implicitDefEqProofs only [go_sem, Nat.reduceLT, Nat.reduceAdd, Nat.reduceEqDiff, reduceIte, Nat.reduceMul, Nat.reduceSub, reduceCtorEq, Int.reduceNe, Int.reduceEq, ne_eq, Nat.reduceLeDiff, Nat.reduceMod, Nat.reduceDiv]; (try simp (disch := omega) only [i64_in, tmodn, tdivn]); (try simp (disch := omega) only [Int.add_zero, i64_in, Int.sub_zero, Int.toNat_natCast, Int.toNat_zero, List.drop_zero]); exact rfl
                                    apply VC.seq
                                    apply VC.regt ΦP4_ok [0, 1, 2, 3, 7, 42]; intro K' hK; dsimp only [List.take, List.drop, List.map, strip, stripG]; simp -implicitDefEqProofs only [go_sem, Nat.reduceLT, Nat.reduceAdd, Nat.reduceEqDiff, reduceIte, Nat.reduceMul, Nat.reduceSub, reduceCtorEq, Int.reduceNe, Int.reduceEq, ne_eq, Nat.reduceLeDiff, Nat.reduceMod, Nat.reduceDiv]
                                    apply VCyield.round
                                    · simp -implicitDefEqProofs only [go_sem, Nat.reduceLT, Nat.reduceAdd, Nat.reduceEqDiff, reduceIte, Nat.reduceMul, Nat.reduceSub, reduceCtorEq, Int.reduceNe, Int.reduceEq, ne_eq, Nat.reduceLeDiff, Nat.reduceMod, Nat.reduceDiv]; exact rfl
                                    · rfl
                                    · decide
                                    refine VC.code hA ?_
                                    apply VC.at
                                    · simp -implicitDefEqProofs only [go_sem, Nat.reduceLT, Nat.reduceAdd, Nat.reduceEqDiff, reduceIte, Nat.reduceMul, Nat.reduceSub, reduceCtorEq, Int.reduceNe, Int.reduceEq, ne_eq, Nat.reduceLeDiff, Nat.reduceMod, Nat.reduceDiv]; exact rfl
                                    apply VC.regLast ΦP4_ok; intro K' hK; dsimp only [List.take, List.drop, List.map, strip, stripG]; simp -implicitDefEqProofs only [go_sem, Nat.reduceLT, Nat.reduceAdd, Nat.reduceEqDiff, reduceIte, Nat.reduceMul, Nat.reduceSub, reduceCtorEq, Int.reduceNe, Int.reduceEq, ne_eq, Nat.reduceLeDiff, Nat.reduceMod, Nat.reduceDiv]
                                    (repeat' first | (refine hK _ ?_; clear hK K') | with_reducible apply And.intro | (simp only [maxLen]; omega) | omega | (rw [List.length_take]; omega))
                                    all_goals
                                      simp -implicitDefEqProofs only [go_sem, Nat.reduceLT, Nat.reduceAdd, Nat.reduceEqDiff, reduceIte, Nat.reduceMul, Nat.reduceSub, reduceCtorEq, Int.reduceNe, Int.reduceEq, ne_eq, Nat.reduceLeDiff, Nat.reduceMod, Nat.reduceDiv]
                                      refine VC.code hB ?_
                                      rcases hpu : puN (r.take i) with n | _ | _
                                      all_goals
                                        apply VC.block
                                        apply VC.regt ΦP4_ok [2, 3, 4, 6, 7]; intro K' hK; dsimp only [List.take, List.drop, List.map, strip, stripG]; simp -implicitDefEqProofs only [go_sem, Nat.reduceLT, Nat.reduceAdd, Nat.reduceEqDiff, reduceIte, Nat.reduceMul, Nat.reduceSub, reduceCtorEq, Int.reduceNe, Int.reduceEq, ne_eq, Nat.reduceLeDiff, Nat.reduceMod, Nat.reduceDiv, hpu]
                                        (repeat' first | (refine hK _ ?_; clear hK K') | with_reducible apply And.intro | (simp only [maxLen]; omega) | omega | (rw [List.length_take]; omega))
                                        all_goals
                                          apply VC.at
                                          · simp -implicitDefEqProofs only [go_sem, Nat.reduceLT, Nat.reduceAdd, Nat.reduceEqDiff, reduceIte, Nat.reduceMul, Nat.reduceSub, reduceCtorEq, Int.reduceNe, Int.reduceEq, ne_eq, Nat.reduceLeDiff, Nat.reduceMod, Nat.reduceDiv, hpu]; (try simp (disch := omega) only [i64_in, tmodn, tdivn]); exact rfl
                                          apply VC.seq
                                          apply VC.regt ΦP4_ok [2, 3, 4, 6, 19]; intro K' hK; dsimp only [List.take, List.drop, List.map, strip, stripG]; simp -implicitDefEqProofs only [go_sem, Nat.reduceLT, Nat.reduceAdd, Nat.reduceEqDiff, reduceIte, Nat.reduceMul, Nat.reduceSub, reduceCtorEq, Int.reduceNe, Int.reduceEq, ne_eq, Nat.reduceLeDiff, Nat.reduceMod, Nat.reduceDiv, hpu]
                                          (repeat' first | (refine hK _ ?_; clear hK K') | with_reducible apply And.intro | (simp only [maxLen]; omega) | omega | (rw [List.length_take]; omega))
                                          all_goals
                                            apply VC.at
                                            · simp -implicitDefEqProofs only [go_sem, Nat.reduceLT, Nat.reduceAdd, Nat.reduceEqDiff, reduceIte, Nat.reduceMul, Nat.reduceSub, reduceCtorEq, Int.reduceNe, Int.reduceEq, ne_eq, Nat.reduceLeDiff, Nat.reduceMod, Nat.reduceDiv, hpu]; (try simp (disch := omega) only [i64_in, tmodn, tdivn]); exact rfl
                                            first | (apply VC.condd; (focus (simp -implicitDefEqProofs only [go_sem, Nat.reduceLT, Nat.reduceAdd, Nat.reduceEqDiff, reduceIte, Nat.reduceMul, Nat.reduceSub, reduceCtorEq, Int.reduceNe, Int.reduceEq, ne_eq, Nat.reduceLeDiff, Nat.reduceMod, Nat.reduceDiv, hpu]; with_reducible exact rfl))) | (apply VC.condn; (focus (simp -implicitDefEqProofs only [go_sem, Nat.reduceLT, Nat.reduceAdd, Nat.reduceEqDiff, reduceIte, Nat.reduceMul, Nat.reduceSub, reduceCtorEq, Int.reduceNe, Int.reduceEq, ne_eq, Nat.reduceLeDiff, Nat.reduceMod, Nat.reduceDiv, hpu]; with_reducible exact rfl))) | (apply VC.condt; (focus (simp -implicitDefEqProofs only [go_sem, Nat.reduceLT, Nat.reduceAdd, Nat.reduceEqDiff, reduceIte, Nat.reduceMul, Nat.reduceSub, reduceCtorEq, Int.reduceNe, Int.reduceEq, ne_eq, Nat.reduceLeDiff, Nat.reduceMod, Nat.reduceDiv, hpu]; with_reducible exact rfl))) | (apply VC.condb; (focus (simp -implicitDefEqProofs only [go_sem, Nat.reduceLT, Nat.reduceAdd, Nat.reduceEqDiff, reduceIte, Nat.reduceMul, Nat.reduceSub, reduceCtorEq, Int.reduceNe, Int.reduceEq, ne_eq, Nat.reduceLeDiff, Nat.reduceMod, Nat.reduceDiv, hpu]; exact rfl)))
                                            · intro h; try exact absurd h (by decide)
                                              all_goals
                                                apply VC.regt ΦP4_ok [2, 3]; intro K' hK; dsimp only [List.take, List.drop, List.map, strip, stripG]; simp -implicitDefEqProofs only [go_sem, Nat.reduceLT, Nat.reduceAdd, Nat.reduceEqDiff, reduceIte, Nat.reduceMul, Nat.reduceSub, reduceCtorEq, Int.reduceNe, Int.reduceEq, ne_eq, Nat.reduceLeDiff, Nat.reduceMod, Nat.reduceDiv, hpu]
                                                (repeat' first | (refine hK _ ?_; clear hK K') | with_reducible apply And.intro | (simp only [maxLen]; omega) | omega | (rw [List.length_take]; omega))
                                                all_goals
                                                  apply VC.at
                                                  · simp -implicitDefEqProofs only [go_sem, Nat.reduceLT, Nat.reduceAdd, Nat.reduceEqDiff, reduceIte, Nat.reduceMul, Nat.reduceSub, reduceCtorEq, Int.reduceNe, Int.reduceEq, ne_eq, Nat.reduceLeDiff, Nat.reduceMod, Nat.reduceDiv, hpu]; (try simp (disch := omega) only [i64_in, tmodn, tdivn]); exact rfl
                                                  apply VC.ret
                                                  refine thenK_r ?_
                                                  refine blockK_r ?_
                                                  simp -implicitDefEqProofs only [go_sem, Nat.reduceLT, Nat.reduceAdd, Nat.reduceEqDiff, reduceIte, Nat.reduceMul, Nat.reduceSub, reduceCtorEq, Int.reduceNe, Int.reduceEq, ne_eq, Nat.reduceLeDiff, Nat.reduceMod, Nat.reduceDiv, hpu]
                                                  (repeat' first | (refine hK _ ?_; clear hK K') | ((first | with_reducible refine runA_id ?_ | with_reducible refine goA_id ?_); simp -implicitDefEqProofs (disch := omega) only [i64_in, Int.add_zero]; simp -implicitDefEqProofs only [go_sem, Nat.reduceLT, Nat.reduceAdd, Nat.reduceEqDiff, reduceIte, Nat.reduceMul, Nat.reduceSub, reduceCtorEq, Int.reduceNe, Int.reduceEq, ne_eq, Nat.reduceLeDiff, Nat.reduceMod, Nat.reduceDiv]) | with_reducible apply And.intro | (simp -implicitDefEqProofs (disch := omega) only [i64_in, Int.add_zero, List.length_cons, List.length_nil, Nat.reduceAdd]; done) | (simp only [maxLen]; omega) | omega | (simp -implicitDefEqProofs (disch := omega) only [Int.add_zero, i64_in, List.length_cons, List.length_nil]; omega))
                                                  all_goals
                                                    apply VC.at
                                                    · simp -implicitDefEqProofs only [go_sem, Nat.reduceLT, Nat.reduceAdd, Nat.reduceEqDiff, reduceIte, Nat.reduceMul, Nat.reduceSub, reduceCtorEq, Int.reduceNe, Int.reduceEq, ne_eq, Nat.reduceLeDiff, Nat.reduceMod, Nat.reduceDiv]; (try simp (disch := omega) only [i64_in, tmodn, tdivn]); exact rfl
                                                    first | (apply VC.condd; (focus (simp -implicitDefEqProofs only [go_sem, Nat.reduceLT, Nat.reduceAdd, Nat.reduceEqDiff, reduceIte, Nat.reduceMul, Nat.reduceSub, reduceCtorEq, Int.reduceNe, Int.reduceEq, ne_eq, Nat.reduceLeDiff, Nat.reduceMod, Nat.reduceDiv]; with_reducible exact rfl))) | (apply VC.condn; (focus (simp -implicitDefEqProofs only [go_sem, Nat.reduceLT, Nat.reduceAdd, Nat.reduceEqDiff, reduceIte, Nat.reduceMul, Nat.reduceSub, reduceCtorEq, Int.reduceNe, Int.reduceEq, ne_eq, Nat.reduceLeDiff, Nat.reduceMod, Nat.reduceDiv]; with_reducible exact rfl))) | (apply VC.condt; (focus (simp -implicitDefEqProofs only [go_sem, Nat.reduceLT, Nat.reduceAdd, Nat.reduceEqDiff, reduceIte, Nat.reduceMul, Nat.reduceSub, reduceCtorEq, Int.reduceNe, Int.reduceEq, ne_eq, Nat.reduceLeDiff, Nat.reduceMod, Nat.reduceDiv]; with_reducible exact rfl))) | (apply VC.condb; (focus (simp -implicitDefEqProofs only [go_sem, Nat.reduceLT, Nat.reduceAdd, Nat.reduceEqDiff, reduceIte, Nat.reduceMul, Nat.reduceSub, reduceCtorEq, Int.reduceNe, Int.reduceEq, ne_eq, Nat.reduceLeDiff, Nat.reduceMod, Nat.reduceDiv]; exact rfl)))
                                                    · intro h; try exact absurd h (by decide)
                                                      all_goals
                                                        apply VC.ret
                                                        refine thenK_r ?_
                                                        refine blockK_r ?_
                                                        refine thenK_r ?_
                                                        refine blockK_r ?_
                                                        refine thenK_r ?_
                                                        simp -implicitDefEqProofs only [go_sem, Nat.reduceLT, Nat.reduceAdd, Nat.reduceEqDiff, reduceIte, Nat.reduceMul, Nat.reduceSub, reduceCtorEq, Int.reduceNe, Int.reduceEq, ne_eq, Nat.reduceLeDiff, Nat.reduceMod, Nat.reduceDiv]
                                                        apply aftS_d
                                                        · simp -implicitDefEqProofs only [go_sem, Nat.reduceLT, Nat.reduceAdd, Nat.reduceEqDiff, reduceIte, Nat.reduceMul, Nat.reduceSub, reduceCtorEq, Int.reduceNe, Int.reduceEq, ne_eq, Nat.reduceLeDiff, Nat.reduceMod, Nat.reduceDiv]; exact rfl
                                                        apply VC.ret
                                                        refine blockK_r ?_
                                                        refine thenK_r ?_
                                                        first | (refine pureK_r (pureS_one (l := 8) (by simp -implicitDefEqProofs only [go_sem, Nat.reduceLT, Nat.reduceAdd, Nat.reduceEqDiff, reduceIte, Nat.reduceMul, Nat.reduceSub, reduceCtorEq, Int.reduceNe, Int.reduceEq, ne_eq, Nat.reduceLeDiff, Nat.reduceMod, Nat.reduceDiv]) ?_)) | skip
                                                        simp -implicitDefEqProofs only [go_sem, Nat.reduceLT, Nat.reduceAdd, Nat.reduceEqDiff, reduceIte, Nat.reduceMul, Nat.reduceSub, reduceCtorEq, Int.reduceNe, Int.reduceEq, ne_eq, Nat.reduceLeDiff, Nat.reduceMod, Nat.reduceDiv]
                                                        all_goals (first | (rw [parseP_none (by rw [← hpr, idx_neg r [] out (by assumption), List.nil_append]; first | rw [wordP_syntax hpu] | rw [wordP_range hpu])]; rfl) | (rw [parseP_none (by rw [← hpr, hpi, List.nil_append]; first | rw [wordP_syntax hpu] | rw [wordP_range hpu])]; rfl) | (rw [parseP_bad hP (by rintro ⟨h1, h2⟩; simp_all; done)]; rfl) | (rw [parseP_yes hP (by simp_all; done)]; rfl))
                                                    · intro h; try exact absurd h (by decide)
                                                      all_goals
                                                        apply VC.skip
                                                        refine thenK_n ?_
                                                        apply VC.regLast ΦP4_ok; intro K' hK; dsimp only [List.take, List.drop, List.map, strip, stripG]; simp -implicitDefEqProofs only [go_sem, Nat.reduceLT, Nat.reduceAdd, Nat.reduceEqDiff, reduceIte, Nat.reduceMul, Nat.reduceSub, reduceCtorEq, Int.reduceNe, Int.reduceEq, ne_eq, Nat.reduceLeDiff, Nat.reduceMod, Nat.reduceDiv]
                                                        (repeat' first | (refine hK _ ?_; clear hK K') | ((first | with_reducible refine runA_id ?_ | with_reducible refine goA_id ?_); simp -implicitDefEqProofs (disch := omega) only [i64_in, Int.add_zero]; simp -implicitDefEqProofs only [go_sem, Nat.reduceLT, Nat.reduceAdd, Nat.reduceEqDiff, reduceIte, Nat.reduceMul, Nat.reduceSub, reduceCtorEq, Int.reduceNe, Int.reduceEq, ne_eq, Nat.reduceLeDiff, Nat.reduceMod, Nat.reduceDiv]) | with_reducible apply And.intro | (simp -implicitDefEqProofs (disch := omega) only [i64_in, Int.add_zero, List.length_cons, List.length_nil, Nat.reduceAdd]; done) | (simp only [maxLen]; omega) | omega | (simp -implicitDefEqProofs (disch := omega) only [Int.add_zero, i64_in, List.length_cons, List.length_nil]; omega))
                                                        all_goals
                                                          refine blockK_n ?_
                                                          refine thenK_n ?_
                                                          refine ⟨(r.drop (i + 1), out ++ [n]), ⟨by simp only [List.length_drop, List.length_append, List.length_cons, List.length_nil]; omega, ?_⟩, Ent.to rfl rfl rfl ?_ ?_, by simp only [List.length_drop]; omega⟩
                                                          · dsimp only; rw [← hpr, hpi, List.nil_append, wordP_some hpu]
                                                          · simp -implicitDefEqProofs only [go_sem, Nat.reduceLT, Nat.reduceAdd, Nat.reduceEqDiff, reduceIte, Nat.reduceMul, Nat.reduceSub, reduceCtorEq, Int.reduceNe, Int.reduceEq, ne_eq, Nat.reduceLeDiff, Nat.reduceMod, Nat.reduceDiv]; (try simp (disch := omega) only [i64_in, tmodn, tdivn]); (try simp only [D.dat.injEq, Vm.Data.int.injEq, true_and, and_true, and_self, eq_self]); (try omega); (try ((repeat' apply And.intro) <;> first | omega | rfl))
                                                          · apply all_at
                                                            · simp -implicitDefEqProofs only [go_sem, Nat.reduceLT, Nat.reduceAdd, Nat.reduceEqDiff, reduceIte, Nat.reduceMul, Nat.reduceSub, reduceCtorEq, Int.reduceNe, Int.reduceEq, ne_eq, Nat.reduceLeDiff, Nat.reduceMod, Nat.reduceDiv]; first | done | exact rfl
                                                            · (repeat' (first | exact all_nil | (refine all_cons ?_ ?_))) <;> (simp -implicitDefEqProofs only [go_sem, Nat.reduceLT, Nat.reduceAdd, Nat.reduceEqDiff, reduceIte, Nat.reduceMul, Nat.reduceSub, reduceCtorEq, Int.reduceNe, Int.reduceEq, ne_eq, Nat.reduceLeDiff, Nat.reduceMod, Nat.reduceDiv]; (try rfl); try first | rfl | (simp only [numsD_snoc]; done) | (simp; done) | (simp [numsD_snoc]; done) | (rw [take_rest2 r i hil (by omega)]; done))
                                            · intro h; try exact absurd h (by decide)
                                              all_goals
                                                apply VC.skip
                                                refine thenK_n ?_
                                                apply VC.regLast ΦP4_ok; intro K' hK; dsimp only [List.take, List.drop, List.map, strip, stripG]; simp -implicitDefEqProofs only [go_sem, Nat.reduceLT, Nat.reduceAdd, Nat.reduceEqDiff, reduceIte, Nat.reduceMul, Nat.reduceSub, reduceCtorEq, Int.reduceNe, Int.reduceEq, ne_eq, Nat.reduceLeDiff, Nat.reduceMod, Nat.reduceDiv, hpu]
                                                (repeat' first | (refine hK _ ?_; clear hK K') | with_reducible apply And.intro | (simp only [maxLen]; omega) | omega | (rw [List.length_take]; omega))
                                                all_goals
                                                  refine blockK_n ?_
                                                  simp -implicitDefEqProofs only [go_sem, Nat.reduceLT, Nat.reduceAdd, Nat.reduceEqDiff, reduceIte, Nat.reduceMul, Nat.reduceSub, reduceCtorEq, Int.reduceNe, Int.reduceEq, ne_eq, Nat.reduceLeDiff, Nat.reduceMod, Nat.reduceDiv, hpu]
                                                  (repeat' first | (refine hK _ ?_; clear hK K') | ((first | with_reducible refine runA_id ?_ | with_reducible refine goA_id ?_); simp -implicitDefEqProofs (disch := omega) only [i64_in, Int.add_zero]; simp -implicitDefEqProofs only [go_sem, Nat.reduceLT, Nat.reduceAdd, Nat.reduceEqDiff, reduceIte, Nat.reduceMul, Nat.reduceSub, reduceCtorEq, Int.reduceNe, Int.reduceEq, ne_eq, Nat.reduceLeDiff, Nat.reduceMod, Nat.reduceDiv]) | with_reducible apply And.intro | (simp -implicitDefEqProofs (disch := omega) only [i64_in, Int.add_zero, List.length_cons, List.length_nil, Nat.reduceAdd]; done) | (simp only [maxLen]; omega) | omega | (simp -implicitDefEqProofs (disch := omega) only [Int.add_zero, i64_in, List.length_cons, List.length_nil]; omega))
                                                  all_goals
                                                    apply VC.at
                                                    · simp -implicitDefEqProofs only [go_sem, Nat.reduceLT, Nat.reduceAdd, Nat.reduceEqDiff, reduceIte, Nat.reduceMul, Nat.reduceSub, reduceCtorEq, Int.reduceNe, Int.reduceEq, ne_eq, Nat.reduceLeDiff, Nat.reduceMod, Nat.reduceDiv]; (try simp (disch := omega) only [i64_in, tmodn, tdivn]); exact rfl
                                                    first | (apply VC.condd; (focus (simp -implicitDefEqProofs only [go_sem, Nat.reduceLT, Nat.reduceAdd, Nat.reduceEqDiff, reduceIte, Nat.reduceMul, Nat.reduceSub, reduceCtorEq, Int.reduceNe, Int.reduceEq, ne_eq, Nat.reduceLeDiff, Nat.reduceMod, Nat.reduceDiv]; with_reducible exact rfl))) | (apply VC.condn; (focus (simp -implicitDefEqProofs only [go_sem, Nat.reduceLT, Nat.reduceAdd, Nat.reduceEqDiff, reduceIte, Nat.reduceMul, Nat.reduceSub, reduceCtorEq, Int.reduceNe, Int.reduceEq, ne_eq, Nat.reduceLeDiff, Nat.reduceMod, Nat.reduceDiv]; with_reducible exact rfl))) | (apply VC.condt; (focus (simp -implicitDefEqProofs only [go_sem, Nat.reduceLT, Nat.reduceAdd, Nat.reduceEqDiff, reduceIte, Nat.reduceMul, Nat.reduceSub, reduceCtorEq, Int.reduceNe, Int.reduceEq, ne_eq, Nat.reduceLeDiff, Nat.reduceMod, Nat.reduceDiv]; with_reducible exact rfl))) | (apply VC.condb; (focus (simp -implicitDefEqProofs only [go_sem, Nat.reduceLT, Nat.reduceAdd, Nat.reduceEqDiff, reduceIte, Nat.reduceMul, Nat.reduceSub, reduceCtorEq, Int.reduceNe, Int.reduceEq, ne_eq, Nat.reduceLeDiff, Nat.reduceMod, Nat.reduceDiv]; exact rfl)))
                                                    · intro h; try exact absurd h (by decide)
                                                      all_goals
                                                        apply VC.ret
                                                        refine thenK_r ?_
                                                        refine blockK_r ?_
                                                        refine thenK_r ?_
                                                        refine blockK_r ?_
                                                        refine thenK_r ?_
                                                        simp -implicitDefEqProofs only [go_sem, Nat.reduceLT, Nat.reduceAdd, Nat.reduceEqDiff, reduceIte, Nat.reduceMul, Nat.reduceSub, reduceCtorEq, Int.reduceNe, Int.reduceEq, ne_eq, Nat.reduceLeDiff, Nat.reduceMod, Nat.reduceDiv]
                                                        apply aftS_n
                                                        · simp -implicitDefEqProofs only [go_sem, Nat.reduceLT, Nat.reduceAdd, Nat.reduceEqDiff, reduceIte, Nat.reduceMul, Nat.reduceSub, reduceCtorEq, Int.reduceNe, Int.reduceEq, ne_eq, Nat.reduceLeDiff, Nat.reduceMod, Nat.reduceDiv]; exact rfl
                                                        refine blockK_n ?_
                                                        refine thenK_n ?_
                                                        apply VC.seq
                                                        have hP : progA s [] [] = some (out ++ [n]) := by rw [← hpr, idx_neg r [] out (by assumption), List.nil_append, wordP_some hpu]
                                                        have hL : (out ++ [n]).length ≤ s.length + 1 := by simp; omega
                                                        simp only [numsD_take_len, numsD_snoc, show out.length + 1 = (out ++ [n]).length by simp]
                                                        generalize out ++ [n] = L at *
                                                        apply VC.regt ΦP4_ok [0, 2, 3, 4, 8, 9]; intro K' hK; dsimp only [List.take, List.drop, List.map, strip, stripG]; simp -implicitDefEqProofs only [go_sem, Nat.reduceLT, Nat.reduceAdd, Nat.reduceEqDiff, reduceIte, Nat.reduceMul, Nat.reduceSub, reduceCtorEq, Int.reduceNe, Int.reduceEq, ne_eq, Nat.reduceLeDiff, Nat.reduceMod, Nat.reduceDiv]
                                                        (repeat' first | (refine hK _ ?_; clear hK K') | ((first | with_reducible refine runA_id ?_ | with_reducible refine goA_id ?_); simp -implicitDefEqProofs (disch := omega) only [i64_in, u64_in]; simp -implicitDefEqProofs only [go_sem, Nat.reduceLT, Nat.reduceAdd, Nat.reduceEqDiff, reduceIte, Nat.reduceMul, Nat.reduceSub, reduceCtorEq, Int.reduceNe, Int.reduceEq, ne_eq, Nat.reduceLeDiff, Nat.reduceMod, Nat.reduceDiv]) | with_reducible apply And.intro | (simp -implicitDefEqProofs (disch := omega) only [i64_in, u64_in, List.length_cons, List.length_nil, Nat.reduceAdd]; done) | (simp only [maxLen]; omega) | omega | (simp only [numsD_len]; omega))
                                                        all_goals
                                                          apply VC.at
                                                          · simp -implicitDefEqProofs only [go_sem, Nat.reduceLT, Nat.reduceAdd, Nat.reduceEqDiff, reduceIte, Nat.reduceMul, Nat.reduceSub, reduceCtorEq, Int.reduceNe, Int.reduceEq, ne_eq, Nat.reduceLeDiff, Nat.reduceMod, Nat.reduceDiv]; (try simp (disch := omega) only [i64_in, tmodn, tdivn]); exact rfl
                                                          apply VC.regt ΦP4_ok [2, 3, 4, 35]; intro K' hK; dsimp only [List.take, List.drop, List.map, strip, stripG]; simp only [gtmp, List.getElem?_toArray, List.getElem?_cons_succ, List.getElem?_cons_zero, Option.bind_some]; simp -implicitDefEqProofs only [go_sem, Nat.reduceLT, Nat.reduceAdd, Nat.reduceEqDiff, reduceIte, Nat.reduceMul, Nat.reduceSub, reduceCtorEq, Int.reduceNe, Int.reduceEq, ne_eq, Nat.reduceLeDiff, Nat.reduceMod, Nat.reduceDiv]
                                                          (repeat' first | (refine hK _ ?_; clear hK K') | (first | apply goB_splitD | apply goA_splitD | apply goB_split | apply goA_split | apply goA_all) <;> intro _ <;> simp -implicitDefEqProofs only [go_sem, Nat.reduceLT, Nat.reduceAdd, Nat.reduceEqDiff, reduceIte, Nat.reduceMul, Nat.reduceSub, reduceCtorEq, Int.reduceNe, Int.reduceEq, ne_eq, Nat.reduceLeDiff, Nat.reduceMod, Nat.reduceDiv] | with_reducible apply And.intro | (simp -implicitDefEqProofs (disch := omega) only [i64_in, u64_in, List.length_cons, List.length_nil, Nat.reduceAdd]; done) | (simp only [maxLen]; omega) | omega | (simp only [numsD_len]; omega))
                                                          all_goals
                                                            apply VC.at
                                                            · simp -implicitDefEqProofs only [go_sem, Nat.reduceLT, Nat.reduceAdd, Nat.reduceEqDiff, reduceIte, Nat.reduceMul, Nat.reduceSub, reduceCtorEq, Int.reduceNe, Int.reduceEq, ne_eq, Nat.reduceLeDiff, Nat.reduceMod, Nat.reduceDiv]; (try simp (disch := omega) only [i64_in, tmodn, tdivn]); exact rfl
                                                            first | (apply VC.condd; (focus (simp -implicitDefEqProofs only [go_sem, Nat.reduceLT, Nat.reduceAdd, Nat.reduceEqDiff, reduceIte, Nat.reduceMul, Nat.reduceSub, reduceCtorEq, Int.reduceNe, Int.reduceEq, ne_eq, Nat.reduceLeDiff, Nat.reduceMod, Nat.reduceDiv]; with_reducible exact rfl))) | (apply VC.condn; (focus (simp -implicitDefEqProofs only [go_sem, Nat.reduceLT, Nat.reduceAdd, Nat.reduceEqDiff, reduceIte, Nat.reduceMul, Nat.reduceSub, reduceCtorEq, Int.reduceNe, Int.reduceEq, ne_eq, Nat.reduceLeDiff, Nat.reduceMod, Nat.reduceDiv]; with_reducible exact rfl))) | (apply VC.condt; (focus (simp -implicitDefEqProofs only [go_sem, Nat.reduceLT, Nat.reduceAdd, Nat.reduceEqDiff, reduceIte, Nat.reduceMul, Nat.reduceSub, reduceCtorEq, Int.reduceNe, Int.reduceEq, ne_eq, Nat.reduceLeDiff, Nat.reduceMod, Nat.reduceDiv]; with_reducible exact rfl))) | (apply VC.condb; (focus (simp -implicitDefEqProofs only [go_sem, Nat.reduceLT, Nat.reduceAdd, Nat.reduceEqDiff, reduceIte, Nat.reduceMul, Nat.reduceSub, reduceCtorEq, Int.reduceNe, Int.reduceEq, ne_eq, Nat.reduceLeDiff, Nat.reduceMod, Nat.reduceDiv]; exact rfl)))
                                                            · intro h; try exact absurd h (by decide)
                                                              all_goals
                                                                apply VC.regt ΦP4_ok [2, 3]; intro K' hK; dsimp only [List.take, List.drop, List.map, strip, stripG]; simp -implicitDefEqProofs only [go_sem, Nat.reduceLT, Nat.reduceAdd, Nat.reduceEqDiff, reduceIte, Nat.reduceMul, Nat.reduceSub, reduceCtorEq, Int.reduceNe, Int.reduceEq, ne_eq, Nat.reduceLeDiff, Nat.reduceMod, Nat.reduceDiv]
                                                                (repeat' first | (refine hK _ ?_; clear hK K') | with_reducible apply And.intro | (simp -implicitDefEqProofs (disch := omega) only [i64_in, u64_in, List.length_cons, List.length_nil, Nat.reduceAdd]; done) | (simp only [maxLen]; omega) | omega | (simp only [numsD_len]; omega))
                                                                all_goals
                                                                  apply VC.at
                                                                  · simp -implicitDefEqProofs only [go_sem, Nat.reduceLT, Nat.reduceAdd, Nat.reduceEqDiff, reduceIte, Nat.reduceMul, Nat.reduceSub, reduceCtorEq, Int.reduceNe, Int.reduceEq, ne_eq, Nat.reduceLeDiff, Nat.reduceMod, Nat.reduceDiv]; (try simp (disch := omega) only [i64_in, tmodn, tdivn]); exact rfl
                                                                  apply VC.ret
                                                                  refine thenK_r ?_
                                                                  first | (refine pureK_r (pureS_one (l := 8) (by simp -implicitDefEqProofs only [go_sem, Nat.reduceLT, Nat.reduceAdd, Nat.reduceEqDiff, reduceIte, Nat.reduceMul, Nat.reduceSub, reduceCtorEq, Int.reduceNe, Int.reduceEq, ne_eq, Nat.reduceLeDiff, Nat.reduceMod, Nat.reduceDiv]) ?_)) | skip
                                                                  simp -implicitDefEqProofs only [go_sem, Nat.reduceLT, Nat.reduceAdd, Nat.reduceEqDiff, reduceIte, Nat.reduceMul, Nat.reduceSub, reduceCtorEq, Int.reduceNe, Int.reduceEq, ne_eq, Nat.reduceLeDiff, Nat.reduceMod, Nat.reduceDiv]
                                                                  all_goals (first | (rw [parseP_none (by rw [← hpr, idx_neg r [] out (by assumption), List.nil_append]; first | rw [wordP_syntax hpu] | rw [wordP_range hpu])]; rfl) | (rw [parseP_none (by rw [← hpr, hpi, List.nil_append]; first | rw [wordP_syntax hpu] | rw [wordP_range hpu])]; rfl) | (rw [parseP_bad hP (by rintro ⟨h1, h2⟩; simp_all; done)]; rfl) | (rw [parseP_yes hP (by simp_all; done)]; rfl))
                                                            · intro h; try exact absurd h (by decide)
                                                              all_goals
                                                                apply VC.skip
                                                                refine thenK_n ?_
                                                                apply VC.regt ΦP4_ok [2, 3]; intro K' hK; dsimp only [List.take, List.drop, List.map, strip, stripG]; simp -implicitDefEqProofs only [go_sem, Nat.reduceLT, Nat.reduceAdd, Nat.reduceEqDiff, reduceIte, Nat.reduceMul, Nat.reduceSub, reduceCtorEq, Int.reduceNe, Int.reduceEq, ne_eq, Nat.reduceLeDiff, Nat.reduceMod, Nat.reduceDiv]
                                                                (repeat' first | (refine hK _ ?_; clear hK K') | with_reducible apply And.intro | (simp -implicitDefEqProofs (disch := omega) only [i64_in, u64_in, List.length_cons, List.length_nil, Nat.reduceAdd]; done) | (simp only [maxLen]; omega) | omega | (simp only [numsD_len]; omega))
                                                                all_goals
                                                                  apply VC.at
                                                                  · simp -implicitDefEqProofs only [go_sem, Nat.reduceLT, Nat.reduceAdd, Nat.reduceEqDiff, reduceIte, Nat.reduceMul, Nat.reduceSub, reduceCtorEq, Int.reduceNe, Int.reduceEq, ne_eq, Nat.reduceLeDiff, Nat.reduceMod, Nat.reduceDiv]; (try simp (disch := omega) only [i64_in, tmodn, tdivn]); exact rfl
                                                                  apply VC.ret
                                                                  first | (refine pureK_r (pureS_one (l := 8) (by simp -implicitDefEqProofs only [go_sem, Nat.reduceLT, Nat.reduceAdd, Nat.reduceEqDiff, reduceIte, Nat.reduceMul, Nat.reduceSub, reduceCtorEq, Int.reduceNe, Int.reduceEq, ne_eq, Nat.reduceLeDiff, Nat.reduceMod, Nat.reduceDiv]) ?_)) | skip
                                                                  simp -implicitDefEqProofs only [go_sem, Nat.reduceLT, Nat.reduceAdd, Nat.reduceEqDiff, reduceIte, Nat.reduceMul, Nat.reduceSub, reduceCtorEq, Int.reduceNe, Int.reduceEq, ne_eq, Nat.reduceLeDiff, Nat.reduceMod, Nat.reduceDiv]
                                                                  all_goals (first | (rw [parseP_none (by rw [← hpr, idx_neg r [] out (by assumption), List.nil_append]; first | rw [wordP_syntax hpu] | rw [wordP_range hpu])]; rfl) | (rw [parseP_none (by rw [← hpr, hpi, List.nil_append]; first | rw [wordP_syntax hpu] | rw [wordP_range hpu])]; rfl) | (rw [parseP_bad hP (by rintro ⟨h1, h2⟩; simp_all; done)]; rfl) | (rw [parseP_yes hP (by simp_all; done)]; rfl))
                                                    · intro h; try exact absurd h (by decide)
                                                      all_goals
                                                        apply VC.skip
                                                        refine thenK_n ?_
                                                        apply VC.regLast ΦP4_ok; intro K' hK; dsimp only [List.take, List.drop, List.map, strip, stripG]; simp -implicitDefEqProofs only [go_sem, Nat.reduceLT, Nat.reduceAdd, Nat.reduceEqDiff, reduceIte, Nat.reduceMul, Nat.reduceSub, reduceCtorEq, Int.reduceNe, Int.reduceEq, ne_eq, Nat.reduceLeDiff, Nat.reduceMod, Nat.reduceDiv]
                                                        (repeat' first | (refine hK _ ?_; clear hK K') | ((first | with_reducible refine runA_id ?_ | with_reducible refine goA_id ?_); simp -implicitDefEqProofs (disch := omega) only [i64_in, Int.add_zero]; simp -implicitDefEqProofs only [go_sem, Nat.reduceLT, Nat.reduceAdd, Nat.reduceEqDiff, reduceIte, Nat.reduceMul, Nat.reduceSub, reduceCtorEq, Int.reduceNe, Int.reduceEq, ne_eq, Nat.reduceLeDiff, Nat.reduceMod, Nat.reduceDiv]) | with_reducible apply And.intro | (simp -implicitDefEqProofs (disch := omega) only [i64_in, Int.add_zero, List.length_cons, List.length_nil, Nat.reduceAdd]; done) | (simp only [maxLen]; omega) | omega | (simp -implicitDefEqProofs (disch := omega) only [Int.add_zero, i64_in, List.length_cons, List.length_nil]; omega))
                                                        all_goals
                                                          refine blockK_n ?_
                                                          refine thenK_n ?_
                                                          refine ⟨(r.drop (i + 1), out ++ [n]), ⟨by simp only [List.length_drop, List.length_append, List.length_cons, List.length_nil]; omega, ?_⟩, Ent.to rfl rfl rfl ?_ ?_, by simp only [List.length_drop]; omega⟩
                                                          · dsimp only; rw [← hpr, hpi, List.nil_append, wordP_some hpu]
                                                          · simp -implicitDefEqProofs only [go_sem, Nat.reduceLT, Nat.reduceAdd, Nat.reduceEqDiff, reduceIte, Nat.reduceMul, Nat.reduceSub, reduceCtorEq, Int.reduceNe, Int.reduceEq, ne_eq, Nat.reduceLeDiff, Nat.reduceMod, Nat.reduceDiv]; (try simp (disch := omega) only [i64_in, tmodn, tdivn]); (try simp only [D.dat.injEq, Vm.Data.int.injEq, true_and, and_true, and_self, eq_self]); (try omega); (try ((repeat' apply And.intro) <;> first | omega | rfl))
                                                          · apply all_at
                                                            · simp -implicitDefEqProofs only [go_sem, Nat.reduceLT, Nat.reduceAdd, Nat.reduceEqDiff, reduceIte, Nat.reduceMul, Nat.reduceSub, reduceCtorEq, Int.reduceNe, Int.reduceEq, ne_eq, Nat.reduceLeDiff, Nat.reduceMod, Nat.reduceDiv]; first | done | exact rfl
                                                            · (repeat' (first | exact all_nil | (refine all_cons ?_ ?_))) <;> (simp -implicitDefEqProofs only [go_sem, Nat.reduceLT, Nat.reduceAdd, Nat.reduceEqDiff, reduceIte, Nat.reduceMul, Nat.reduceSub, reduceCtorEq, Int.reduceNe, Int.reduceEq, ne_eq, Nat.reduceLeDiff, Nat.reduceMod, Nat.reduceDiv]; (try rfl); try first | rfl | (simp only [numsD_snoc]; done) | (simp; done) | (simp [numsD_snoc]; done) | (rw [take_rest2 r i hil (by omega)]; done))
end Go.Proofs.YtgfadocohpinmaaDoor.Oa

