/- What told and alive compute. No condition. -/
import Derived.Test.YtfbodageccednaaDoorOaH
set_option linter.unusedVariables false
set_option linter.unusedSimpArgs false
namespace Go.Proofs.YtfbodageccednaaDoor.Oa
open Go Go.RowKit Go.Proofs.YtfbodageccednaaDoor.Vm Go.IntWalk
set_option maxRecDepth 100000
set_option maxHeartbeats 4000000
noncomputable def ΦQ1 : Fns := tab [(10, generalF), (16, readgenF)]
theorem ΦQ1_ok : Sound E ΦQ1 := sound_cons (by kernel_rfl) general_ok (sound_cons (by kernel_rfl) readgen_ok (sound_nil))
@[go_sem] theorem ΦQ1_10 : ΦQ1 10 = some generalF := rfl
@[go_sem] theorem ΦQ1_16 : ΦQ1 16 = some readgenF := rfl
theorem readGP_of {t : Int} {w : List UInt8} (h : tIn t = true) (e : rgenS t = w) : readGP w = some t := by rw [← e]; exact readGP_gen h
theorem genO_of {t : Int} {w : List UInt8} (h : tIn t = true) (e : rgenS t = w) : genO t = w := by unfold genO; rw [h, if_pos rfl, genS_eq h, e]
theorem genO_len (t : Int) : (genO t).length ≤ 300 := by
  unfold genO
  split
  · rename_i h
    exact genS_len t (tIn_of h).1 (tIn_of h).2
  · simp
theorem shortO_len (t : Int) : (shortO t).length ≤ 300 := by
  unfold shortO
  split
  · rename_i h
    have h' := tIn_of (ok_in h)
    have := genS_len t h'.1 h'.2
    rw [List.length_drop]; omega
  · simp
def toldB (t : Int) (w : List UInt8) : Bool := tIn t && (decide (genO t = w) && ((readGP w).isSome && decide ((readGP w).getD 0 = t)))
theorem told_yes {t : Int} {w : List UInt8} (h : tIn t = true) (e : rgenS t = w) : toldB t w = true := by
  unfold toldB
  rw [h, genO_of h e, readGP_of h e]; simp
def toldA (x : Int × List UInt8) : List Vm.Data := let (t, w) := x; [.int .i64 t, .str w]
noncomputable def toldF : PFn := PFn.of toldA (fun (t, w) => w.length ≤ 1000) (fun (t, w) => [.bool (toldB t w)])
theorem told_inj (x y : Int × List UInt8) (h : toldA x = toldA y) : x = y := by
  simpa [toldA, Prod.ext_iff, numsD_inj, bytesD_inj, Vm.Data.lst.injEq, Int.natCast_inj] using h
@[go_sem] theorem told_pre (t : Int) (w : List UInt8) : toldF.pre [.int .i64 t, .str w] = (w.length ≤ 1000) := PFn.of_pre told_inj (t, w)
@[go_sem] theorem told_res (t : Int) (w : List UInt8) : toldF.res [.int .i64 t, .str w] = [.bool (toldB t w)] := PFn.of_res told_inj (t, w)
theorem told_ok : Pure E 22 toldF := by
  apply Pure.of_body (rs := [.tmp 4]) (n := 35) Tryd.func22 rfl rfl rfl
  intro ds hds
  obtain ⟨⟨t, w⟩, rfl, hds⟩ := hds
  (try dsimp only at hds)
  rw [show toldF.res (toldA (t, w)) = [.bool (toldB t w)] from told_res t w]
  rcases hb : tIn t with _ | _ <;> rcases hr : readGP w with _ | u
  all_goals
    refine ⟨Nat.le_of_ble_eq_true rfl, ?_⟩
    show VC E none _ (pureSt 35 [.int .i64 t, .str w]) _
    apply VC.regt ΦQ1_ok [0, 1]; intro K' hK; dsimp only [List.take, List.drop, List.map, strip, stripG]; simp -implicitDefEqProofs only [go_sem, Nat.reduceLT, Nat.reduceAdd, Nat.reduceEqDiff, reduceIte, Nat.reduceMul, Nat.reduceSub, reduceCtorEq, Int.reduceNe, Int.reduceEq, ne_eq, Nat.reduceLeDiff, Nat.reduceMod, Nat.reduceDiv, hb, hr, Bool.false_eq_true, Option.isSome_none, Option.isSome_some, Option.getD_some, Option.getD_none]
    (repeat' first | (refine hK _ ?_; clear hK K') | with_reducible apply And.intro | (simp -implicitDefEqProofs (disch := omega) only [i64_in, List.length_cons, List.length_nil, Nat.reduceAdd]; done) | omega | decide | fail)
    all_goals
      apply VC.at
      · simp -implicitDefEqProofs only [go_sem, Nat.reduceLT, Nat.reduceAdd, Nat.reduceEqDiff, reduceIte, Nat.reduceMul, Nat.reduceSub, reduceCtorEq, Int.reduceNe, Int.reduceEq, ne_eq, Nat.reduceLeDiff, Nat.reduceMod, Nat.reduceDiv, hb, hr, Bool.false_eq_true, Option.isSome_none, Option.isSome_some, Option.getD_some, Option.getD_none]; (try simp (disch := omega) only [i64_in, tmodn, tdivn]); exact rfl
      apply VC.regt ΦQ1_ok [0, 1, 5, 6]; intro K' hK; dsimp only [List.take, List.drop, List.map, strip, stripG]; simp -implicitDefEqProofs only [go_sem, Nat.reduceLT, Nat.reduceAdd, Nat.reduceEqDiff, reduceIte, Nat.reduceMul, Nat.reduceSub, reduceCtorEq, Int.reduceNe, Int.reduceEq, ne_eq, Nat.reduceLeDiff, Nat.reduceMod, Nat.reduceDiv, hb, hr, Bool.false_eq_true, Option.isSome_none, Option.isSome_some, Option.getD_some, Option.getD_none]
      (repeat' first | (refine hK _ ?_; clear hK K') | ((first | with_reducible refine runA_id ?_ | with_reducible refine goA_id ?_); simp -implicitDefEqProofs (disch := omega) only [i64_in]; simp -implicitDefEqProofs only [go_sem, Nat.reduceLT, Nat.reduceAdd, Nat.reduceEqDiff, reduceIte, Nat.reduceMul, Nat.reduceSub, reduceCtorEq, Int.reduceNe, Int.reduceEq, ne_eq, Nat.reduceLeDiff, Nat.reduceMod, Nat.reduceDiv, hb, hr, Bool.false_eq_true, Option.isSome_none, Option.isSome_some, Option.getD_some, Option.getD_none]) | with_reducible apply And.intro | (simp -implicitDefEqProofs (disch := omega) only [i64_in, List.length_cons, List.length_nil, Nat.reduceAdd]; done) | omega | decide | fail)
      all_goals
        apply VC.at
        · simp -implicitDefEqProofs only [go_sem, Nat.reduceLT, Nat.reduceAdd, Nat.reduceEqDiff, reduceIte, Nat.reduceMul, Nat.reduceSub, reduceCtorEq, Int.reduceNe, Int.reduceEq, ne_eq, Nat.reduceLeDiff, Nat.reduceMod, Nat.reduceDiv, hb, hr, Bool.false_eq_true, Option.isSome_none, Option.isSome_some, Option.getD_some, Option.getD_none]; (try simp (disch := omega) only [i64_in, tmodn, tdivn]); exact rfl
        apply VC.regt ΦQ1_ok [0, 1, 5, 6, 7, 8]; intro K' hK; dsimp only [List.take, List.drop, List.map, strip, stripG]; simp -implicitDefEqProofs only [go_sem, Nat.reduceLT, Nat.reduceAdd, Nat.reduceEqDiff, reduceIte, Nat.reduceMul, Nat.reduceSub, reduceCtorEq, Int.reduceNe, Int.reduceEq, ne_eq, Nat.reduceLeDiff, Nat.reduceMod, Nat.reduceDiv, hb, hr, Bool.false_eq_true, Option.isSome_none, Option.isSome_some, Option.getD_some, Option.getD_none]
        (repeat' first | (refine hK _ ?_; clear hK K') | ((first | with_reducible refine runA_id ?_ | with_reducible refine goA_id ?_); simp -implicitDefEqProofs (disch := omega) only [i64_in]; simp -implicitDefEqProofs only [go_sem, Nat.reduceLT, Nat.reduceAdd, Nat.reduceEqDiff, reduceIte, Nat.reduceMul, Nat.reduceSub, reduceCtorEq, Int.reduceNe, Int.reduceEq, ne_eq, Nat.reduceLeDiff, Nat.reduceMod, Nat.reduceDiv, hb, hr, Bool.false_eq_true, Option.isSome_none, Option.isSome_some, Option.getD_some, Option.getD_none]) | with_reducible apply And.intro | (simp -implicitDefEqProofs (disch := omega) only [i64_in, List.length_cons, List.length_nil, Nat.reduceAdd]; done) | omega | decide | fail)
        all_goals
          apply VC.at
          · simp -implicitDefEqProofs only [go_sem, Nat.reduceLT, Nat.reduceAdd, Nat.reduceEqDiff, reduceIte, Nat.reduceMul, Nat.reduceSub, reduceCtorEq, Int.reduceNe, Int.reduceEq, ne_eq, Nat.reduceLeDiff, Nat.reduceMod, Nat.reduceDiv, hb, hr, Bool.false_eq_true, Option.isSome_none, Option.isSome_some, Option.getD_some, Option.getD_none]; (try simp (disch := omega) only [i64_in, tmodn, tdivn]); exact rfl
          apply VC.regt ΦQ1_ok [4]; intro K' hK; dsimp only [List.take, List.drop, List.map, strip, stripG]; simp only [gtmp, List.getElem?_toArray, List.getElem?_cons_succ, List.getElem?_cons_zero, Option.bind_some]; simp -implicitDefEqProofs only [go_sem, Nat.reduceLT, Nat.reduceAdd, Nat.reduceEqDiff, reduceIte, Nat.reduceMul, Nat.reduceSub, reduceCtorEq, Int.reduceNe, Int.reduceEq, ne_eq, Nat.reduceLeDiff, Nat.reduceMod, Nat.reduceDiv, hb, hr, Bool.false_eq_true, Option.isSome_none, Option.isSome_some, Option.getD_some, Option.getD_none]
          (repeat' first | (refine hK _ ?_; clear hK K') | (first | apply goB_splitD | apply goA_splitD | apply goB_split | apply goA_split | apply goA_all) <;> intro _ <;> simp -implicitDefEqProofs only [go_sem, Nat.reduceLT, Nat.reduceAdd, Nat.reduceEqDiff, reduceIte, Nat.reduceMul, Nat.reduceSub, reduceCtorEq, Int.reduceNe, Int.reduceEq, ne_eq, Nat.reduceLeDiff, Nat.reduceMod, Nat.reduceDiv, hb, hr, Bool.false_eq_true, Option.isSome_none, Option.isSome_some, Option.getD_some, Option.getD_none] | with_reducible apply And.intro | (simp -implicitDefEqProofs (disch := omega) only [i64_in, List.length_cons, List.length_nil, Nat.reduceAdd]; done) | omega | decide | fail)
          all_goals
            apply VC.at
            · simp -implicitDefEqProofs only [go_sem, Nat.reduceLT, Nat.reduceAdd, Nat.reduceEqDiff, reduceIte, Nat.reduceMul, Nat.reduceSub, reduceCtorEq, Int.reduceNe, Int.reduceEq, ne_eq, Nat.reduceLeDiff, Nat.reduceMod, Nat.reduceDiv, hb, hr, Bool.false_eq_true, Option.isSome_none, Option.isSome_some, Option.getD_some, Option.getD_none]; (try simp (disch := omega) only [i64_in, tmodn, tdivn]); exact rfl
            apply VC.ret
            simp -implicitDefEqProofs only [go_sem, Nat.reduceLT, Nat.reduceAdd, Nat.reduceEqDiff, reduceIte, Nat.reduceMul, Nat.reduceSub, reduceCtorEq, Int.reduceNe, Int.reduceEq, ne_eq, Nat.reduceLeDiff, Nat.reduceMod, Nat.reduceDiv, hb, hr, Bool.false_eq_true, Option.isSome_none, Option.isSome_some, Option.getD_some, Option.getD_none]
            all_goals ((try simp only [Bool.not_eq_eq_eq_not, Bool.not_false, Bool.not_true, decide_eq_true_eq, decide_eq_false_iff_not] at *); first | (unfold toldB; rw [hb, hr]; simp_all; done))
noncomputable def ΦQ2 : Fns := tab [(22, toldF)]
theorem ΦQ2_ok : Sound E ΦQ2 := sound_cons (by kernel_rfl) told_ok (sound_nil)
@[go_sem] theorem ΦQ2_22 : ΦQ2 22 = some toldF := rfl
theorem al0 : toldB 0 [49, 57, 55, 48, 48, 49, 48, 49, 48, 48, 48, 48, 48, 48, 90] = true := told_yes (by decide) (by decide +kernel)
theorem al1 : toldB 951782400500 [50, 48, 48, 48, 48, 50, 50, 57, 48, 48, 48, 48, 48, 48, 46, 53, 90] = true := told_yes (by decide) (by decide +kernel)
theorem al2 : toldB 253402300799999 [57, 57, 57, 57, 49, 50, 51, 49, 50, 51, 53, 57, 53, 57, 46, 57, 57, 57, 90] = true := told_yes (by decide) (by decide +kernel)
def aliveA (_ : Unit) : List Vm.Data := []
noncomputable def aliveF : PFn := PFn.of aliveA (fun () => True) (fun () => [.bool true])
theorem alive_inj (x y : Unit) (h : aliveA x = aliveA y) : x = y := by
  rfl
@[go_sem] theorem alive_pre  : aliveF.pre [] = (True) := PFn.of_pre alive_inj ()
@[go_sem] theorem alive_res  : aliveF.res [] = [.bool true] := PFn.of_res alive_inj ()
theorem alive_ok : Pure E 9 aliveF := by
  apply Pure.of_body (rs := [.tmp 0]) (n := 8) Tryd.func9 rfl rfl rfl
  intro ds hds
  obtain ⟨⟨⟩, rfl, hds⟩ := hds
  (try dsimp only at hds)
  rw [show aliveF.res (aliveA ()) = [.bool true] from alive_res ]
  skip
  refine ⟨Nat.le_of_ble_eq_true rfl, ?_⟩
  show VC E none _ (pureSt 8 []) _
  apply VC.regt ΦQ2_ok []; intro K' hK; dsimp only [List.take, List.drop, List.map, strip, stripG]; simp -implicitDefEqProofs only [go_sem, Nat.reduceLT, Nat.reduceAdd, Nat.reduceEqDiff, reduceIte, Nat.reduceMul, Nat.reduceSub, reduceCtorEq, Int.reduceNe, Int.reduceEq, ne_eq, Nat.reduceLeDiff, Nat.reduceMod, Nat.reduceDiv, al0, al1, al2, List.length_cons, List.length_nil]
  (repeat' first | (refine hK _ ?_; clear hK K') | with_reducible apply And.intro | decide | omega)
  all_goals
    apply VC.at
    · simp -implicitDefEqProofs only [go_sem, Nat.reduceLT, Nat.reduceAdd, Nat.reduceEqDiff, reduceIte, Nat.reduceMul, Nat.reduceSub, reduceCtorEq, Int.reduceNe, Int.reduceEq, ne_eq, Nat.reduceLeDiff, Nat.reduceMod, Nat.reduceDiv, al0, al1, al2, List.length_cons, List.length_nil]; (try simp (disch := omega) only [i64_in, tmodn, tdivn]); exact rfl
    apply VC.regt ΦQ2_ok [0]; intro K' hK; dsimp only [List.take, List.drop, List.map, strip, stripG]; simp only [gtmp, List.getElem?_toArray, List.getElem?_cons_succ, List.getElem?_cons_zero, Option.bind_some]; simp -implicitDefEqProofs only [go_sem, Nat.reduceLT, Nat.reduceAdd, Nat.reduceEqDiff, reduceIte, Nat.reduceMul, Nat.reduceSub, reduceCtorEq, Int.reduceNe, Int.reduceEq, ne_eq, Nat.reduceLeDiff, Nat.reduceMod, Nat.reduceDiv, al0, al1, al2, List.length_cons, List.length_nil]
    (repeat' first | (refine hK _ ?_; clear hK K') | (first | apply goB_splitD | apply goA_splitD | apply goB_split | apply goA_split | apply goA_all) <;> intro _ <;> simp -implicitDefEqProofs only [go_sem, Nat.reduceLT, Nat.reduceAdd, Nat.reduceEqDiff, reduceIte, Nat.reduceMul, Nat.reduceSub, reduceCtorEq, Int.reduceNe, Int.reduceEq, ne_eq, Nat.reduceLeDiff, Nat.reduceMod, Nat.reduceDiv, al0, al1, al2, List.length_cons, List.length_nil] | with_reducible apply And.intro | decide | omega)
    all_goals
      apply VC.at
      · simp -implicitDefEqProofs only [go_sem, Nat.reduceLT, Nat.reduceAdd, Nat.reduceEqDiff, reduceIte, Nat.reduceMul, Nat.reduceSub, reduceCtorEq, Int.reduceNe, Int.reduceEq, ne_eq, Nat.reduceLeDiff, Nat.reduceMod, Nat.reduceDiv, al0, al1, al2, List.length_cons, List.length_nil]; (try simp (disch := omega) only [i64_in, tmodn, tdivn]); exact rfl
      apply VC.ret
      simp -implicitDefEqProofs only [go_sem, Nat.reduceLT, Nat.reduceAdd, Nat.reduceEqDiff, reduceIte, Nat.reduceMul, Nat.reduceSub, reduceCtorEq, Int.reduceNe, Int.reduceEq, ne_eq, Nat.reduceLeDiff, Nat.reduceMod, Nat.reduceDiv, al0, al1, al2, List.length_cons, List.length_nil]
      all_goals (first | trivial | rfl)
end Go.Proofs.YtfbodageccednaaDoor.Oa

