/- What ReadShort, Width and Order compute: their contracts. No condition. -/
import Derived.Test.YtfbodageccednaaDoorOaE
set_option linter.unusedVariables false
set_option linter.unusedSimpArgs false
namespace Go.Proofs.YtfbodageccednaaDoor.Oa
open Go Go.RowKit Go.Proofs.YtfbodageccednaaDoor.Vm Go.IntWalk
set_option maxRecDepth 100000
set_option maxHeartbeats 4000000
noncomputable def ΦP6 : Fns := tab [(16, readgenF), (14, shortF)]
theorem ΦP6_ok : Sound E ΦP6 := sound_cons (by kernel_rfl) readgen_ok (sound_cons (by kernel_rfl) short_ok (sound_nil))
@[go_sem] theorem ΦP6_16 : ΦP6 16 = some readgenF := rfl
@[go_sem] theorem ΦP6_14 : ΦP6 14 = some shortF := rfl
@[go_sem] theorem k67 : kindT Tryd.prog 67 = .arr 2 9 := by kernel_rfl
@[go_sem] theorem s67 : szT Tryd.prog 67 = 2 := by kernel_rfl
@[go_sem] theorem p67 : posT Tryd.prog 67 = true := by kernel_rfl
@[go_sem] theorem b67 : bytesT Tryd.prog 67 = 32 := by kernel_rfl
@[go_sem] theorem z67 : zeroT Tryd.prog 67 = some [.dat (.str []), .dat (.str [])] := by kernel_rfl
def tryS (b s : List UInt8) : Option Int := match readGP (b ++ s) with
  | some t => if shortOk t = true ∧ shortO t = s then some t else none
  | none => none
def readShP (s : List UInt8) : Option Int := match tryS [49, 57] s with
  | some t => some t
  | none => tryS [50, 48] s
theorem tryS_none {b s : List UInt8} (h : readGP (b ++ s) = none) : tryS b s = none := by unfold tryS; rw [h]
theorem tryS_no {b s : List UInt8} {t : Int} (h : readGP (b ++ s) = some t) (h' : ¬ (shortOk t = true ∧ shortO t = s)) : tryS b s = none := by unfold tryS; rw [h]; exact if_neg h'
theorem tryS_yes {b s : List UInt8} {t : Int} (h : readGP (b ++ s) = some t) (h' : shortOk t = true ∧ shortO t = s) : tryS b s = some t := by unfold tryS; rw [h]; exact if_pos h'
def begS : List (List UInt8) := [[49, 57], [50, 48]]
def missed (k : Nat) (s : List UInt8) : Prop := ∀ j, j < k → tryS (begS.getD j []) s = none
theorem missed_succ {k : Nat} {s : List UInt8} (h : missed k s) (h' : tryS (begS.getD k []) s = none) : missed (k + 1) s := fun j hj => by
  rcases (show j < k ∨ j = k by omega) with h1 | h1
  · exact h j h1
  · rw [h1]; exact h'
theorem rs_miss {k : Nat} {s : List UInt8} (h : missed k s) (hk : 2 ≤ k) : readShP s = none := by
  unfold readShP
  rw [show tryS [49, 57] s = none from h 0 (by omega)]
  exact h 1 (by omega)
theorem rs_hit {k : Nat} {s : List UInt8} {t : Int} (h : missed k s) (hk : k < 2) (h' : tryS (begS.getD k []) s = some t) : readShP s = some t := by
  unfold readShP
  rcases (show k = 0 ∨ k = 1 by omega) with ek | ek <;> subst ek
  · rw [show tryS [49, 57] s = some t from h']
  · rw [show tryS [49, 57] s = none from h 0 (by omega)]; exact h'
theorem beg_at {k : Nat} (hk : k < 2) : ([.str [49, 57], .str [50, 48]] : List Vm.Data).getD (k * 1) .nilp = .str (begS.getD k []) := by
  rcases (show k = 0 ∨ k = 1 by omega) with ek | ek <;> subst ek <;> rfl
theorem beg_len {k : Nat} (hk : k < 2) : (begS.getD k []).length = 2 := by
  rcases (show k = 0 ∨ k = 1 by omega) with ek | ek <;> subst ek <;> rfl
def readshA (s : List UInt8) : List Vm.Data := [.str s]
noncomputable def readshF : PFn := PFn.of readshA (fun s => s.length ≤ 1000) (fun s => [.int .i64 ((readShP s).getD 0), .int .i64 (if (readShP s).isSome then 0 else 150)])
theorem readsh_inj (x y : List UInt8) (h : readshA x = readshA y) : x = y := by
  simpa [readshA, Prod.ext_iff, numsD_inj, bytesD_inj, Vm.Data.lst.injEq, Int.natCast_inj] using h
@[go_sem] theorem readsh_pre (s : List UInt8) : readshF.pre [.str s] = (s.length ≤ 1000) := PFn.of_pre readsh_inj s
@[go_sem] theorem readsh_res (s : List UInt8) : readshF.res [.str s] = [.int .i64 ((readShP s).getD 0), .int .i64 (if (readShP s).isSome then 0 else 150)] := PFn.of_res readsh_inj s
theorem readsh_ok : Pure E 18 readshF := by
  apply Pure.of_body (rs := [.tmp 2, .tmp 3]) (n := 37) Tryd.func18 rfl rfl rfl
  intro ds hds
  obtain ⟨s, rfl, hds⟩ := hds
  (try dsimp only at hds)
  rw [show readshF.res (readshA s) = [.int .i64 ((readShP s).getD 0), .int .i64 (if (readShP s).isSome then 0 else 150)] from readsh_res s]
  skip
  refine ⟨Nat.le_of_ble_eq_true rfl, ?_⟩
  show VC E none _ (pureSt 37 [.str s]) _
  apply VC.regt ΦP6_ok [0]; intro K' hK; dsimp only [List.take, List.drop, List.map, strip, stripG]; simp -implicitDefEqProofs only [go_sem, Nat.reduceLT, Nat.reduceAdd, Nat.reduceEqDiff, reduceIte, Nat.reduceMul, Nat.reduceSub, reduceCtorEq, Int.reduceNe, Int.reduceEq, ne_eq, Nat.reduceLeDiff, Nat.reduceMod, Nat.reduceDiv, List.cons_append, List.nil_append]
  (repeat' first | (refine hK _ ?_; clear hK K') | with_reducible apply And.intro | (simp -implicitDefEqProofs (disch := omega) only [i64_in, List.length_cons, List.length_nil, Nat.reduceAdd]; done) | (simp only [maxLen]; omega) | omega | (simp only [List.length_append, List.length_cons, List.length_nil]; omega) | fail)
  all_goals
    apply VC.at
    · simp -implicitDefEqProofs only [go_sem, Nat.reduceLT, Nat.reduceAdd, Nat.reduceEqDiff, reduceIte, Nat.reduceMul, Nat.reduceSub, reduceCtorEq, Int.reduceNe, Int.reduceEq, ne_eq, Nat.reduceLeDiff, Nat.reduceMod, Nat.reduceDiv, List.cons_append, List.nil_append]; (try simp (disch := omega) only [i64_in, tmodn, tdivn]); exact rfl
    apply VC.seq
    apply VC.regt ΦP6_ok [0, 10, 11]; intro K' hK; dsimp only [List.take, List.drop, List.map, strip, stripG]; simp -implicitDefEqProofs only [go_sem, Nat.reduceLT, Nat.reduceAdd, Nat.reduceEqDiff, reduceIte, Nat.reduceMul, Nat.reduceSub, reduceCtorEq, Int.reduceNe, Int.reduceEq, ne_eq, Nat.reduceLeDiff, Nat.reduceMod, Nat.reduceDiv, List.cons_append, List.nil_append]
    (repeat' first | (refine hK _ ?_; clear hK K') | with_reducible apply And.intro | (simp -implicitDefEqProofs (disch := omega) only [i64_in, List.length_cons, List.length_nil, Nat.reduceAdd]; done) | (simp only [maxLen]; omega) | omega | (simp only [List.length_append, List.length_cons, List.length_nil]; omega) | fail)
    all_goals
      apply VC.at
      · simp -implicitDefEqProofs only [go_sem, Nat.reduceLT, Nat.reduceAdd, Nat.reduceEqDiff, reduceIte, Nat.reduceMul, Nat.reduceSub, reduceCtorEq, Int.reduceNe, Int.reduceEq, ne_eq, Nat.reduceLeDiff, Nat.reduceMod, Nat.reduceDiv, List.cons_append, List.nil_append]; (try simp (disch := omega) only [i64_in, tmodn, tdivn]); exact rfl
      apply VC.block
      refine VC.ent (Ent.frzT (t := 10) (x := .agg [.str [49, 57], .str [50, 48]]) (by simp -implicitDefEqProofs only [go_sem, Nat.reduceLT, Nat.reduceAdd, Nat.reduceEqDiff, reduceIte, Nat.reduceMul, Nat.reduceSub, reduceCtorEq, Int.reduceNe, Int.reduceEq, ne_eq, Nat.reduceLeDiff, Nat.reduceMod, Nat.reduceDiv]; exact rfl) (by simp -implicitDefEqProofs only [go_sem, Nat.reduceLT, Nat.reduceAdd, Nat.reduceEqDiff, reduceIte, Nat.reduceMul, Nat.reduceSub, reduceCtorEq, Int.reduceNe, Int.reduceEq, ne_eq, Nat.reduceLeDiff, Nat.reduceMod, Nat.reduceDiv]; exact rfl)) ?_
      apply VC.at; · simp -implicitDefEqProofs only [go_sem, Nat.reduceLT, Nat.reduceAdd, Nat.reduceEqDiff, reduceIte, Nat.reduceMul, Nat.reduceSub, reduceCtorEq, Int.reduceNe, Int.reduceEq, ne_eq, Nat.reduceLeDiff, Nat.reduceMod, Nat.reduceDiv]; exact rfl
      refine VC.loopP (ι := Nat) [0, 10] (fun i => [(11, .dat (.int .i64 (i : Int)))]) (fun _ => []) (fun i => i ≤ 2 ∧ missed i s) (fun i => 2 - i) 0 ⟨by decide, fun j hj => absurd hj (Nat.not_lt_zero j)⟩ ?_ ?_
      · refine Ent.to rfl rfl rfl ?_ ?_ <;> (simp -implicitDefEqProofs only [go_sem, Nat.reduceLT, Nat.reduceAdd, Nat.reduceEqDiff, reduceIte, Nat.reduceMul, Nat.reduceSub, reduceCtorEq, Int.reduceNe, Int.reduceEq, ne_eq, Nat.reduceLeDiff, Nat.reduceMod, Nat.reduceDiv]; (try simp only [D.dat.injEq, Vm.Data.int.injEq, true_and, and_true, and_self, eq_self]); (try omega); (try ((repeat' apply And.intro) <;> first | omega | rfl)))
      · rintro k ⟨hk, hm⟩; (try dsimp only at hk hm)
        apply VC.regt ΦP6_ok [0, 10, 11, 12]; intro K' hK; dsimp only [List.take, List.drop, List.map, strip, stripG]; simp -implicitDefEqProofs only [go_sem, Nat.reduceLT, Nat.reduceAdd, Nat.reduceEqDiff, reduceIte, Nat.reduceMul, Nat.reduceSub, reduceCtorEq, Int.reduceNe, Int.reduceEq, ne_eq, Nat.reduceLeDiff, Nat.reduceMod, Nat.reduceDiv, List.cons_append, List.nil_append]
        (repeat' first | (refine hK _ ?_; clear hK K') | with_reducible apply And.intro | (simp -implicitDefEqProofs (disch := omega) only [i64_in, List.length_cons, List.length_nil, Nat.reduceAdd]; done) | (simp only [maxLen]; omega) | omega | (simp only [List.length_append, List.length_cons, List.length_nil]; omega) | fail)
        all_goals
          apply VC.at
          · simp -implicitDefEqProofs only [go_sem, Nat.reduceLT, Nat.reduceAdd, Nat.reduceEqDiff, reduceIte, Nat.reduceMul, Nat.reduceSub, reduceCtorEq, Int.reduceNe, Int.reduceEq, ne_eq, Nat.reduceLeDiff, Nat.reduceMod, Nat.reduceDiv, List.cons_append, List.nil_append]; (try simp (disch := omega) only [i64_in, tmodn, tdivn]); exact rfl
          apply VC.seq
          first | (apply VC.condd; (focus (simp -implicitDefEqProofs only [go_sem, Nat.reduceLT, Nat.reduceAdd, Nat.reduceEqDiff, reduceIte, Nat.reduceMul, Nat.reduceSub, reduceCtorEq, Int.reduceNe, Int.reduceEq, ne_eq, Nat.reduceLeDiff, Nat.reduceMod, Nat.reduceDiv, List.cons_append, List.nil_append]; with_reducible exact rfl))) | (apply VC.condn; (focus (simp -implicitDefEqProofs only [go_sem, Nat.reduceLT, Nat.reduceAdd, Nat.reduceEqDiff, reduceIte, Nat.reduceMul, Nat.reduceSub, reduceCtorEq, Int.reduceNe, Int.reduceEq, ne_eq, Nat.reduceLeDiff, Nat.reduceMod, Nat.reduceDiv, List.cons_append, List.nil_append]; with_reducible exact rfl))) | (apply VC.condt; (focus (simp -implicitDefEqProofs only [go_sem, Nat.reduceLT, Nat.reduceAdd, Nat.reduceEqDiff, reduceIte, Nat.reduceMul, Nat.reduceSub, reduceCtorEq, Int.reduceNe, Int.reduceEq, ne_eq, Nat.reduceLeDiff, Nat.reduceMod, Nat.reduceDiv, List.cons_append, List.nil_append]; with_reducible exact rfl))) | (apply VC.condb; (focus (simp -implicitDefEqProofs only [go_sem, Nat.reduceLT, Nat.reduceAdd, Nat.reduceEqDiff, reduceIte, Nat.reduceMul, Nat.reduceSub, reduceCtorEq, Int.reduceNe, Int.reduceEq, ne_eq, Nat.reduceLeDiff, Nat.reduceMod, Nat.reduceDiv, List.cons_append, List.nil_append]; exact rfl)))
          · intro h; try exact absurd h (by decide)
            all_goals
              apply VC.skip
              refine thenK_n ?_
              apply VC.seq
              apply VC.block
              apply VC.regt ΦP6_ok [0, 5, 10, 11]; intro K' hK; dsimp only [List.take, List.drop, List.map, strip, stripG]; simp -implicitDefEqProofs only [go_sem, Nat.reduceLT, Nat.reduceAdd, Nat.reduceEqDiff, reduceIte, Nat.reduceMul, Nat.reduceSub, reduceCtorEq, Int.reduceNe, Int.reduceEq, ne_eq, Nat.reduceLeDiff, Nat.reduceMod, Nat.reduceDiv, List.cons_append, List.nil_append]
              (repeat' first | (refine hK _ ?_; clear hK K') | ((first | with_reducible refine runA_id ?_ | with_reducible refine goA_id ?_); simp -implicitDefEqProofs (disch := omega) only [i64_in]; simp -implicitDefEqProofs only [go_sem, Nat.reduceLT, Nat.reduceAdd, Nat.reduceEqDiff, reduceIte, Nat.reduceMul, Nat.reduceSub, reduceCtorEq, Int.reduceNe, Int.reduceEq, ne_eq, Nat.reduceLeDiff, Nat.reduceMod, Nat.reduceDiv, List.cons_append, List.nil_append]) | with_reducible apply And.intro | (simp -implicitDefEqProofs (disch := omega) only [i64_in, List.length_cons, List.length_nil, Nat.reduceAdd]; done) | (simp only [maxLen]; omega) | omega | (simp only [List.length_append, List.length_cons, List.length_nil]; omega) | fail)
              all_goals
                apply VC.at
                · simp -implicitDefEqProofs only [go_sem, Nat.reduceLT, Nat.reduceAdd, Nat.reduceEqDiff, reduceIte, Nat.reduceMul, Nat.reduceSub, reduceCtorEq, Int.reduceNe, Int.reduceEq, ne_eq, Nat.reduceLeDiff, Nat.reduceMod, Nat.reduceDiv, List.cons_append, List.nil_append]; (try simp (disch := omega) only [i64_in, tmodn, tdivn]); exact rfl
                rw [beg_at (by omega)]; have hbl := beg_len (k := k) (by omega)
                apply VC.regt ΦP6_ok [0, 6, 7, 10, 11]; intro K' hK; dsimp only [List.take, List.drop, List.map, strip, stripG]; simp -implicitDefEqProofs only [go_sem, Nat.reduceLT, Nat.reduceAdd, Nat.reduceEqDiff, reduceIte, Nat.reduceMul, Nat.reduceSub, reduceCtorEq, Int.reduceNe, Int.reduceEq, ne_eq, Nat.reduceLeDiff, Nat.reduceMod, Nat.reduceDiv, List.cons_append, List.nil_append]
                (repeat' first | (refine hK _ ?_; clear hK K') | ((first | with_reducible refine runA_id ?_ | with_reducible refine goA_id ?_); simp -implicitDefEqProofs (disch := omega) only [i64_in]; simp -implicitDefEqProofs only [go_sem, Nat.reduceLT, Nat.reduceAdd, Nat.reduceEqDiff, reduceIte, Nat.reduceMul, Nat.reduceSub, reduceCtorEq, Int.reduceNe, Int.reduceEq, ne_eq, Nat.reduceLeDiff, Nat.reduceMod, Nat.reduceDiv, List.cons_append, List.nil_append]) | with_reducible apply And.intro | (simp -implicitDefEqProofs (disch := omega) only [i64_in, List.length_cons, List.length_nil, Nat.reduceAdd]; done) | (simp only [maxLen]; omega) | omega | (simp only [List.length_append, List.length_cons, List.length_nil]; omega) | fail)
                all_goals
                  apply VC.at
                  · simp -implicitDefEqProofs only [go_sem, Nat.reduceLT, Nat.reduceAdd, Nat.reduceEqDiff, reduceIte, Nat.reduceMul, Nat.reduceSub, reduceCtorEq, Int.reduceNe, Int.reduceEq, ne_eq, Nat.reduceLeDiff, Nat.reduceMod, Nat.reduceDiv, List.cons_append, List.nil_append]; (try simp (disch := omega) only [i64_in, tmodn, tdivn]); exact rfl
                  rcases hr : readGP (begS.getD k [] ++ s) with _ | t
                  all_goals
                    apply VC.seq
                    apply VC.regt ΦP6_ok [0, 6, 10, 11, 22]; intro K' hK; dsimp only [List.take, List.drop, List.map, strip, stripG]; simp -implicitDefEqProofs only [go_sem, Nat.reduceLT, Nat.reduceAdd, Nat.reduceEqDiff, reduceIte, Nat.reduceMul, Nat.reduceSub, reduceCtorEq, Int.reduceNe, Int.reduceEq, ne_eq, Nat.reduceLeDiff, Nat.reduceMod, Nat.reduceDiv, hr, Option.isSome_none, Option.isSome_some]
                    (repeat' first | (refine hK _ ?_; clear hK K') | with_reducible apply And.intro | (simp -implicitDefEqProofs (disch := omega) only [i64_in, List.length_cons, List.length_nil, Nat.reduceAdd]; done) | (simp only [maxLen]; omega) | omega | (simp only [List.length_append, List.length_cons, List.length_nil]; omega) | fail)
                    all_goals
                      apply VC.at
                      · simp -implicitDefEqProofs only [go_sem, Nat.reduceLT, Nat.reduceAdd, Nat.reduceEqDiff, reduceIte, Nat.reduceMul, Nat.reduceSub, reduceCtorEq, Int.reduceNe, Int.reduceEq, ne_eq, Nat.reduceLeDiff, Nat.reduceMod, Nat.reduceDiv, hr, Option.isSome_none, Option.isSome_some]; (try simp (disch := omega) only [i64_in, tmodn, tdivn]); exact rfl
                      first | (apply VC.condd; (focus (simp -implicitDefEqProofs only [go_sem, Nat.reduceLT, Nat.reduceAdd, Nat.reduceEqDiff, reduceIte, Nat.reduceMul, Nat.reduceSub, reduceCtorEq, Int.reduceNe, Int.reduceEq, ne_eq, Nat.reduceLeDiff, Nat.reduceMod, Nat.reduceDiv, List.cons_append, List.nil_append]; with_reducible exact rfl))) | (apply VC.condn; (focus (simp -implicitDefEqProofs only [go_sem, Nat.reduceLT, Nat.reduceAdd, Nat.reduceEqDiff, reduceIte, Nat.reduceMul, Nat.reduceSub, reduceCtorEq, Int.reduceNe, Int.reduceEq, ne_eq, Nat.reduceLeDiff, Nat.reduceMod, Nat.reduceDiv, List.cons_append, List.nil_append]; with_reducible exact rfl))) | (apply VC.condt; (focus (simp -implicitDefEqProofs only [go_sem, Nat.reduceLT, Nat.reduceAdd, Nat.reduceEqDiff, reduceIte, Nat.reduceMul, Nat.reduceSub, reduceCtorEq, Int.reduceNe, Int.reduceEq, ne_eq, Nat.reduceLeDiff, Nat.reduceMod, Nat.reduceDiv, List.cons_append, List.nil_append]; with_reducible exact rfl))) | (apply VC.condb; (focus (simp -implicitDefEqProofs only [go_sem, Nat.reduceLT, Nat.reduceAdd, Nat.reduceEqDiff, reduceIte, Nat.reduceMul, Nat.reduceSub, reduceCtorEq, Int.reduceNe, Int.reduceEq, ne_eq, Nat.reduceLeDiff, Nat.reduceMod, Nat.reduceDiv, List.cons_append, List.nil_append]; exact rfl)))
                      · intro h; try exact absurd h (by decide)
                        all_goals
                          apply VC.exit
                          refine thenK_e ?_
                          refine blockK_e ?_
                          refine thenK_n ?_
                          apply VC.regLast ΦP6_ok; intro K' hK; dsimp only [List.take, List.drop, List.map, strip, stripG]; simp -implicitDefEqProofs only [go_sem, Nat.reduceLT, Nat.reduceAdd, Nat.reduceEqDiff, reduceIte, Nat.reduceMul, Nat.reduceSub, reduceCtorEq, Int.reduceNe, Int.reduceEq, ne_eq, Nat.reduceLeDiff, Nat.reduceMod, Nat.reduceDiv, List.cons_append, List.nil_append]
                          (repeat' first | (refine hK _ ?_; clear hK K') | with_reducible apply And.intro | (simp -implicitDefEqProofs (disch := omega) only [i64_in, List.length_cons, List.length_nil, Nat.reduceAdd]; done) | (simp only [maxLen]; omega) | omega | (simp only [List.length_append, List.length_cons, List.length_nil]; omega) | fail)
                          all_goals
                            refine thenK_n ?_
                            have hmn : missed (k + 1) s := missed_succ hm (by first | exact tryS_none hr | exact tryS_no hr (by rintro ⟨q1, q2⟩; simp_all; done))
                            refine ⟨k + 1, ⟨by omega, hmn⟩, Ent.to rfl rfl rfl ?_ ?_, by omega⟩
                            · simp -implicitDefEqProofs only [go_sem, Nat.reduceLT, Nat.reduceAdd, Nat.reduceEqDiff, reduceIte, Nat.reduceMul, Nat.reduceSub, reduceCtorEq, Int.reduceNe, Int.reduceEq, ne_eq, Nat.reduceLeDiff, Nat.reduceMod, Nat.reduceDiv]; (try simp (disch := omega) only [i64_in, tmodn, tdivn]); (try simp only [D.dat.injEq, Vm.Data.int.injEq, true_and, and_true, and_self, eq_self]); (try omega); (try ((repeat' apply And.intro) <;> first | omega | rfl))
                            · simp -implicitDefEqProofs only [go_sem, Nat.reduceLT, Nat.reduceAdd, Nat.reduceEqDiff, reduceIte, Nat.reduceMul, Nat.reduceSub, reduceCtorEq, Int.reduceNe, Int.reduceEq, ne_eq, Nat.reduceLeDiff, Nat.reduceMod, Nat.reduceDiv]
                      · intro h; try exact absurd h (by decide)
                        all_goals
                          apply VC.skip
                          refine thenK_n ?_
                          apply VC.regt ΦP6_ok [0, 6, 8, 9, 10, 11]; intro K' hK; dsimp only [List.take, List.drop, List.map, strip, stripG]; simp -implicitDefEqProofs only [go_sem, Nat.reduceLT, Nat.reduceAdd, Nat.reduceEqDiff, reduceIte, Nat.reduceMul, Nat.reduceSub, reduceCtorEq, Int.reduceNe, Int.reduceEq, ne_eq, Nat.reduceLeDiff, Nat.reduceMod, Nat.reduceDiv, hr, Option.getD_some]
                          (repeat' first | (refine hK _ ?_; clear hK K') | ((first | with_reducible refine runA_id ?_ | with_reducible refine goA_id ?_); simp -implicitDefEqProofs (disch := omega) only [i64_in]; simp -implicitDefEqProofs only [go_sem, Nat.reduceLT, Nat.reduceAdd, Nat.reduceEqDiff, reduceIte, Nat.reduceMul, Nat.reduceSub, reduceCtorEq, Int.reduceNe, Int.reduceEq, ne_eq, Nat.reduceLeDiff, Nat.reduceMod, Nat.reduceDiv, hr, Option.getD_some]) | with_reducible apply And.intro | (simp -implicitDefEqProofs (disch := omega) only [i64_in, List.length_cons, List.length_nil, Nat.reduceAdd]; done) | (simp only [maxLen]; omega) | omega | (simp only [List.length_append, List.length_cons, List.length_nil]; omega) | fail)
                          all_goals
                            apply VC.at
                            · simp -implicitDefEqProofs only [go_sem, Nat.reduceLT, Nat.reduceAdd, Nat.reduceEqDiff, reduceIte, Nat.reduceMul, Nat.reduceSub, reduceCtorEq, Int.reduceNe, Int.reduceEq, ne_eq, Nat.reduceLeDiff, Nat.reduceMod, Nat.reduceDiv, hr, Option.getD_some]; (try simp (disch := omega) only [i64_in, tmodn, tdivn]); exact rfl
                            apply VC.regt ΦP6_ok [0, 6, 10, 11, 34]; intro K' hK; dsimp only [List.take, List.drop, List.map, strip, stripG]; simp only [gtmp, List.getElem?_toArray, List.getElem?_cons_succ, List.getElem?_cons_zero, Option.bind_some]; simp -implicitDefEqProofs only [go_sem, Nat.reduceLT, Nat.reduceAdd, Nat.reduceEqDiff, reduceIte, Nat.reduceMul, Nat.reduceSub, reduceCtorEq, Int.reduceNe, Int.reduceEq, ne_eq, Nat.reduceLeDiff, Nat.reduceMod, Nat.reduceDiv, List.cons_append, List.nil_append]
                            (repeat' first | (refine hK _ ?_; clear hK K') | (first | apply goB_splitD | apply goA_splitD | apply goB_split | apply goA_split | apply goA_all) <;> intro _ <;> simp -implicitDefEqProofs only [go_sem, Nat.reduceLT, Nat.reduceAdd, Nat.reduceEqDiff, reduceIte, Nat.reduceMul, Nat.reduceSub, reduceCtorEq, Int.reduceNe, Int.reduceEq, ne_eq, Nat.reduceLeDiff, Nat.reduceMod, Nat.reduceDiv, List.cons_append, List.nil_append] | with_reducible apply And.intro | (simp -implicitDefEqProofs (disch := omega) only [i64_in, List.length_cons, List.length_nil, Nat.reduceAdd]; done) | (simp only [maxLen]; omega) | omega | (simp only [List.length_append, List.length_cons, List.length_nil]; omega) | fail)
                            all_goals
                              apply VC.at
                              · simp -implicitDefEqProofs only [go_sem, Nat.reduceLT, Nat.reduceAdd, Nat.reduceEqDiff, reduceIte, Nat.reduceMul, Nat.reduceSub, reduceCtorEq, Int.reduceNe, Int.reduceEq, ne_eq, Nat.reduceLeDiff, Nat.reduceMod, Nat.reduceDiv, List.cons_append, List.nil_append]; (try simp (disch := omega) only [i64_in, tmodn, tdivn]); exact rfl
                              first | (apply VC.condd; (focus (simp -implicitDefEqProofs only [go_sem, Nat.reduceLT, Nat.reduceAdd, Nat.reduceEqDiff, reduceIte, Nat.reduceMul, Nat.reduceSub, reduceCtorEq, Int.reduceNe, Int.reduceEq, ne_eq, Nat.reduceLeDiff, Nat.reduceMod, Nat.reduceDiv, List.cons_append, List.nil_append]; with_reducible exact rfl))) | (apply VC.condn; (focus (simp -implicitDefEqProofs only [go_sem, Nat.reduceLT, Nat.reduceAdd, Nat.reduceEqDiff, reduceIte, Nat.reduceMul, Nat.reduceSub, reduceCtorEq, Int.reduceNe, Int.reduceEq, ne_eq, Nat.reduceLeDiff, Nat.reduceMod, Nat.reduceDiv, List.cons_append, List.nil_append]; with_reducible exact rfl))) | (apply VC.condt; (focus (simp -implicitDefEqProofs only [go_sem, Nat.reduceLT, Nat.reduceAdd, Nat.reduceEqDiff, reduceIte, Nat.reduceMul, Nat.reduceSub, reduceCtorEq, Int.reduceNe, Int.reduceEq, ne_eq, Nat.reduceLeDiff, Nat.reduceMod, Nat.reduceDiv, List.cons_append, List.nil_append]; with_reducible exact rfl))) | (apply VC.condb; (focus (simp -implicitDefEqProofs only [go_sem, Nat.reduceLT, Nat.reduceAdd, Nat.reduceEqDiff, reduceIte, Nat.reduceMul, Nat.reduceSub, reduceCtorEq, Int.reduceNe, Int.reduceEq, ne_eq, Nat.reduceLeDiff, Nat.reduceMod, Nat.reduceDiv, List.cons_append, List.nil_append]; exact rfl)))
                              · intro h; try exact absurd h (by decide)
                                all_goals
                                  apply VC.regt ΦP6_ok [2, 3]; intro K' hK; dsimp only [List.take, List.drop, List.map, strip, stripG]; simp -implicitDefEqProofs only [go_sem, Nat.reduceLT, Nat.reduceAdd, Nat.reduceEqDiff, reduceIte, Nat.reduceMul, Nat.reduceSub, reduceCtorEq, Int.reduceNe, Int.reduceEq, ne_eq, Nat.reduceLeDiff, Nat.reduceMod, Nat.reduceDiv, List.cons_append, List.nil_append]
                                  (repeat' first | (refine hK _ ?_; clear hK K') | with_reducible apply And.intro | (simp -implicitDefEqProofs (disch := omega) only [i64_in, List.length_cons, List.length_nil, Nat.reduceAdd]; done) | (simp only [maxLen]; omega) | omega | (simp only [List.length_append, List.length_cons, List.length_nil]; omega) | fail)
                                  all_goals
                                    apply VC.at
                                    · simp -implicitDefEqProofs only [go_sem, Nat.reduceLT, Nat.reduceAdd, Nat.reduceEqDiff, reduceIte, Nat.reduceMul, Nat.reduceSub, reduceCtorEq, Int.reduceNe, Int.reduceEq, ne_eq, Nat.reduceLeDiff, Nat.reduceMod, Nat.reduceDiv, List.cons_append, List.nil_append]; (try simp (disch := omega) only [i64_in, tmodn, tdivn]); exact rfl
                                    apply VC.ret
                                    refine blockK_r ?_
                                    refine thenK_r ?_
                                    refine thenK_r ?_
                                    refine blockK_r ?_
                                    refine thenK_r ?_
                                    simp -implicitDefEqProofs only [go_sem, Nat.reduceLT, Nat.reduceAdd, Nat.reduceEqDiff, reduceIte, Nat.reduceMul, Nat.reduceSub, reduceCtorEq, Int.reduceNe, Int.reduceEq, ne_eq, Nat.reduceLeDiff, Nat.reduceMod, Nat.reduceDiv, List.cons_append, List.nil_append]
                                    all_goals (first | (rw [rs_miss hm (by omega)]; rfl) | (rw [rs_hit hm (by omega) (tryS_yes hr (by simp_all))]; rfl))
                              · intro h; try exact absurd h (by decide)
                                all_goals
                                  apply VC.skip
                                  refine blockK_n ?_
                                  refine thenK_n ?_
                                  apply VC.regLast ΦP6_ok; intro K' hK; dsimp only [List.take, List.drop, List.map, strip, stripG]; simp -implicitDefEqProofs only [go_sem, Nat.reduceLT, Nat.reduceAdd, Nat.reduceEqDiff, reduceIte, Nat.reduceMul, Nat.reduceSub, reduceCtorEq, Int.reduceNe, Int.reduceEq, ne_eq, Nat.reduceLeDiff, Nat.reduceMod, Nat.reduceDiv, List.cons_append, List.nil_append]
                                  (repeat' first | (refine hK _ ?_; clear hK K') | with_reducible apply And.intro | (simp -implicitDefEqProofs (disch := omega) only [i64_in, List.length_cons, List.length_nil, Nat.reduceAdd]; done) | (simp only [maxLen]; omega) | omega | (simp only [List.length_append, List.length_cons, List.length_nil]; omega) | fail)
                                  all_goals
                                    refine thenK_n ?_
                                    have hmn : missed (k + 1) s := missed_succ hm (by first | exact tryS_none hr | exact tryS_no hr (by rintro ⟨q1, q2⟩; simp_all; done))
                                    refine ⟨k + 1, ⟨by omega, hmn⟩, Ent.to rfl rfl rfl ?_ ?_, by omega⟩
                                    · simp -implicitDefEqProofs only [go_sem, Nat.reduceLT, Nat.reduceAdd, Nat.reduceEqDiff, reduceIte, Nat.reduceMul, Nat.reduceSub, reduceCtorEq, Int.reduceNe, Int.reduceEq, ne_eq, Nat.reduceLeDiff, Nat.reduceMod, Nat.reduceDiv]; (try simp (disch := omega) only [i64_in, tmodn, tdivn]); (try simp only [D.dat.injEq, Vm.Data.int.injEq, true_and, and_true, and_self, eq_self]); (try omega); (try ((repeat' apply And.intro) <;> first | omega | rfl))
                                    · simp -implicitDefEqProofs only [go_sem, Nat.reduceLT, Nat.reduceAdd, Nat.reduceEqDiff, reduceIte, Nat.reduceMul, Nat.reduceSub, reduceCtorEq, Int.reduceNe, Int.reduceEq, ne_eq, Nat.reduceLeDiff, Nat.reduceMod, Nat.reduceDiv]
          · intro h; try exact absurd h (by decide)
            all_goals
              apply VC.exit
              refine thenK_e ?_
              refine thenK_e ?_
              refine blockK_e ?_
              refine thenK_n ?_
              apply VC.regt ΦP6_ok [2, 3]; intro K' hK; dsimp only [List.take, List.drop, List.map, strip, stripG]; simp -implicitDefEqProofs only [go_sem, Nat.reduceLT, Nat.reduceAdd, Nat.reduceEqDiff, reduceIte, Nat.reduceMul, Nat.reduceSub, reduceCtorEq, Int.reduceNe, Int.reduceEq, ne_eq, Nat.reduceLeDiff, Nat.reduceMod, Nat.reduceDiv, List.cons_append, List.nil_append]
              (repeat' first | (refine hK _ ?_; clear hK K') | with_reducible apply And.intro | (simp -implicitDefEqProofs (disch := omega) only [i64_in, List.length_cons, List.length_nil, Nat.reduceAdd]; done) | (simp only [maxLen]; omega) | omega | (simp only [List.length_append, List.length_cons, List.length_nil]; omega) | fail)
              all_goals
                apply VC.at
                · simp -implicitDefEqProofs only [go_sem, Nat.reduceLT, Nat.reduceAdd, Nat.reduceEqDiff, reduceIte, Nat.reduceMul, Nat.reduceSub, reduceCtorEq, Int.reduceNe, Int.reduceEq, ne_eq, Nat.reduceLeDiff, Nat.reduceMod, Nat.reduceDiv, List.cons_append, List.nil_append]; (try simp (disch := omega) only [i64_in, tmodn, tdivn]); exact rfl
                apply VC.ret
                simp -implicitDefEqProofs only [go_sem, Nat.reduceLT, Nat.reduceAdd, Nat.reduceEqDiff, reduceIte, Nat.reduceMul, Nat.reduceSub, reduceCtorEq, Int.reduceNe, Int.reduceEq, ne_eq, Nat.reduceLeDiff, Nat.reduceMod, Nat.reduceDiv, List.cons_append, List.nil_append]
                all_goals (first | (rw [rs_miss hm (by omega)]; rfl) | (rw [rs_hit hm (by omega) (tryS_yes hr (by simp_all))]; rfl))
end Go.Proofs.YtfbodageccednaaDoor.Oa
namespace Go.Proofs.YtfbodageccednaaDoor.Oa
open Go Go.RowKit Go.Proofs.YtfbodageccednaaDoor.Vm Go.IntWalk
set_option maxRecDepth 100000
set_option maxHeartbeats 4000000
@[go_sem] theorem k43 : kindT Tryd.prog 43 = .struct [(0, 3), (1, 3), (2, 3)] := by kernel_rfl
@[go_sem] theorem s43 : szT Tryd.prog 43 = 3 := by kernel_rfl
@[go_sem] theorem p43 : posT Tryd.prog 43 = true := by kernel_rfl
@[go_sem] theorem b43 : bytesT Tryd.prog 43 = 24 := by kernel_rfl
theorem min_lt {a b : Int} : (min a b < 0) = (a < 0 ∨ b < 0) := by simp only [eq_iff_iff]; omega
def widOk (s m u : Int) : Bool := decide (0 ≤ s ∧ s ≤ 2147483647 ∧ 0 ≤ m ∧ m ≤ 999 ∧ 0 ≤ u ∧ u ≤ 999)
def widN (s m u : Int) : Int := (s * 1000 + m) * 1000 + u
theorem wid_yes {s m u : Int} (h : 0 ≤ s ∧ s ≤ 2147483647 ∧ 0 ≤ m ∧ m ≤ 999 ∧ 0 ≤ u ∧ u ≤ 999) : widOk s m u = true := decide_eq_true h
theorem wid_no {s m u : Int} (h : ¬ (0 ≤ s ∧ s ≤ 2147483647 ∧ 0 ≤ m ∧ m ≤ 999 ∧ 0 ≤ u ∧ u ≤ 999)) : widOk s m u = false := decide_eq_false h
def widthA (x : Int × Int × Int) : List Vm.Data := let (s1, s2, s3) := x; [.agg [.int .i64 s1, .int .i64 s2, .int .i64 s3]]
noncomputable def widthF : PFn := PFn.of widthA (fun (s1, s2, s3) => True) (fun (s1, s2, s3) => [.int .i64 (if widOk s1 s2 s3 then widN s1 s2 s3 else 0), .int .i64 (if widOk s1 s2 s3 then 0 else 150)])
theorem width_inj (x y : Int × Int × Int) (h : widthA x = widthA y) : x = y := by
  simpa [widthA, Prod.ext_iff, numsD_inj, bytesD_inj, Vm.Data.lst.injEq, Int.natCast_inj] using h
@[go_sem] theorem width_pre (s1 : Int) (s2 : Int) (s3 : Int) : widthF.pre [.agg [.int .i64 s1, .int .i64 s2, .int .i64 s3]] = (True) := PFn.of_pre width_inj (s1, s2, s3)
@[go_sem] theorem width_res (s1 : Int) (s2 : Int) (s3 : Int) : widthF.res [.agg [.int .i64 s1, .int .i64 s2, .int .i64 s3]] = [.int .i64 (if widOk s1 s2 s3 then widN s1 s2 s3 else 0), .int .i64 (if widOk s1 s2 s3 then 0 else 150)] := PFn.of_res width_inj (s1, s2, s3)
theorem width_ok : Pure E 21 widthF := by
  apply Pure.of_body (rs := [.tmp 2, .tmp 3]) (n := 42) Tryd.func21 rfl rfl rfl
  intro ds hds
  obtain ⟨⟨s1, s2, s3⟩, rfl, hds⟩ := hds
  (try dsimp only at hds)
  rw [show widthF.res (widthA (s1, s2, s3)) = [.int .i64 (if widOk s1 s2 s3 then widN s1 s2 s3 else 0), .int .i64 (if widOk s1 s2 s3 then 0 else 150)] from width_res s1 s2 s3]
  skip
  refine ⟨Nat.le_of_ble_eq_true rfl, ?_⟩
  show VC E none _ (pureSt 42 [.agg [.int .i64 s1, .int .i64 s2, .int .i64 s3]]) _
  apply VC.regt sound_nil [1]; intro K' hK; dsimp only [List.take, List.drop, List.map, strip, stripG]; simp -implicitDefEqProofs only [go_sem, Nat.reduceLT, Nat.reduceAdd, Nat.reduceEqDiff, reduceIte, Nat.reduceMul, Nat.reduceSub, reduceCtorEq, Int.reduceNe, Int.reduceEq, ne_eq, Nat.reduceLeDiff, Nat.reduceMod, Nat.reduceDiv]
  (repeat' first | (refine hK _ ?_; clear hK K') | with_reducible apply And.intro | (simp -implicitDefEqProofs (disch := omega) only [i64_in, List.length_cons, List.length_nil, Nat.reduceAdd]; done) | omega | decide | fail)
  all_goals
    apply VC.at
    · simp -implicitDefEqProofs only [go_sem, Nat.reduceLT, Nat.reduceAdd, Nat.reduceEqDiff, reduceIte, Nat.reduceMul, Nat.reduceSub, reduceCtorEq, Int.reduceNe, Int.reduceEq, ne_eq, Nat.reduceLeDiff, Nat.reduceMod, Nat.reduceDiv]; (try simp (disch := omega) only [i64_in, tmodn, tdivn]); exact rfl
    apply VC.seq
    apply VC.regt sound_nil [1, 31]; intro K' hK; dsimp only [List.take, List.drop, List.map, strip, stripG]; simp only [gtmp, List.getElem?_toArray, List.getElem?_cons_succ, List.getElem?_cons_zero, Option.bind_some]; simp -implicitDefEqProofs only [go_sem, Nat.reduceLT, Nat.reduceAdd, Nat.reduceEqDiff, reduceIte, Nat.reduceMul, Nat.reduceSub, reduceCtorEq, Int.reduceNe, Int.reduceEq, ne_eq, Nat.reduceLeDiff, Nat.reduceMod, Nat.reduceDiv]
    (repeat' first | (refine hK _ ?_; clear hK K') | (first | apply goB_splitD | apply goA_splitD | apply goB_split | apply goA_split | apply goA_all) <;> intro _ <;> simp -implicitDefEqProofs only [go_sem, Nat.reduceLT, Nat.reduceAdd, Nat.reduceEqDiff, reduceIte, Nat.reduceMul, Nat.reduceSub, reduceCtorEq, Int.reduceNe, Int.reduceEq, ne_eq, Nat.reduceLeDiff, Nat.reduceMod, Nat.reduceDiv] | with_reducible apply And.intro | (simp -implicitDefEqProofs (disch := omega) only [i64_in, List.length_cons, List.length_nil, Nat.reduceAdd]; done) | omega | decide | fail)
    all_goals
      apply VC.at
      · simp -implicitDefEqProofs only [go_sem, Nat.reduceLT, Nat.reduceAdd, Nat.reduceEqDiff, reduceIte, Nat.reduceMul, Nat.reduceSub, reduceCtorEq, Int.reduceNe, Int.reduceEq, ne_eq, Nat.reduceLeDiff, Nat.reduceMod, Nat.reduceDiv]; (try simp (disch := omega) only [i64_in, tmodn, tdivn]); exact rfl
      first | (apply VC.condd; (focus (simp -implicitDefEqProofs only [go_sem, Nat.reduceLT, Nat.reduceAdd, Nat.reduceEqDiff, reduceIte, Nat.reduceMul, Nat.reduceSub, reduceCtorEq, Int.reduceNe, Int.reduceEq, ne_eq, Nat.reduceLeDiff, Nat.reduceMod, Nat.reduceDiv]; with_reducible exact rfl))) | (apply VC.condn; (focus (simp -implicitDefEqProofs only [go_sem, Nat.reduceLT, Nat.reduceAdd, Nat.reduceEqDiff, reduceIte, Nat.reduceMul, Nat.reduceSub, reduceCtorEq, Int.reduceNe, Int.reduceEq, ne_eq, Nat.reduceLeDiff, Nat.reduceMod, Nat.reduceDiv]; with_reducible exact rfl))) | (apply VC.condt; (focus (simp -implicitDefEqProofs only [go_sem, Nat.reduceLT, Nat.reduceAdd, Nat.reduceEqDiff, reduceIte, Nat.reduceMul, Nat.reduceSub, reduceCtorEq, Int.reduceNe, Int.reduceEq, ne_eq, Nat.reduceLeDiff, Nat.reduceMod, Nat.reduceDiv]; with_reducible exact rfl))) | (apply VC.condb; (focus (simp -implicitDefEqProofs only [go_sem, Nat.reduceLT, Nat.reduceAdd, Nat.reduceEqDiff, reduceIte, Nat.reduceMul, Nat.reduceSub, reduceCtorEq, Int.reduceNe, Int.reduceEq, ne_eq, Nat.reduceLeDiff, Nat.reduceMod, Nat.reduceDiv]; exact rfl)))
      · intro h; try exact absurd h (by decide)
        all_goals
          apply VC.regt sound_nil [2, 3]; intro K' hK; dsimp only [List.take, List.drop, List.map, strip, stripG]; simp -implicitDefEqProofs only [go_sem, Nat.reduceLT, Nat.reduceAdd, Nat.reduceEqDiff, reduceIte, Nat.reduceMul, Nat.reduceSub, reduceCtorEq, Int.reduceNe, Int.reduceEq, ne_eq, Nat.reduceLeDiff, Nat.reduceMod, Nat.reduceDiv]
          (repeat' first | (refine hK _ ?_; clear hK K') | with_reducible apply And.intro | (simp -implicitDefEqProofs (disch := omega) only [i64_in, List.length_cons, List.length_nil, Nat.reduceAdd]; done) | omega | decide | fail)
          all_goals
            apply VC.at
            · simp -implicitDefEqProofs only [go_sem, Nat.reduceLT, Nat.reduceAdd, Nat.reduceEqDiff, reduceIte, Nat.reduceMul, Nat.reduceSub, reduceCtorEq, Int.reduceNe, Int.reduceEq, ne_eq, Nat.reduceLeDiff, Nat.reduceMod, Nat.reduceDiv]; (try simp (disch := omega) only [i64_in, tmodn, tdivn]); exact rfl
            apply VC.ret
            refine thenK_r ?_
            simp -implicitDefEqProofs only [go_sem, Nat.reduceLT, Nat.reduceAdd, Nat.reduceEqDiff, reduceIte, Nat.reduceMul, Nat.reduceSub, reduceCtorEq, Int.reduceNe, Int.reduceEq, ne_eq, Nat.reduceLeDiff, Nat.reduceMod, Nat.reduceDiv]
            all_goals (first | (rw [wid_no (by omega)]; rfl) | (rw [wid_yes (by omega)]; rfl))
      · intro h; try exact absurd h (by decide)
        all_goals
          apply VC.skip
          refine thenK_n ?_
          apply VC.regt sound_nil [2, 3]; intro K' hK; dsimp only [List.take, List.drop, List.map, strip, stripG]; simp -implicitDefEqProofs only [go_sem, Nat.reduceLT, Nat.reduceAdd, Nat.reduceEqDiff, reduceIte, Nat.reduceMul, Nat.reduceSub, reduceCtorEq, Int.reduceNe, Int.reduceEq, ne_eq, Nat.reduceLeDiff, Nat.reduceMod, Nat.reduceDiv]
          (repeat' first | (refine hK _ ?_; clear hK K') | with_reducible apply And.intro | (simp -implicitDefEqProofs (disch := omega) only [i64_in, List.length_cons, List.length_nil, Nat.reduceAdd]; done) | omega | decide | fail)
          all_goals
            apply VC.at
            · simp -implicitDefEqProofs only [go_sem, Nat.reduceLT, Nat.reduceAdd, Nat.reduceEqDiff, reduceIte, Nat.reduceMul, Nat.reduceSub, reduceCtorEq, Int.reduceNe, Int.reduceEq, ne_eq, Nat.reduceLeDiff, Nat.reduceMod, Nat.reduceDiv]; (try simp (disch := omega) only [i64_in, tmodn, tdivn]); exact rfl
            apply VC.ret
            simp -implicitDefEqProofs only [go_sem, Nat.reduceLT, Nat.reduceAdd, Nat.reduceEqDiff, reduceIte, Nat.reduceMul, Nat.reduceSub, reduceCtorEq, Int.reduceNe, Int.reduceEq, ne_eq, Nat.reduceLeDiff, Nat.reduceMod, Nat.reduceDiv]
            all_goals (first | (rw [wid_no (by omega)]; rfl) | (rw [wid_yes (by omega)]; rfl))
noncomputable def ΦP7 : Fns := tab [(21, widthF)]
theorem ΦP7_ok : Sound E ΦP7 := sound_cons (by kernel_rfl) width_ok (sound_nil)
@[go_sem] theorem ΦP7_21 : ΦP7 21 = some widthF := rfl
def ordOk (a b s1 s2 s3 r1 r2 r3 : Int) : Bool := decide (0 ≤ a ∧ a ≤ 253402300799999 ∧ 0 ≤ b ∧ b ≤ 253402300799999) && (widOk s1 s2 s3 && widOk r1 r2 r3)
def ordN (a b v w : Int) : Int := if v + w < (b - a) * 1000 then -1 else if v + w < -((b - a) * 1000) then 1 else 0
theorem ord_no {a b s1 s2 s3 r1 r2 r3 : Int} (h : a < 0 ∨ 253402300799999 < a ∨ b < 0 ∨ 253402300799999 < b ∨ widOk s1 s2 s3 = false ∨ widOk r1 r2 r3 = false) : ordOk a b s1 s2 s3 r1 r2 r3 = false := by
  unfold ordOk
  by_cases e : 0 ≤ a ∧ a ≤ 253402300799999 ∧ 0 ≤ b ∧ b ≤ 253402300799999
  · rcases h with h | h | h | h | h | h
    · omega
    · omega
    · omega
    · omega
    · rw [h]; simp
    · rw [h]; simp
  · rw [decide_eq_false e]; rfl
theorem ord_yes {a b s1 s2 s3 r1 r2 r3 : Int} (h : 0 ≤ a ∧ a ≤ 253402300799999 ∧ 0 ≤ b ∧ b ≤ 253402300799999) (h1 : widOk s1 s2 s3 = true) (h2 : widOk r1 r2 r3 = true) : ordOk a b s1 s2 s3 r1 r2 r3 = true := by
  unfold ordOk; rw [decide_eq_true h, h1, h2]; rfl
theorem wid_rng {s m u : Int} (h : widOk s m u = true) : 0 ≤ widN s m u ∧ widN s m u ≤ 2147483647999999 := by
  have h' := of_decide_eq_true h
  unfold widN; omega
def orderA (x : Int × Int × Int × Int × Int × Int × Int × Int) : List Vm.Data := let (a, b, s1, s2, s3, r1, r2, r3) := x; [.int .i64 a, .int .i64 b, .agg [.int .i64 s1, .int .i64 s2, .int .i64 s3], .agg [.int .i64 r1, .int .i64 r2, .int .i64 r3]]
noncomputable def orderF : PFn := PFn.of orderA (fun (a, b, s1, s2, s3, r1, r2, r3) => True) (fun (a, b, s1, s2, s3, r1, r2, r3) => [.int .i64 (if ordOk a b s1 s2 s3 r1 r2 r3 then ordN a b (widN s1 s2 s3) (widN r1 r2 r3) else 0), .int .i64 (if ordOk a b s1 s2 s3 r1 r2 r3 then 0 else 150)])
theorem order_inj (x y : Int × Int × Int × Int × Int × Int × Int × Int) (h : orderA x = orderA y) : x = y := by
  simpa [orderA, and_assoc, Prod.ext_iff, numsD_inj, bytesD_inj, Vm.Data.lst.injEq, Int.natCast_inj] using h
@[go_sem] theorem order_pre (a : Int) (b : Int) (s1 : Int) (s2 : Int) (s3 : Int) (r1 : Int) (r2 : Int) (r3 : Int) : orderF.pre [.int .i64 a, .int .i64 b, .agg [.int .i64 s1, .int .i64 s2, .int .i64 s3], .agg [.int .i64 r1, .int .i64 r2, .int .i64 r3]] = (True) := PFn.of_pre order_inj (a, b, s1, s2, s3, r1, r2, r3)
@[go_sem] theorem order_res (a : Int) (b : Int) (s1 : Int) (s2 : Int) (s3 : Int) (r1 : Int) (r2 : Int) (r3 : Int) : orderF.res [.int .i64 a, .int .i64 b, .agg [.int .i64 s1, .int .i64 s2, .int .i64 s3], .agg [.int .i64 r1, .int .i64 r2, .int .i64 r3]] = [.int .i64 (if ordOk a b s1 s2 s3 r1 r2 r3 then ordN a b (widN s1 s2 s3) (widN r1 r2 r3) else 0), .int .i64 (if ordOk a b s1 s2 s3 r1 r2 r3 then 0 else 150)] := PFn.of_res order_inj (a, b, s1, s2, s3, r1, r2, r3)
theorem order_ok : Pure E 20 orderF := by
  apply Pure.of_body (rs := [.tmp 8, .tmp 9]) (n := 60) Tryd.func20 rfl rfl rfl
  intro ds hds
  obtain ⟨⟨a, b, s1, s2, s3, r1, r2, r3⟩, rfl, hds⟩ := hds
  (try dsimp only at hds)
  rw [show orderF.res (orderA (a, b, s1, s2, s3, r1, r2, r3)) = [.int .i64 (if ordOk a b s1 s2 s3 r1 r2 r3 then ordN a b (widN s1 s2 s3) (widN r1 r2 r3) else 0), .int .i64 (if ordOk a b s1 s2 s3 r1 r2 r3 then 0 else 150)] from order_res a b s1 s2 s3 r1 r2 r3]
  rcases hx : widOk s1 s2 s3 with _ | _ <;> rcases hy : widOk r1 r2 r3 with _ | _
  all_goals (try have hxr := wid_rng hx)
  all_goals (try have hyr := wid_rng hy)
  all_goals
    refine ⟨Nat.le_of_ble_eq_true rfl, ?_⟩
    show VC E none _ (pureSt 60 [.int .i64 a, .int .i64 b, .agg [.int .i64 s1, .int .i64 s2, .int .i64 s3], .agg [.int .i64 r1, .int .i64 r2, .int .i64 r3]]) _
    apply VC.regt ΦP7_ok [0, 1, 6, 7]; intro K' hK; dsimp only [List.take, List.drop, List.map, strip, stripG]; simp -implicitDefEqProofs only [go_sem, Nat.reduceLT, Nat.reduceAdd, Nat.reduceEqDiff, reduceIte, Nat.reduceMul, Nat.reduceSub, reduceCtorEq, Int.reduceNe, Int.reduceEq, ne_eq, Nat.reduceLeDiff, Nat.reduceMod, Nat.reduceDiv, hx, hy, Bool.false_eq_true]
    (repeat' first | (refine hK _ ?_; clear hK K') | with_reducible apply And.intro | (simp -implicitDefEqProofs (disch := omega) only [i64_in, List.length_cons, List.length_nil, Nat.reduceAdd]; done) | omega | decide | fail)
    all_goals
      apply VC.at
      · simp -implicitDefEqProofs only [go_sem, Nat.reduceLT, Nat.reduceAdd, Nat.reduceEqDiff, reduceIte, Nat.reduceMul, Nat.reduceSub, reduceCtorEq, Int.reduceNe, Int.reduceEq, ne_eq, Nat.reduceLeDiff, Nat.reduceMod, Nat.reduceDiv, hx, hy, Bool.false_eq_true]; (try simp (disch := omega) only [i64_in, tmodn, tdivn]); exact rfl
      apply VC.regt ΦP7_ok [0, 1, 7, 10, 11]; intro K' hK; dsimp only [List.take, List.drop, List.map, strip, stripG]; simp -implicitDefEqProofs only [go_sem, Nat.reduceLT, Nat.reduceAdd, Nat.reduceEqDiff, reduceIte, Nat.reduceMul, Nat.reduceSub, reduceCtorEq, Int.reduceNe, Int.reduceEq, ne_eq, Nat.reduceLeDiff, Nat.reduceMod, Nat.reduceDiv, hx, hy, Bool.false_eq_true]
      (repeat' first | (refine hK _ ?_; clear hK K') | ((first | with_reducible refine runA_id ?_ | with_reducible refine goA_id ?_); simp -implicitDefEqProofs (disch := omega) only [i64_in]; simp -implicitDefEqProofs only [go_sem, Nat.reduceLT, Nat.reduceAdd, Nat.reduceEqDiff, reduceIte, Nat.reduceMul, Nat.reduceSub, reduceCtorEq, Int.reduceNe, Int.reduceEq, ne_eq, Nat.reduceLeDiff, Nat.reduceMod, Nat.reduceDiv, hx, hy, Bool.false_eq_true]) | with_reducible apply And.intro | (simp -implicitDefEqProofs (disch := omega) only [i64_in, List.length_cons, List.length_nil, Nat.reduceAdd]; done) | omega | decide | fail)
      all_goals
        apply VC.at
        · simp -implicitDefEqProofs only [go_sem, Nat.reduceLT, Nat.reduceAdd, Nat.reduceEqDiff, reduceIte, Nat.reduceMul, Nat.reduceSub, reduceCtorEq, Int.reduceNe, Int.reduceEq, ne_eq, Nat.reduceLeDiff, Nat.reduceMod, Nat.reduceDiv, hx, hy, Bool.false_eq_true]; (try simp (disch := omega) only [i64_in, tmodn, tdivn]); exact rfl
        apply VC.regt ΦP7_ok [0, 1, 10, 11, 12, 13]; intro K' hK; dsimp only [List.take, List.drop, List.map, strip, stripG]; simp -implicitDefEqProofs only [go_sem, Nat.reduceLT, Nat.reduceAdd, Nat.reduceEqDiff, reduceIte, Nat.reduceMul, Nat.reduceSub, reduceCtorEq, Int.reduceNe, Int.reduceEq, ne_eq, Nat.reduceLeDiff, Nat.reduceMod, Nat.reduceDiv, hx, hy, Bool.false_eq_true]
        (repeat' first | (refine hK _ ?_; clear hK K') | ((first | with_reducible refine runA_id ?_ | with_reducible refine goA_id ?_); simp -implicitDefEqProofs (disch := omega) only [i64_in]; simp -implicitDefEqProofs only [go_sem, Nat.reduceLT, Nat.reduceAdd, Nat.reduceEqDiff, reduceIte, Nat.reduceMul, Nat.reduceSub, reduceCtorEq, Int.reduceNe, Int.reduceEq, ne_eq, Nat.reduceLeDiff, Nat.reduceMod, Nat.reduceDiv, hx, hy, Bool.false_eq_true]) | with_reducible apply And.intro | (simp -implicitDefEqProofs (disch := omega) only [i64_in, List.length_cons, List.length_nil, Nat.reduceAdd]; done) | omega | decide | fail)
        all_goals
          apply VC.at
          · simp -implicitDefEqProofs only [go_sem, Nat.reduceLT, Nat.reduceAdd, Nat.reduceEqDiff, reduceIte, Nat.reduceMul, Nat.reduceSub, reduceCtorEq, Int.reduceNe, Int.reduceEq, ne_eq, Nat.reduceLeDiff, Nat.reduceMod, Nat.reduceDiv, hx, hy, Bool.false_eq_true]; (try simp (disch := omega) only [i64_in, tmodn, tdivn]); exact rfl
          apply VC.seq
          apply VC.regt ΦP7_ok [0, 1, 10, 12, 42]; intro K' hK; dsimp only [List.take, List.drop, List.map, strip, stripG]; simp only [gtmp, List.getElem?_toArray, List.getElem?_cons_succ, List.getElem?_cons_zero, Option.bind_some]; simp -implicitDefEqProofs only [go_sem, Nat.reduceLT, Nat.reduceAdd, Nat.reduceEqDiff, reduceIte, Nat.reduceMul, Nat.reduceSub, reduceCtorEq, Int.reduceNe, Int.reduceEq, ne_eq, Nat.reduceLeDiff, Nat.reduceMod, Nat.reduceDiv, hx, hy, Bool.false_eq_true]
          (repeat' first | (refine hK _ ?_; clear hK K') | (first | apply goB_splitD | apply goA_splitD | apply goB_split | apply goA_split | apply goA_all) <;> intro _ <;> simp -implicitDefEqProofs only [go_sem, Nat.reduceLT, Nat.reduceAdd, Nat.reduceEqDiff, reduceIte, Nat.reduceMul, Nat.reduceSub, reduceCtorEq, Int.reduceNe, Int.reduceEq, ne_eq, Nat.reduceLeDiff, Nat.reduceMod, Nat.reduceDiv, hx, hy, Bool.false_eq_true] | with_reducible apply And.intro | (simp -implicitDefEqProofs (disch := omega) only [i64_in, List.length_cons, List.length_nil, Nat.reduceAdd]; done) | omega | decide | fail)
          all_goals
            apply VC.at
            · simp -implicitDefEqProofs only [go_sem, Nat.reduceLT, Nat.reduceAdd, Nat.reduceEqDiff, reduceIte, Nat.reduceMul, Nat.reduceSub, reduceCtorEq, Int.reduceNe, Int.reduceEq, ne_eq, Nat.reduceLeDiff, Nat.reduceMod, Nat.reduceDiv, hx, hy, Bool.false_eq_true]; (try simp (disch := omega) only [i64_in, tmodn, tdivn]); exact rfl
            first | (apply VC.condd; (focus (simp -implicitDefEqProofs only [go_sem, Nat.reduceLT, Nat.reduceAdd, Nat.reduceEqDiff, reduceIte, Nat.reduceMul, Nat.reduceSub, reduceCtorEq, Int.reduceNe, Int.reduceEq, ne_eq, Nat.reduceLeDiff, Nat.reduceMod, Nat.reduceDiv, hx, hy, Bool.false_eq_true]; with_reducible exact rfl))) | (apply VC.condn; (focus (simp -implicitDefEqProofs only [go_sem, Nat.reduceLT, Nat.reduceAdd, Nat.reduceEqDiff, reduceIte, Nat.reduceMul, Nat.reduceSub, reduceCtorEq, Int.reduceNe, Int.reduceEq, ne_eq, Nat.reduceLeDiff, Nat.reduceMod, Nat.reduceDiv, hx, hy, Bool.false_eq_true]; with_reducible exact rfl))) | (apply VC.condt; (focus (simp -implicitDefEqProofs only [go_sem, Nat.reduceLT, Nat.reduceAdd, Nat.reduceEqDiff, reduceIte, Nat.reduceMul, Nat.reduceSub, reduceCtorEq, Int.reduceNe, Int.reduceEq, ne_eq, Nat.reduceLeDiff, Nat.reduceMod, Nat.reduceDiv, hx, hy, Bool.false_eq_true]; with_reducible exact rfl))) | (apply VC.condb; (focus (simp -implicitDefEqProofs only [go_sem, Nat.reduceLT, Nat.reduceAdd, Nat.reduceEqDiff, reduceIte, Nat.reduceMul, Nat.reduceSub, reduceCtorEq, Int.reduceNe, Int.reduceEq, ne_eq, Nat.reduceLeDiff, Nat.reduceMod, Nat.reduceDiv, hx, hy, Bool.false_eq_true]; exact rfl)))
            · intro h; try exact absurd h (by decide)
              all_goals
                apply VC.regt ΦP7_ok [8, 9]; intro K' hK; dsimp only [List.take, List.drop, List.map, strip, stripG]; simp -implicitDefEqProofs only [go_sem, Nat.reduceLT, Nat.reduceAdd, Nat.reduceEqDiff, reduceIte, Nat.reduceMul, Nat.reduceSub, reduceCtorEq, Int.reduceNe, Int.reduceEq, ne_eq, Nat.reduceLeDiff, Nat.reduceMod, Nat.reduceDiv, hx, hy, Bool.false_eq_true]
                (repeat' first | (refine hK _ ?_; clear hK K') | with_reducible apply And.intro | (simp -implicitDefEqProofs (disch := omega) only [i64_in, List.length_cons, List.length_nil, Nat.reduceAdd]; done) | omega | decide | fail)
                all_goals
                  apply VC.at
                  · simp -implicitDefEqProofs only [go_sem, Nat.reduceLT, Nat.reduceAdd, Nat.reduceEqDiff, reduceIte, Nat.reduceMul, Nat.reduceSub, reduceCtorEq, Int.reduceNe, Int.reduceEq, ne_eq, Nat.reduceLeDiff, Nat.reduceMod, Nat.reduceDiv, hx, hy, Bool.false_eq_true]; (try simp (disch := omega) only [i64_in, tmodn, tdivn]); exact rfl
                  apply VC.ret
                  refine thenK_r ?_
                  simp -implicitDefEqProofs only [go_sem, Nat.reduceLT, Nat.reduceAdd, Nat.reduceEqDiff, reduceIte, Nat.reduceMul, Nat.reduceSub, reduceCtorEq, Int.reduceNe, Int.reduceEq, ne_eq, Nat.reduceLeDiff, Nat.reduceMod, Nat.reduceDiv, hx, hy, Bool.false_eq_true]
                  all_goals (first | (rw [ord_no (by first | omega | simp_all; done)]; rfl) | (rw [ord_no (.inr (.inr (.inr (.inr (.inl hx)))))]; rfl) | (rw [ord_no (.inr (.inr (.inr (.inr (.inr hy)))))]; rfl) | (rw [ord_yes (by omega) hx hy]; unfold ordN; simp (disch := omega) only [if_pos, if_neg, reduceIte]; done))
            · intro h; try exact absurd h (by decide)
              all_goals
                apply VC.skip
                refine thenK_n ?_
                apply VC.seq
                apply VC.regt ΦP7_ok [10, 12, 14]; intro K' hK; dsimp only [List.take, List.drop, List.map, strip, stripG]; simp -implicitDefEqProofs only [go_sem, Nat.reduceLT, Nat.reduceAdd, Nat.reduceEqDiff, reduceIte, Nat.reduceMul, Nat.reduceSub, reduceCtorEq, Int.reduceNe, Int.reduceEq, ne_eq, Nat.reduceLeDiff, Nat.reduceMod, Nat.reduceDiv, hx, hy, Bool.false_eq_true]
                (repeat' first | (refine hK _ ?_; clear hK K') | with_reducible apply And.intro | (simp -implicitDefEqProofs (disch := omega) only [i64_in, List.length_cons, List.length_nil, Nat.reduceAdd]; done) | omega | decide | fail)
                all_goals
                  apply VC.at
                  · simp -implicitDefEqProofs only [go_sem, Nat.reduceLT, Nat.reduceAdd, Nat.reduceEqDiff, reduceIte, Nat.reduceMul, Nat.reduceSub, reduceCtorEq, Int.reduceNe, Int.reduceEq, ne_eq, Nat.reduceLeDiff, Nat.reduceMod, Nat.reduceDiv, hx, hy, Bool.false_eq_true]; (try simp (disch := omega) only [i64_in, tmodn, tdivn]); exact rfl
                  apply VC.block
                  apply VC.regt ΦP7_ok [10, 12, 14, 47]; intro K' hK; dsimp only [List.take, List.drop, List.map, strip, stripG]; simp -implicitDefEqProofs only [go_sem, Nat.reduceLT, Nat.reduceAdd, Nat.reduceEqDiff, reduceIte, Nat.reduceMul, Nat.reduceSub, reduceCtorEq, Int.reduceNe, Int.reduceEq, ne_eq, Nat.reduceLeDiff, Nat.reduceMod, Nat.reduceDiv, hx, hy, Bool.false_eq_true]
                  (repeat' first | (refine hK _ ?_; clear hK K') | with_reducible apply And.intro | (simp -implicitDefEqProofs (disch := omega) only [i64_in, List.length_cons, List.length_nil, Nat.reduceAdd]; done) | omega | decide | fail)
                  all_goals
                    apply VC.at
                    · simp -implicitDefEqProofs only [go_sem, Nat.reduceLT, Nat.reduceAdd, Nat.reduceEqDiff, reduceIte, Nat.reduceMul, Nat.reduceSub, reduceCtorEq, Int.reduceNe, Int.reduceEq, ne_eq, Nat.reduceLeDiff, Nat.reduceMod, Nat.reduceDiv, hx, hy, Bool.false_eq_true]; (try simp (disch := omega) only [i64_in, tmodn, tdivn]); exact rfl
                    first | (apply VC.condd; (focus (simp -implicitDefEqProofs only [go_sem, Nat.reduceLT, Nat.reduceAdd, Nat.reduceEqDiff, reduceIte, Nat.reduceMul, Nat.reduceSub, reduceCtorEq, Int.reduceNe, Int.reduceEq, ne_eq, Nat.reduceLeDiff, Nat.reduceMod, Nat.reduceDiv, hx, hy, Bool.false_eq_true]; with_reducible exact rfl))) | (apply VC.condn; (focus (simp -implicitDefEqProofs only [go_sem, Nat.reduceLT, Nat.reduceAdd, Nat.reduceEqDiff, reduceIte, Nat.reduceMul, Nat.reduceSub, reduceCtorEq, Int.reduceNe, Int.reduceEq, ne_eq, Nat.reduceLeDiff, Nat.reduceMod, Nat.reduceDiv, hx, hy, Bool.false_eq_true]; with_reducible exact rfl))) | (apply VC.condt; (focus (simp -implicitDefEqProofs only [go_sem, Nat.reduceLT, Nat.reduceAdd, Nat.reduceEqDiff, reduceIte, Nat.reduceMul, Nat.reduceSub, reduceCtorEq, Int.reduceNe, Int.reduceEq, ne_eq, Nat.reduceLeDiff, Nat.reduceMod, Nat.reduceDiv, hx, hy, Bool.false_eq_true]; with_reducible exact rfl))) | (apply VC.condb; (focus (simp -implicitDefEqProofs only [go_sem, Nat.reduceLT, Nat.reduceAdd, Nat.reduceEqDiff, reduceIte, Nat.reduceMul, Nat.reduceSub, reduceCtorEq, Int.reduceNe, Int.reduceEq, ne_eq, Nat.reduceLeDiff, Nat.reduceMod, Nat.reduceDiv, hx, hy, Bool.false_eq_true]; exact rfl)))
                    · intro h; try exact absurd h (by decide)
                      all_goals
                        apply VC.regt ΦP7_ok [8, 9]; intro K' hK; dsimp only [List.take, List.drop, List.map, strip, stripG]; simp -implicitDefEqProofs only [go_sem, Nat.reduceLT, Nat.reduceAdd, Nat.reduceEqDiff, reduceIte, Nat.reduceMul, Nat.reduceSub, reduceCtorEq, Int.reduceNe, Int.reduceEq, ne_eq, Nat.reduceLeDiff, Nat.reduceMod, Nat.reduceDiv, hx, hy, Bool.false_eq_true]
                        (repeat' first | (refine hK _ ?_; clear hK K') | with_reducible apply And.intro | (simp -implicitDefEqProofs (disch := omega) only [i64_in, List.length_cons, List.length_nil, Nat.reduceAdd]; done) | omega | decide | fail)
                        all_goals
                          apply VC.at
                          · simp -implicitDefEqProofs only [go_sem, Nat.reduceLT, Nat.reduceAdd, Nat.reduceEqDiff, reduceIte, Nat.reduceMul, Nat.reduceSub, reduceCtorEq, Int.reduceNe, Int.reduceEq, ne_eq, Nat.reduceLeDiff, Nat.reduceMod, Nat.reduceDiv, hx, hy, Bool.false_eq_true]; (try simp (disch := omega) only [i64_in, tmodn, tdivn]); exact rfl
                          apply VC.ret
                          refine blockK_r ?_
                          refine thenK_r ?_
                          simp -implicitDefEqProofs only [go_sem, Nat.reduceLT, Nat.reduceAdd, Nat.reduceEqDiff, reduceIte, Nat.reduceMul, Nat.reduceSub, reduceCtorEq, Int.reduceNe, Int.reduceEq, ne_eq, Nat.reduceLeDiff, Nat.reduceMod, Nat.reduceDiv, hx, hy, Bool.false_eq_true]
                          all_goals (first | (rw [ord_no (by first | omega | simp_all; done)]; rfl) | (rw [ord_no (.inr (.inr (.inr (.inr (.inl hx)))))]; rfl) | (rw [ord_no (.inr (.inr (.inr (.inr (.inr hy)))))]; rfl) | (rw [ord_yes (by omega) hx hy]; unfold ordN; simp (disch := omega) only [if_pos, if_neg, reduceIte]; done))
                    · intro h; try exact absurd h (by decide)
                      all_goals
                        apply VC.regt ΦP7_ok [53]; intro K' hK; dsimp only [List.take, List.drop, List.map, strip, stripG]; simp -implicitDefEqProofs only [go_sem, Nat.reduceLT, Nat.reduceAdd, Nat.reduceEqDiff, reduceIte, Nat.reduceMul, Nat.reduceSub, reduceCtorEq, Int.reduceNe, Int.reduceEq, ne_eq, Nat.reduceLeDiff, Nat.reduceMod, Nat.reduceDiv, hx, hy, Bool.false_eq_true]
                        (repeat' first | (refine hK _ ?_; clear hK K') | with_reducible apply And.intro | (simp -implicitDefEqProofs (disch := omega) only [i64_in, List.length_cons, List.length_nil, Nat.reduceAdd]; done) | omega | decide | fail)
                        all_goals
                          apply VC.at
                          · simp -implicitDefEqProofs only [go_sem, Nat.reduceLT, Nat.reduceAdd, Nat.reduceEqDiff, reduceIte, Nat.reduceMul, Nat.reduceSub, reduceCtorEq, Int.reduceNe, Int.reduceEq, ne_eq, Nat.reduceLeDiff, Nat.reduceMod, Nat.reduceDiv, hx, hy, Bool.false_eq_true]; (try simp (disch := omega) only [i64_in, tmodn, tdivn]); exact rfl
                          first | (apply VC.condd; (focus (simp -implicitDefEqProofs only [go_sem, Nat.reduceLT, Nat.reduceAdd, Nat.reduceEqDiff, reduceIte, Nat.reduceMul, Nat.reduceSub, reduceCtorEq, Int.reduceNe, Int.reduceEq, ne_eq, Nat.reduceLeDiff, Nat.reduceMod, Nat.reduceDiv, hx, hy, Bool.false_eq_true]; with_reducible exact rfl))) | (apply VC.condn; (focus (simp -implicitDefEqProofs only [go_sem, Nat.reduceLT, Nat.reduceAdd, Nat.reduceEqDiff, reduceIte, Nat.reduceMul, Nat.reduceSub, reduceCtorEq, Int.reduceNe, Int.reduceEq, ne_eq, Nat.reduceLeDiff, Nat.reduceMod, Nat.reduceDiv, hx, hy, Bool.false_eq_true]; with_reducible exact rfl))) | (apply VC.condt; (focus (simp -implicitDefEqProofs only [go_sem, Nat.reduceLT, Nat.reduceAdd, Nat.reduceEqDiff, reduceIte, Nat.reduceMul, Nat.reduceSub, reduceCtorEq, Int.reduceNe, Int.reduceEq, ne_eq, Nat.reduceLeDiff, Nat.reduceMod, Nat.reduceDiv, hx, hy, Bool.false_eq_true]; with_reducible exact rfl))) | (apply VC.condb; (focus (simp -implicitDefEqProofs only [go_sem, Nat.reduceLT, Nat.reduceAdd, Nat.reduceEqDiff, reduceIte, Nat.reduceMul, Nat.reduceSub, reduceCtorEq, Int.reduceNe, Int.reduceEq, ne_eq, Nat.reduceLeDiff, Nat.reduceMod, Nat.reduceDiv, hx, hy, Bool.false_eq_true]; exact rfl)))
                          · intro h; try exact absurd h (by decide)
                            all_goals
                              apply VC.regt ΦP7_ok [8, 9]; intro K' hK; dsimp only [List.take, List.drop, List.map, strip, stripG]; simp -implicitDefEqProofs only [go_sem, Nat.reduceLT, Nat.reduceAdd, Nat.reduceEqDiff, reduceIte, Nat.reduceMul, Nat.reduceSub, reduceCtorEq, Int.reduceNe, Int.reduceEq, ne_eq, Nat.reduceLeDiff, Nat.reduceMod, Nat.reduceDiv, hx, hy, Bool.false_eq_true]
                              (repeat' first | (refine hK _ ?_; clear hK K') | with_reducible apply And.intro | (simp -implicitDefEqProofs (disch := omega) only [i64_in, List.length_cons, List.length_nil, Nat.reduceAdd]; done) | omega | decide | fail)
                              all_goals
                                apply VC.at
                                · simp -implicitDefEqProofs only [go_sem, Nat.reduceLT, Nat.reduceAdd, Nat.reduceEqDiff, reduceIte, Nat.reduceMul, Nat.reduceSub, reduceCtorEq, Int.reduceNe, Int.reduceEq, ne_eq, Nat.reduceLeDiff, Nat.reduceMod, Nat.reduceDiv, hx, hy, Bool.false_eq_true]; (try simp (disch := omega) only [i64_in, tmodn, tdivn]); exact rfl
                                apply VC.ret
                                refine blockK_r ?_
                                refine thenK_r ?_
                                simp -implicitDefEqProofs only [go_sem, Nat.reduceLT, Nat.reduceAdd, Nat.reduceEqDiff, reduceIte, Nat.reduceMul, Nat.reduceSub, reduceCtorEq, Int.reduceNe, Int.reduceEq, ne_eq, Nat.reduceLeDiff, Nat.reduceMod, Nat.reduceDiv, hx, hy, Bool.false_eq_true]
                                all_goals (first | (rw [ord_no (by first | omega | simp_all; done)]; rfl) | (rw [ord_no (.inr (.inr (.inr (.inr (.inl hx)))))]; rfl) | (rw [ord_no (.inr (.inr (.inr (.inr (.inr hy)))))]; rfl) | (rw [ord_yes (by omega) hx hy]; unfold ordN; simp (disch := omega) only [if_pos, if_neg, reduceIte]; done))
                          · intro h; try exact absurd h (by decide)
                            all_goals
                              apply VC.skip
                              refine blockK_n ?_
                              refine thenK_n ?_
                              apply VC.regt ΦP7_ok [8, 9]; intro K' hK; dsimp only [List.take, List.drop, List.map, strip, stripG]; simp -implicitDefEqProofs only [go_sem, Nat.reduceLT, Nat.reduceAdd, Nat.reduceEqDiff, reduceIte, Nat.reduceMul, Nat.reduceSub, reduceCtorEq, Int.reduceNe, Int.reduceEq, ne_eq, Nat.reduceLeDiff, Nat.reduceMod, Nat.reduceDiv, hx, hy, Bool.false_eq_true]
                              (repeat' first | (refine hK _ ?_; clear hK K') | with_reducible apply And.intro | (simp -implicitDefEqProofs (disch := omega) only [i64_in, List.length_cons, List.length_nil, Nat.reduceAdd]; done) | omega | decide | fail)
                              all_goals
                                apply VC.at
                                · simp -implicitDefEqProofs only [go_sem, Nat.reduceLT, Nat.reduceAdd, Nat.reduceEqDiff, reduceIte, Nat.reduceMul, Nat.reduceSub, reduceCtorEq, Int.reduceNe, Int.reduceEq, ne_eq, Nat.reduceLeDiff, Nat.reduceMod, Nat.reduceDiv, hx, hy, Bool.false_eq_true]; (try simp (disch := omega) only [i64_in, tmodn, tdivn]); exact rfl
                                apply VC.ret
                                simp -implicitDefEqProofs only [go_sem, Nat.reduceLT, Nat.reduceAdd, Nat.reduceEqDiff, reduceIte, Nat.reduceMul, Nat.reduceSub, reduceCtorEq, Int.reduceNe, Int.reduceEq, ne_eq, Nat.reduceLeDiff, Nat.reduceMod, Nat.reduceDiv, hx, hy, Bool.false_eq_true]
                                all_goals (first | (rw [ord_no (by first | omega | simp_all; done)]; rfl) | (rw [ord_no (.inr (.inr (.inr (.inr (.inl hx)))))]; rfl) | (rw [ord_no (.inr (.inr (.inr (.inr (.inr hy)))))]; rfl) | (rw [ord_yes (by omega) hx hy]; unfold ordN; simp (disch := omega) only [if_pos, if_neg, reduceIte]; done))
end Go.Proofs.YtfbodageccednaaDoor.Oa

