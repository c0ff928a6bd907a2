/- What the law OidBack computes. No condition. -/
import Derived.Test.YtgfadocohpinmaaDoorOaD
import Derived.Test.YtgfadocohpinmaaDoorOaF
import Derived.Test.YtgfadocohpinmaaDoorOaG
set_option linter.unusedVariables false
set_option linter.unusedSimpArgs false
namespace Go.Proofs.YtgfadocohpinmaaDoor.Oa
open Go Go.RowKit Go.Proofs.YtgfadocohpinmaaDoor.Vm Go.IntWalk
set_option maxRecDepth 100000
set_option maxHeartbeats 4000000
noncomputable def ΦB : Fns := tab [(15, aliveF), (8, textF), (10, parseF), (16, bytesF), (17, readF), (13, sameF), (14, checkF)]
theorem ΦB_ok : Sound E ΦB := sound_cons (by kernel_rfl) alive_ok (sound_cons (by kernel_rfl) text_ok (sound_cons (by kernel_rfl) parse_ok (sound_cons (by kernel_rfl) bytes_ok (sound_cons (by kernel_rfl) read_ok (sound_cons (by kernel_rfl) same_ok (sound_cons (by kernel_rfl) check_ok (sound_nil)))))))
@[go_sem] theorem ΦB_15 : ΦB 15 = some aliveF := rfl
@[go_sem] theorem ΦB_8 : ΦB 8 = some textF := rfl
@[go_sem] theorem ΦB_10 : ΦB 10 = some parseF := rfl
@[go_sem] theorem ΦB_16 : ΦB 16 = some bytesF := rfl
@[go_sem] theorem ΦB_17 : ΦB 17 = some readF := rfl
@[go_sem] theorem ΦB_13 : ΦB 13 = some sameF := rfl
@[go_sem] theorem ΦB_14 : ΦB 14 = some checkF := rfl
theorem pfacts (s : List UInt8) : parseP s = none ∨ ∃ m, parseP s = some m ∧ may m = true ∧ textS m = s := by
  cases h : parseP s with
  | none => exact .inl rfl
  | some m =>
    refine .inr ⟨m, rfl, parseP_may h, ?_⟩
    unfold parseP at h
    split at h
    · split at h
      · rename_i hm; injection h with h; subst h; exact hm.2
      · cases h
    · cases h
theorem rfacts (b : List UInt8) : readS b = none ∨ ∃ n, readS b = some n ∧ may n = true ∧ enc n = b := by
  cases h : readS b with
  | none => exact .inl rfl
  | some m => exact .inr ⟨m, rfl, readS_facts h⟩
theorem encO_may {l : List Nat} (h : may l = true) : encO l = enc l := if_pos h
theorem textS_len (l : List Nat) (h : l.length ≤ 20) : (textS l).length ≤ 100000 := Nat.le_trans (textN_len l l.length) (by omega)
theorem may_le {l : List Nat} (h : may l = true) : l.length ≤ 20 := (of_decide_eq_true h).2.1
theorem enc_le {l : List Nat} (h : may l = true) : (enc l).length ≤ 100000 := by
  have h1 := encN_len l (l.length - 1); have h2 := may_le h
  unfold enc; omega
def backA (x : List Nat × List UInt8 × List UInt8) : List Vm.Data := let (l, s, b) := x; [.lst (numsD l), .str s, .lst (bytesD b)]
noncomputable def backF : PFn := PFn.of backA (fun (l, s, b) => True) (fun (l, s, b) => [.bool true])
theorem back_inj (x y : List Nat × List UInt8 × List UInt8) (h : backA x = backA y) : x = y := by
  simpa [backA, Prod.ext_iff, numsD_inj, bytesD_inj, Vm.Data.lst.injEq, Int.natCast_inj] using h
@[go_sem] theorem back_pre (l : List Nat) (s : List UInt8) (b : List UInt8) : backF.pre [.lst (numsD l), .str s, .lst (bytesD b)] = (True) := PFn.of_pre back_inj (l, s, b)
@[go_sem] theorem back_res (l : List Nat) (s : List UInt8) (b : List UInt8) : backF.res [.lst (numsD l), .str s, .lst (bytesD b)] = [.bool true] := PFn.of_res back_inj (l, s, b)
theorem back_ok : Pure E 4 backF := by
  apply Pure.of_body (rs := [.tmp 6]) (n := 141) Tryd.func4 rfl rfl rfl
  intro ds hds
  obtain ⟨⟨l, s, b⟩, rfl, hds⟩ := hds
  (try dsimp only at hds)
  rw [show backF.res (backA (l, s, b)) = [.bool true] from back_res l s b]
  skip
  refine ⟨Nat.le_of_ble_eq_true rfl, ?_⟩
  show VC E none _ (pureSt 141 [.lst (numsD l), .str s, .lst (bytesD b)]) _
  apply VC.regt ΦB_ok [0, 1, 2]; intro K' hK; dsimp only [List.take, List.drop, List.map, strip, stripG]; simp -implicitDefEqProofs only [go_sem, Nat.reduceLT, Nat.reduceAdd, Nat.reduceEqDiff, reduceIte, Nat.reduceMul, Nat.reduceSub, reduceCtorEq, Int.reduceNe, Int.reduceEq, ne_eq, Nat.reduceLeDiff, Nat.reduceMod, Nat.reduceDiv]
  (repeat' first | (refine hK _ ?_; clear hK K') | with_reducible apply And.intro | (simp -implicitDefEqProofs (disch := omega) only [i64_in, List.length_cons, List.length_nil, Nat.reduceAdd]; done) | omega | exact Nat.le_trans (parseP_len _) (by decide) | exact Nat.le_trans (readS_len _) (by decide))
  all_goals
    apply VC.at
    · simp -implicitDefEqProofs only [go_sem, Nat.reduceLT, Nat.reduceAdd, Nat.reduceEqDiff, reduceIte, Nat.reduceMul, Nat.reduceSub, reduceCtorEq, Int.reduceNe, Int.reduceEq, ne_eq, Nat.reduceLeDiff, Nat.reduceMod, Nat.reduceDiv]; (try simp (disch := omega) only [i64_in, tmodn, tdivn]); exact rfl
    apply VC.regt ΦB_ok [0, 1, 2, 7]; intro K' hK; dsimp only [List.take, List.drop, List.map, strip, stripG]; simp -implicitDefEqProofs only [go_sem, Nat.reduceLT, Nat.reduceAdd, Nat.reduceEqDiff, reduceIte, Nat.reduceMul, Nat.reduceSub, reduceCtorEq, Int.reduceNe, Int.reduceEq, ne_eq, Nat.reduceLeDiff, Nat.reduceMod, Nat.reduceDiv]
    (repeat' first | (refine hK _ ?_; clear hK K') | ((first | with_reducible refine runA_id ?_ | with_reducible refine goA_id ?_); simp -implicitDefEqProofs (disch := omega) only [i64_in]; simp -implicitDefEqProofs only [go_sem, Nat.reduceLT, Nat.reduceAdd, Nat.reduceEqDiff, reduceIte, Nat.reduceMul, Nat.reduceSub, reduceCtorEq, Int.reduceNe, Int.reduceEq, ne_eq, Nat.reduceLeDiff, Nat.reduceMod, Nat.reduceDiv]) | with_reducible apply And.intro | (simp -implicitDefEqProofs (disch := omega) only [i64_in, List.length_cons, List.length_nil, Nat.reduceAdd]; done) | omega | exact Nat.le_trans (parseP_len _) (by decide) | exact Nat.le_trans (readS_len _) (by decide))
    all_goals
      apply VC.at
      · simp -implicitDefEqProofs only [go_sem, Nat.reduceLT, Nat.reduceAdd, Nat.reduceEqDiff, reduceIte, Nat.reduceMul, Nat.reduceSub, reduceCtorEq, Int.reduceNe, Int.reduceEq, ne_eq, Nat.reduceLeDiff, Nat.reduceMod, Nat.reduceDiv]; (try simp (disch := omega) only [i64_in, tmodn, tdivn]); exact rfl
      apply VC.seq
      apply VC.regt ΦB_ok [0, 1, 2, 7, 41]; intro K' hK; dsimp only [List.take, List.drop, List.map, strip, stripG]; simp only [gtmp, List.getElem?_toArray, List.getElem?_cons_succ, List.getElem?_cons_zero, Option.bind_some]; simp -implicitDefEqProofs only [go_sem, Nat.reduceLT, Nat.reduceAdd, Nat.reduceEqDiff, reduceIte, Nat.reduceMul, Nat.reduceSub, reduceCtorEq, Int.reduceNe, Int.reduceEq, ne_eq, Nat.reduceLeDiff, Nat.reduceMod, Nat.reduceDiv]
      (repeat' first | (refine hK _ ?_; clear hK K') | (first | apply goB_splitD | apply goA_splitD | apply goB_split | apply goA_split | apply goA_all) <;> intro _ <;> simp -implicitDefEqProofs only [go_sem, Nat.reduceLT, Nat.reduceAdd, Nat.reduceEqDiff, reduceIte, Nat.reduceMul, Nat.reduceSub, reduceCtorEq, Int.reduceNe, Int.reduceEq, ne_eq, Nat.reduceLeDiff, Nat.reduceMod, Nat.reduceDiv] | with_reducible apply And.intro | (simp -implicitDefEqProofs (disch := omega) only [i64_in, List.length_cons, List.length_nil, Nat.reduceAdd]; done) | omega | exact Nat.le_trans (parseP_len _) (by decide) | exact Nat.le_trans (readS_len _) (by decide))
      all_goals
        apply VC.at
        · simp -implicitDefEqProofs only [go_sem, Nat.reduceLT, Nat.reduceAdd, Nat.reduceEqDiff, reduceIte, Nat.reduceMul, Nat.reduceSub, reduceCtorEq, Int.reduceNe, Int.reduceEq, ne_eq, Nat.reduceLeDiff, Nat.reduceMod, Nat.reduceDiv]; (try simp (disch := omega) only [i64_in, tmodn, tdivn]); exact rfl
        first | (apply VC.condd; (focus (simp -implicitDefEqProofs only [go_sem, Nat.reduceLT, Nat.reduceAdd, Nat.reduceEqDiff, reduceIte, Nat.reduceMul, Nat.reduceSub, reduceCtorEq, Int.reduceNe, Int.reduceEq, ne_eq, Nat.reduceLeDiff, Nat.reduceMod, Nat.reduceDiv]; with_reducible exact rfl))) | (apply VC.condn; (focus (simp -implicitDefEqProofs only [go_sem, Nat.reduceLT, Nat.reduceAdd, Nat.reduceEqDiff, reduceIte, Nat.reduceMul, Nat.reduceSub, reduceCtorEq, Int.reduceNe, Int.reduceEq, ne_eq, Nat.reduceLeDiff, Nat.reduceMod, Nat.reduceDiv]; with_reducible exact rfl))) | (apply VC.condt; (focus (simp -implicitDefEqProofs only [go_sem, Nat.reduceLT, Nat.reduceAdd, Nat.reduceEqDiff, reduceIte, Nat.reduceMul, Nat.reduceSub, reduceCtorEq, Int.reduceNe, Int.reduceEq, ne_eq, Nat.reduceLeDiff, Nat.reduceMod, Nat.reduceDiv]; with_reducible exact rfl))) | (apply VC.condb; (focus (simp -implicitDefEqProofs only [go_sem, Nat.reduceLT, Nat.reduceAdd, Nat.reduceEqDiff, reduceIte, Nat.reduceMul, Nat.reduceSub, reduceCtorEq, Int.reduceNe, Int.reduceEq, ne_eq, Nat.reduceLeDiff, Nat.reduceMod, Nat.reduceDiv]; exact rfl)))
        · intro h; try exact absurd h (by decide)
          all_goals
            apply VC.regt ΦB_ok [6]; intro K' hK; dsimp only [List.take, List.drop, List.map, strip, stripG]; simp -implicitDefEqProofs only [go_sem, Nat.reduceLT, Nat.reduceAdd, Nat.reduceEqDiff, reduceIte, Nat.reduceMul, Nat.reduceSub, reduceCtorEq, Int.reduceNe, Int.reduceEq, ne_eq, Nat.reduceLeDiff, Nat.reduceMod, Nat.reduceDiv]
            (repeat' first | (refine hK _ ?_; clear hK K') | with_reducible apply And.intro | (simp -implicitDefEqProofs (disch := omega) only [i64_in, List.length_cons, List.length_nil, Nat.reduceAdd]; done) | omega | exact Nat.le_trans (parseP_len _) (by decide) | exact Nat.le_trans (readS_len _) (by decide))
            all_goals
              apply VC.at
              · simp -implicitDefEqProofs only [go_sem, Nat.reduceLT, Nat.reduceAdd, Nat.reduceEqDiff, reduceIte, Nat.reduceMul, Nat.reduceSub, reduceCtorEq, Int.reduceNe, Int.reduceEq, ne_eq, Nat.reduceLeDiff, Nat.reduceMod, Nat.reduceDiv]; (try simp (disch := omega) only [i64_in, tmodn, tdivn]); exact rfl
              apply VC.ret
              refine thenK_r ?_
              simp -implicitDefEqProofs only [go_sem, Nat.reduceLT, Nat.reduceAdd, Nat.reduceEqDiff, reduceIte, Nat.reduceMul, Nat.reduceSub, reduceCtorEq, Int.reduceNe, Int.reduceEq, ne_eq, Nat.reduceLeDiff, Nat.reduceMod, Nat.reduceDiv]
              all_goals (first | trivial | rfl | (exfalso; rcases pfacts s with hp | ⟨m, hp, h1, h2⟩ <;> rcases rfacts b with hr | ⟨n, hr, h3, h4⟩ <;> simp_all [encO]; done) | (rcases rfacts b with hr | ⟨n, hr, h3, h4⟩ <;> simp_all [encO]; done))
        · intro h; try exact absurd h (by decide)
          all_goals
            apply VC.skip
            refine thenK_n ?_
            apply VC.seq
            apply VC.regt ΦB_ok [0, 1, 2, 7, 45]; intro K' hK; dsimp only [List.take, List.drop, List.map, strip, stripG]; simp -implicitDefEqProofs only [go_sem, Nat.reduceLT, Nat.reduceAdd, Nat.reduceEqDiff, reduceIte, Nat.reduceMul, Nat.reduceSub, reduceCtorEq, Int.reduceNe, Int.reduceEq, ne_eq, Nat.reduceLeDiff, Nat.reduceMod, Nat.reduceDiv]
            (repeat' first | (refine hK _ ?_; clear hK K') | ((first | with_reducible refine runA_id ?_ | with_reducible refine goA_id ?_); simp -implicitDefEqProofs (disch := omega) only [i64_in]; simp -implicitDefEqProofs only [go_sem, Nat.reduceLT, Nat.reduceAdd, Nat.reduceEqDiff, reduceIte, Nat.reduceMul, Nat.reduceSub, reduceCtorEq, Int.reduceNe, Int.reduceEq, ne_eq, Nat.reduceLeDiff, Nat.reduceMod, Nat.reduceDiv]) | with_reducible apply And.intro | (simp -implicitDefEqProofs (disch := omega) only [i64_in, List.length_cons, List.length_nil, Nat.reduceAdd]; done) | omega | exact Nat.le_trans (parseP_len _) (by decide) | exact Nat.le_trans (readS_len _) (by decide))
            all_goals
              apply VC.at
              · simp -implicitDefEqProofs only [go_sem, Nat.reduceLT, Nat.reduceAdd, Nat.reduceEqDiff, reduceIte, Nat.reduceMul, Nat.reduceSub, reduceCtorEq, Int.reduceNe, Int.reduceEq, ne_eq, Nat.reduceLeDiff, Nat.reduceMod, Nat.reduceDiv]; (try simp (disch := omega) only [i64_in, tmodn, tdivn]); exact rfl
              first | (apply VC.condd; (focus (simp -implicitDefEqProofs only [go_sem, Nat.reduceLT, Nat.reduceAdd, Nat.reduceEqDiff, reduceIte, Nat.reduceMul, Nat.reduceSub, reduceCtorEq, Int.reduceNe, Int.reduceEq, ne_eq, Nat.reduceLeDiff, Nat.reduceMod, Nat.reduceDiv]; with_reducible exact rfl))) | (apply VC.condn; (focus (simp -implicitDefEqProofs only [go_sem, Nat.reduceLT, Nat.reduceAdd, Nat.reduceEqDiff, reduceIte, Nat.reduceMul, Nat.reduceSub, reduceCtorEq, Int.reduceNe, Int.reduceEq, ne_eq, Nat.reduceLeDiff, Nat.reduceMod, Nat.reduceDiv]; with_reducible exact rfl))) | (apply VC.condt; (focus (simp -implicitDefEqProofs only [go_sem, Nat.reduceLT, Nat.reduceAdd, Nat.reduceEqDiff, reduceIte, Nat.reduceMul, Nat.reduceSub, reduceCtorEq, Int.reduceNe, Int.reduceEq, ne_eq, Nat.reduceLeDiff, Nat.reduceMod, Nat.reduceDiv]; with_reducible exact rfl))) | (apply VC.condb; (focus (simp -implicitDefEqProofs only [go_sem, Nat.reduceLT, Nat.reduceAdd, Nat.reduceEqDiff, reduceIte, Nat.reduceMul, Nat.reduceSub, reduceCtorEq, Int.reduceNe, Int.reduceEq, ne_eq, Nat.reduceLeDiff, Nat.reduceMod, Nat.reduceDiv]; exact rfl)))
              · intro h; try exact absurd h (by decide)
                all_goals
                  have hm : may l = true := by cases e : may l <;> simp_all
                  apply VC.regt ΦB_ok [0, 1, 2, 7, 8, 9]; intro K' hK; dsimp only [List.take, List.drop, List.map, strip, stripG]; simp -implicitDefEqProofs only [go_sem, Nat.reduceLT, Nat.reduceAdd, Nat.reduceEqDiff, reduceIte, Nat.reduceMul, Nat.reduceSub, reduceCtorEq, Int.reduceNe, Int.reduceEq, ne_eq, Nat.reduceLeDiff, Nat.reduceMod, Nat.reduceDiv]
                  (repeat' first | (refine hK _ ?_; clear hK K') | ((first | with_reducible refine runA_id ?_ | with_reducible refine goA_id ?_); simp -implicitDefEqProofs (disch := omega) only [i64_in]; simp -implicitDefEqProofs only [go_sem, Nat.reduceLT, Nat.reduceAdd, Nat.reduceEqDiff, reduceIte, Nat.reduceMul, Nat.reduceSub, reduceCtorEq, Int.reduceNe, Int.reduceEq, ne_eq, Nat.reduceLeDiff, Nat.reduceMod, Nat.reduceDiv]) | with_reducible apply And.intro | (simp -implicitDefEqProofs (disch := omega) only [i64_in, List.length_cons, List.length_nil, Nat.reduceAdd]; done) | omega | exact Nat.le_trans (parseP_len _) (by decide) | exact Nat.le_trans (readS_len _) (by decide))
                  all_goals
                    apply VC.at
                    · simp -implicitDefEqProofs only [go_sem, Nat.reduceLT, Nat.reduceAdd, Nat.reduceEqDiff, reduceIte, Nat.reduceMul, Nat.reduceSub, reduceCtorEq, Int.reduceNe, Int.reduceEq, ne_eq, Nat.reduceLeDiff, Nat.reduceMod, Nat.reduceDiv]; (try simp (disch := omega) only [i64_in, tmodn, tdivn]); exact rfl
                    apply VC.regt ΦB_ok [0, 1, 2, 7, 8, 9, 10, 11]; intro K' hK; dsimp only [List.take, List.drop, List.map, strip, stripG]; simp -implicitDefEqProofs only [go_sem, Nat.reduceLT, Nat.reduceAdd, Nat.reduceEqDiff, reduceIte, Nat.reduceMul, Nat.reduceSub, reduceCtorEq, Int.reduceNe, Int.reduceEq, ne_eq, Nat.reduceLeDiff, Nat.reduceMod, Nat.reduceDiv]
                    (repeat' first | (refine hK _ ?_; clear hK K') | ((first | with_reducible refine runA_id ?_ | with_reducible refine goA_id ?_); simp -implicitDefEqProofs (disch := omega) only [i64_in]; simp -implicitDefEqProofs only [go_sem, Nat.reduceLT, Nat.reduceAdd, Nat.reduceEqDiff, reduceIte, Nat.reduceMul, Nat.reduceSub, reduceCtorEq, Int.reduceNe, Int.reduceEq, ne_eq, Nat.reduceLeDiff, Nat.reduceMod, Nat.reduceDiv]) | with_reducible apply And.intro | (simp -implicitDefEqProofs (disch := omega) only [i64_in, List.length_cons, List.length_nil, Nat.reduceAdd]; done) | omega | exact Nat.le_trans (parseP_len _) (by decide) | exact Nat.le_trans (readS_len _) (by decide))
                    all_goals
                      apply VC.at
                      · simp -implicitDefEqProofs only [go_sem, Nat.reduceLT, Nat.reduceAdd, Nat.reduceEqDiff, reduceIte, Nat.reduceMul, Nat.reduceSub, reduceCtorEq, Int.reduceNe, Int.reduceEq, ne_eq, Nat.reduceLeDiff, Nat.reduceMod, Nat.reduceDiv]; (try simp (disch := omega) only [i64_in, tmodn, tdivn]); exact rfl
                      simp only [hm, encO_may hm, if_true]
                      have htl := textS_len l (may_le hm); have hel := enc_le hm
                      apply VC.regt ΦB_ok [0, 1, 2, 7, 9, 10, 11, 12, 13]; intro K' hK; dsimp only [List.take, List.drop, List.map, strip, stripG]; simp -implicitDefEqProofs only [go_sem, Nat.reduceLT, Nat.reduceAdd, Nat.reduceEqDiff, reduceIte, Nat.reduceMul, Nat.reduceSub, reduceCtorEq, Int.reduceNe, Int.reduceEq, ne_eq, Nat.reduceLeDiff, Nat.reduceMod, Nat.reduceDiv]
                      (repeat' first | (refine hK _ ?_; clear hK K') | ((first | with_reducible refine runA_id ?_ | with_reducible refine goA_id ?_); simp -implicitDefEqProofs (disch := omega) only [i64_in]; simp -implicitDefEqProofs only [go_sem, Nat.reduceLT, Nat.reduceAdd, Nat.reduceEqDiff, reduceIte, Nat.reduceMul, Nat.reduceSub, reduceCtorEq, Int.reduceNe, Int.reduceEq, ne_eq, Nat.reduceLeDiff, Nat.reduceMod, Nat.reduceDiv]) | with_reducible apply And.intro | (simp -implicitDefEqProofs (disch := omega) only [i64_in, List.length_cons, List.length_nil, Nat.reduceAdd]; done) | omega | exact Nat.le_trans (parseP_len _) (by decide) | exact Nat.le_trans (readS_len _) (by decide))
                      all_goals
                        apply VC.at
                        · simp -implicitDefEqProofs only [go_sem, Nat.reduceLT, Nat.reduceAdd, Nat.reduceEqDiff, reduceIte, Nat.reduceMul, Nat.reduceSub, reduceCtorEq, Int.reduceNe, Int.reduceEq, ne_eq, Nat.reduceLeDiff, Nat.reduceMod, Nat.reduceDiv]; (try simp (disch := omega) only [i64_in, tmodn, tdivn]); exact rfl
                        apply VC.regt ΦB_ok [0, 1, 2, 7, 9, 11, 12, 13, 14, 15]; intro K' hK; dsimp only [List.take, List.drop, List.map, strip, stripG]; simp -implicitDefEqProofs only [go_sem, Nat.reduceLT, Nat.reduceAdd, Nat.reduceEqDiff, reduceIte, Nat.reduceMul, Nat.reduceSub, reduceCtorEq, Int.reduceNe, Int.reduceEq, ne_eq, Nat.reduceLeDiff, Nat.reduceMod, Nat.reduceDiv]
                        (repeat' first | (refine hK _ ?_; clear hK K') | ((first | with_reducible refine runA_id ?_ | with_reducible refine goA_id ?_); simp -implicitDefEqProofs (disch := omega) only [i64_in]; simp -implicitDefEqProofs only [go_sem, Nat.reduceLT, Nat.reduceAdd, Nat.reduceEqDiff, reduceIte, Nat.reduceMul, Nat.reduceSub, reduceCtorEq, Int.reduceNe, Int.reduceEq, ne_eq, Nat.reduceLeDiff, Nat.reduceMod, Nat.reduceDiv]) | with_reducible apply And.intro | (simp -implicitDefEqProofs (disch := omega) only [i64_in, List.length_cons, List.length_nil, Nat.reduceAdd]; done) | omega | exact Nat.le_trans (parseP_len _) (by decide) | exact Nat.le_trans (readS_len _) (by decide))
                        all_goals
                          apply VC.at
                          · simp -implicitDefEqProofs only [go_sem, Nat.reduceLT, Nat.reduceAdd, Nat.reduceEqDiff, reduceIte, Nat.reduceMul, Nat.reduceSub, reduceCtorEq, Int.reduceNe, Int.reduceEq, ne_eq, Nat.reduceLeDiff, Nat.reduceMod, Nat.reduceDiv]; (try simp (disch := omega) only [i64_in, tmodn, tdivn]); exact rfl
                          simp only [parseP_text hm, read_enc hm, Option.getD_some, Option.isSome_some, if_true]
                          apply VC.regt ΦB_ok [1, 2, 7, 91]; intro K' hK; dsimp only [List.take, List.drop, List.map, strip, stripG]; simp only [gtmp, List.getElem?_toArray, List.getElem?_cons_succ, List.getElem?_cons_zero, Option.bind_some]; simp -implicitDefEqProofs only [go_sem, Nat.reduceLT, Nat.reduceAdd, Nat.reduceEqDiff, reduceIte, Nat.reduceMul, Nat.reduceSub, reduceCtorEq, Int.reduceNe, Int.reduceEq, ne_eq, Nat.reduceLeDiff, Nat.reduceMod, Nat.reduceDiv]
                          (repeat' first | (refine hK _ ?_; clear hK K') | (first | apply goB_splitD | apply goA_splitD | apply goB_split | apply goA_split | apply goA_all) <;> intro _ <;> simp -implicitDefEqProofs only [go_sem, Nat.reduceLT, Nat.reduceAdd, Nat.reduceEqDiff, reduceIte, Nat.reduceMul, Nat.reduceSub, reduceCtorEq, Int.reduceNe, Int.reduceEq, ne_eq, Nat.reduceLeDiff, Nat.reduceMod, Nat.reduceDiv] | ((first | with_reducible refine runA_id ?_ | with_reducible refine goA_id ?_); simp -implicitDefEqProofs (disch := omega) only [i64_in]; simp -implicitDefEqProofs only [go_sem, Nat.reduceLT, Nat.reduceAdd, Nat.reduceEqDiff, reduceIte, Nat.reduceMul, Nat.reduceSub, reduceCtorEq, Int.reduceNe, Int.reduceEq, ne_eq, Nat.reduceLeDiff, Nat.reduceMod, Nat.reduceDiv]) | with_reducible apply And.intro | (simp -implicitDefEqProofs (disch := omega) only [i64_in, List.length_cons, List.length_nil, Nat.reduceAdd]; done) | omega | exact Nat.le_trans (parseP_len _) (by decide) | exact Nat.le_trans (readS_len _) (by decide))
                          all_goals
                            apply VC.at
                            · simp -implicitDefEqProofs only [go_sem, Nat.reduceLT, Nat.reduceAdd, Nat.reduceEqDiff, reduceIte, Nat.reduceMul, Nat.reduceSub, reduceCtorEq, Int.reduceNe, Int.reduceEq, ne_eq, Nat.reduceLeDiff, Nat.reduceMod, Nat.reduceDiv]; (try simp (disch := omega) only [i64_in, tmodn, tdivn]); exact rfl
                            first | (apply VC.condd; (focus (simp -implicitDefEqProofs only [go_sem, Nat.reduceLT, Nat.reduceAdd, Nat.reduceEqDiff, reduceIte, Nat.reduceMul, Nat.reduceSub, reduceCtorEq, Int.reduceNe, Int.reduceEq, ne_eq, Nat.reduceLeDiff, Nat.reduceMod, Nat.reduceDiv]; with_reducible exact rfl))) | (apply VC.condn; (focus (simp -implicitDefEqProofs only [go_sem, Nat.reduceLT, Nat.reduceAdd, Nat.reduceEqDiff, reduceIte, Nat.reduceMul, Nat.reduceSub, reduceCtorEq, Int.reduceNe, Int.reduceEq, ne_eq, Nat.reduceLeDiff, Nat.reduceMod, Nat.reduceDiv]; with_reducible exact rfl))) | (apply VC.condt; (focus (simp -implicitDefEqProofs only [go_sem, Nat.reduceLT, Nat.reduceAdd, Nat.reduceEqDiff, reduceIte, Nat.reduceMul, Nat.reduceSub, reduceCtorEq, Int.reduceNe, Int.reduceEq, ne_eq, Nat.reduceLeDiff, Nat.reduceMod, Nat.reduceDiv]; with_reducible exact rfl))) | (apply VC.condb; (focus (simp -implicitDefEqProofs only [go_sem, Nat.reduceLT, Nat.reduceAdd, Nat.reduceEqDiff, reduceIte, Nat.reduceMul, Nat.reduceSub, reduceCtorEq, Int.reduceNe, Int.reduceEq, ne_eq, Nat.reduceLeDiff, Nat.reduceMod, Nat.reduceDiv]; exact rfl)))
                            · intro h; try exact absurd h (by decide)
                              all_goals
                                apply VC.regt ΦB_ok [6]; intro K' hK; dsimp only [List.take, List.drop, List.map, strip, stripG]; simp -implicitDefEqProofs only [go_sem, Nat.reduceLT, Nat.reduceAdd, Nat.reduceEqDiff, reduceIte, Nat.reduceMul, Nat.reduceSub, reduceCtorEq, Int.reduceNe, Int.reduceEq, ne_eq, Nat.reduceLeDiff, Nat.reduceMod, Nat.reduceDiv]
                                (repeat' first | (refine hK _ ?_; clear hK K') | with_reducible apply And.intro | (simp -implicitDefEqProofs (disch := omega) only [i64_in, List.length_cons, List.length_nil, Nat.reduceAdd]; done) | omega | exact Nat.le_trans (parseP_len _) (by decide) | exact Nat.le_trans (readS_len _) (by decide))
                                all_goals
                                  apply VC.at
                                  · simp -implicitDefEqProofs only [go_sem, Nat.reduceLT, Nat.reduceAdd, Nat.reduceEqDiff, reduceIte, Nat.reduceMul, Nat.reduceSub, reduceCtorEq, Int.reduceNe, Int.reduceEq, ne_eq, Nat.reduceLeDiff, Nat.reduceMod, Nat.reduceDiv]; (try simp (disch := omega) only [i64_in, tmodn, tdivn]); exact rfl
                                  apply VC.ret
                                  refine thenK_r ?_
                                  simp -implicitDefEqProofs only [go_sem, Nat.reduceLT, Nat.reduceAdd, Nat.reduceEqDiff, reduceIte, Nat.reduceMul, Nat.reduceSub, reduceCtorEq, Int.reduceNe, Int.reduceEq, ne_eq, Nat.reduceLeDiff, Nat.reduceMod, Nat.reduceDiv]
                                  all_goals (first | trivial | rfl | (exfalso; rcases pfacts s with hp | ⟨m, hp, h1, h2⟩ <;> rcases rfacts b with hr | ⟨n, hr, h3, h4⟩ <;> simp_all [encO]; done) | (rcases rfacts b with hr | ⟨n, hr, h3, h4⟩ <;> simp_all [encO]; done))
                            · intro h; try exact absurd h (by decide)
                              all_goals
                                apply VC.skip
                                refine thenK_n ?_
                                apply VC.regt ΦB_ok [1, 2, 7, 16, 17]; intro K' hK; dsimp only [List.take, List.drop, List.map, strip, stripG]; simp -implicitDefEqProofs only [go_sem, Nat.reduceLT, Nat.reduceAdd, Nat.reduceEqDiff, reduceIte, Nat.reduceMul, Nat.reduceSub, reduceCtorEq, Int.reduceNe, Int.reduceEq, ne_eq, Nat.reduceLeDiff, Nat.reduceMod, Nat.reduceDiv]
                                (repeat' first | (refine hK _ ?_; clear hK K') | ((first | with_reducible refine runA_id ?_ | with_reducible refine goA_id ?_); simp -implicitDefEqProofs (disch := omega) only [i64_in]; simp -implicitDefEqProofs only [go_sem, Nat.reduceLT, Nat.reduceAdd, Nat.reduceEqDiff, reduceIte, Nat.reduceMul, Nat.reduceSub, reduceCtorEq, Int.reduceNe, Int.reduceEq, ne_eq, Nat.reduceLeDiff, Nat.reduceMod, Nat.reduceDiv]) | with_reducible apply And.intro | (simp -implicitDefEqProofs (disch := omega) only [i64_in, List.length_cons, List.length_nil, Nat.reduceAdd]; done) | omega | exact Nat.le_trans (parseP_len _) (by decide) | exact Nat.le_trans (readS_len _) (by decide))
                                all_goals
                                  apply VC.at
                                  · simp -implicitDefEqProofs only [go_sem, Nat.reduceLT, Nat.reduceAdd, Nat.reduceEqDiff, reduceIte, Nat.reduceMul, Nat.reduceSub, reduceCtorEq, Int.reduceNe, Int.reduceEq, ne_eq, Nat.reduceLeDiff, Nat.reduceMod, Nat.reduceDiv]; (try simp (disch := omega) only [i64_in, tmodn, tdivn]); exact rfl
                                  apply VC.regt ΦB_ok [1, 2, 7, 16, 17, 18, 19]; intro K' hK; dsimp only [List.take, List.drop, List.map, strip, stripG]; simp -implicitDefEqProofs only [go_sem, Nat.reduceLT, Nat.reduceAdd, Nat.reduceEqDiff, reduceIte, Nat.reduceMul, Nat.reduceSub, reduceCtorEq, Int.reduceNe, Int.reduceEq, ne_eq, Nat.reduceLeDiff, Nat.reduceMod, Nat.reduceDiv]
                                  (repeat' first | (refine hK _ ?_; clear hK K') | ((first | with_reducible refine runA_id ?_ | with_reducible refine goA_id ?_); simp -implicitDefEqProofs (disch := omega) only [i64_in]; simp -implicitDefEqProofs only [go_sem, Nat.reduceLT, Nat.reduceAdd, Nat.reduceEqDiff, reduceIte, Nat.reduceMul, Nat.reduceSub, reduceCtorEq, Int.reduceNe, Int.reduceEq, ne_eq, Nat.reduceLeDiff, Nat.reduceMod, Nat.reduceDiv]) | with_reducible apply And.intro | (simp -implicitDefEqProofs (disch := omega) only [i64_in, List.length_cons, List.length_nil, Nat.reduceAdd]; done) | omega | exact Nat.le_trans (parseP_len _) (by decide) | exact Nat.le_trans (readS_len _) (by decide))
                                  all_goals
                                    apply VC.at
                                    · simp -implicitDefEqProofs only [go_sem, Nat.reduceLT, Nat.reduceAdd, Nat.reduceEqDiff, reduceIte, Nat.reduceMul, Nat.reduceSub, reduceCtorEq, Int.reduceNe, Int.reduceEq, ne_eq, Nat.reduceLeDiff, Nat.reduceMod, Nat.reduceDiv]; (try simp (disch := omega) only [i64_in, tmodn, tdivn]); exact rfl
                                    apply VC.regt ΦB_ok [1, 2, 7, 17, 18, 19, 20, 21]; intro K' hK; dsimp only [List.take, List.drop, List.map, strip, stripG]; simp -implicitDefEqProofs only [go_sem, Nat.reduceLT, Nat.reduceAdd, Nat.reduceEqDiff, reduceIte, Nat.reduceMul, Nat.reduceSub, reduceCtorEq, Int.reduceNe, Int.reduceEq, ne_eq, Nat.reduceLeDiff, Nat.reduceMod, Nat.reduceDiv]
                                    (repeat' first | (refine hK _ ?_; clear hK K') | ((first | with_reducible refine runA_id ?_ | with_reducible refine goA_id ?_); simp -implicitDefEqProofs (disch := omega) only [i64_in]; simp -implicitDefEqProofs only [go_sem, Nat.reduceLT, Nat.reduceAdd, Nat.reduceEqDiff, reduceIte, Nat.reduceMul, Nat.reduceSub, reduceCtorEq, Int.reduceNe, Int.reduceEq, ne_eq, Nat.reduceLeDiff, Nat.reduceMod, Nat.reduceDiv]) | with_reducible apply And.intro | (simp -implicitDefEqProofs (disch := omega) only [i64_in, List.length_cons, List.length_nil, Nat.reduceAdd]; done) | omega | exact Nat.le_trans (parseP_len _) (by decide) | exact Nat.le_trans (readS_len _) (by decide))
                                    all_goals
                                      apply VC.at
                                      · simp -implicitDefEqProofs only [go_sem, Nat.reduceLT, Nat.reduceAdd, Nat.reduceEqDiff, reduceIte, Nat.reduceMul, Nat.reduceSub, reduceCtorEq, Int.reduceNe, Int.reduceEq, ne_eq, Nat.reduceLeDiff, Nat.reduceMod, Nat.reduceDiv]; (try simp (disch := omega) only [i64_in, tmodn, tdivn]); exact rfl
                                      apply VC.regt ΦB_ok [1, 2, 7, 17, 19, 20, 21, 22, 23]; intro K' hK; dsimp only [List.take, List.drop, List.map, strip, stripG]; simp -implicitDefEqProofs only [go_sem, Nat.reduceLT, Nat.reduceAdd, Nat.reduceEqDiff, reduceIte, Nat.reduceMul, Nat.reduceSub, reduceCtorEq, Int.reduceNe, Int.reduceEq, ne_eq, Nat.reduceLeDiff, Nat.reduceMod, Nat.reduceDiv]
                                      (repeat' first | (refine hK _ ?_; clear hK K') | ((first | with_reducible refine runA_id ?_ | with_reducible refine goA_id ?_); simp -implicitDefEqProofs (disch := omega) only [i64_in]; simp -implicitDefEqProofs only [go_sem, Nat.reduceLT, Nat.reduceAdd, Nat.reduceEqDiff, reduceIte, Nat.reduceMul, Nat.reduceSub, reduceCtorEq, Int.reduceNe, Int.reduceEq, ne_eq, Nat.reduceLeDiff, Nat.reduceMod, Nat.reduceDiv]) | with_reducible apply And.intro | (simp -implicitDefEqProofs (disch := omega) only [i64_in, List.length_cons, List.length_nil, Nat.reduceAdd]; done) | omega | exact Nat.le_trans (parseP_len _) (by decide) | exact Nat.le_trans (readS_len _) (by decide))
                                      all_goals
                                        apply VC.at
                                        · simp -implicitDefEqProofs only [go_sem, Nat.reduceLT, Nat.reduceAdd, Nat.reduceEqDiff, reduceIte, Nat.reduceMul, Nat.reduceSub, reduceCtorEq, Int.reduceNe, Int.reduceEq, ne_eq, Nat.reduceLeDiff, Nat.reduceMod, Nat.reduceDiv]; (try simp (disch := omega) only [i64_in, tmodn, tdivn]); exact rfl
                                        apply VC.regt ΦB_ok [6]; intro K' hK; dsimp only [List.take, List.drop, List.map, strip, stripG]; simp only [gtmp, List.getElem?_toArray, List.getElem?_cons_succ, List.getElem?_cons_zero, Option.bind_some]; simp -implicitDefEqProofs only [go_sem, Nat.reduceLT, Nat.reduceAdd, Nat.reduceEqDiff, reduceIte, Nat.reduceMul, Nat.reduceSub, reduceCtorEq, Int.reduceNe, Int.reduceEq, ne_eq, Nat.reduceLeDiff, Nat.reduceMod, Nat.reduceDiv]
                                        (repeat' first | (refine hK _ ?_; clear hK K') | (first | apply goB_splitD | apply goA_splitD | apply goB_split | apply goA_split | apply goA_all) <;> intro _ <;> simp -implicitDefEqProofs only [go_sem, Nat.reduceLT, Nat.reduceAdd, Nat.reduceEqDiff, reduceIte, Nat.reduceMul, Nat.reduceSub, reduceCtorEq, Int.reduceNe, Int.reduceEq, ne_eq, Nat.reduceLeDiff, Nat.reduceMod, Nat.reduceDiv] | with_reducible apply And.intro | (simp -implicitDefEqProofs (disch := omega) only [i64_in, List.length_cons, List.length_nil, Nat.reduceAdd]; done) | omega | exact Nat.le_trans (parseP_len _) (by decide) | exact Nat.le_trans (readS_len _) (by decide))
                                        all_goals
                                          apply VC.at
                                          · simp -implicitDefEqProofs only [go_sem, Nat.reduceLT, Nat.reduceAdd, Nat.reduceEqDiff, reduceIte, Nat.reduceMul, Nat.reduceSub, reduceCtorEq, Int.reduceNe, Int.reduceEq, ne_eq, Nat.reduceLeDiff, Nat.reduceMod, Nat.reduceDiv]; (try simp (disch := omega) only [i64_in, tmodn, tdivn]); exact rfl
                                          apply VC.ret
                                          simp -implicitDefEqProofs only [go_sem, Nat.reduceLT, Nat.reduceAdd, Nat.reduceEqDiff, reduceIte, Nat.reduceMul, Nat.reduceSub, reduceCtorEq, Int.reduceNe, Int.reduceEq, ne_eq, Nat.reduceLeDiff, Nat.reduceMod, Nat.reduceDiv]
                                          all_goals (first | trivial | rfl | (exfalso; rcases pfacts s with hp | ⟨m, hp, h1, h2⟩ <;> rcases rfacts b with hr | ⟨n, hr, h3, h4⟩ <;> simp_all [encO]; done) | (rcases rfacts b with hr | ⟨n, hr, h3, h4⟩ <;> simp_all [encO]; done))
              · intro h; try exact absurd h (by decide)
                all_goals
                  apply VC.skip
                  refine thenK_n ?_
                  apply VC.regt ΦB_ok [1, 2, 7, 16, 17]; intro K' hK; dsimp only [List.take, List.drop, List.map, strip, stripG]; simp -implicitDefEqProofs only [go_sem, Nat.reduceLT, Nat.reduceAdd, Nat.reduceEqDiff, reduceIte, Nat.reduceMul, Nat.reduceSub, reduceCtorEq, Int.reduceNe, Int.reduceEq, ne_eq, Nat.reduceLeDiff, Nat.reduceMod, Nat.reduceDiv]
                  (repeat' first | (refine hK _ ?_; clear hK K') | ((first | with_reducible refine runA_id ?_ | with_reducible refine goA_id ?_); simp -implicitDefEqProofs (disch := omega) only [i64_in]; simp -implicitDefEqProofs only [go_sem, Nat.reduceLT, Nat.reduceAdd, Nat.reduceEqDiff, reduceIte, Nat.reduceMul, Nat.reduceSub, reduceCtorEq, Int.reduceNe, Int.reduceEq, ne_eq, Nat.reduceLeDiff, Nat.reduceMod, Nat.reduceDiv]) | with_reducible apply And.intro | (simp -implicitDefEqProofs (disch := omega) only [i64_in, List.length_cons, List.length_nil, Nat.reduceAdd]; done) | omega | exact Nat.le_trans (parseP_len _) (by decide) | exact Nat.le_trans (readS_len _) (by decide))
                  all_goals
                    apply VC.at
                    · simp -implicitDefEqProofs only [go_sem, Nat.reduceLT, Nat.reduceAdd, Nat.reduceEqDiff, reduceIte, Nat.reduceMul, Nat.reduceSub, reduceCtorEq, Int.reduceNe, Int.reduceEq, ne_eq, Nat.reduceLeDiff, Nat.reduceMod, Nat.reduceDiv]; (try simp (disch := omega) only [i64_in, tmodn, tdivn]); exact rfl
                    apply VC.regt ΦB_ok [1, 2, 7, 16, 17, 18, 19]; intro K' hK; dsimp only [List.take, List.drop, List.map, strip, stripG]; simp -implicitDefEqProofs only [go_sem, Nat.reduceLT, Nat.reduceAdd, Nat.reduceEqDiff, reduceIte, Nat.reduceMul, Nat.reduceSub, reduceCtorEq, Int.reduceNe, Int.reduceEq, ne_eq, Nat.reduceLeDiff, Nat.reduceMod, Nat.reduceDiv]
                    (repeat' first | (refine hK _ ?_; clear hK K') | ((first | with_reducible refine runA_id ?_ | with_reducible refine goA_id ?_); simp -implicitDefEqProofs (disch := omega) only [i64_in]; simp -implicitDefEqProofs only [go_sem, Nat.reduceLT, Nat.reduceAdd, Nat.reduceEqDiff, reduceIte, Nat.reduceMul, Nat.reduceSub, reduceCtorEq, Int.reduceNe, Int.reduceEq, ne_eq, Nat.reduceLeDiff, Nat.reduceMod, Nat.reduceDiv]) | with_reducible apply And.intro | (simp -implicitDefEqProofs (disch := omega) only [i64_in, List.length_cons, List.length_nil, Nat.reduceAdd]; done) | omega | exact Nat.le_trans (parseP_len _) (by decide) | exact Nat.le_trans (readS_len _) (by decide))
                    all_goals
                      apply VC.at
                      · simp -implicitDefEqProofs only [go_sem, Nat.reduceLT, Nat.reduceAdd, Nat.reduceEqDiff, reduceIte, Nat.reduceMul, Nat.reduceSub, reduceCtorEq, Int.reduceNe, Int.reduceEq, ne_eq, Nat.reduceLeDiff, Nat.reduceMod, Nat.reduceDiv]; (try simp (disch := omega) only [i64_in, tmodn, tdivn]); exact rfl
                      apply VC.regt ΦB_ok [1, 2, 7, 17, 18, 19, 20, 21]; intro K' hK; dsimp only [List.take, List.drop, List.map, strip, stripG]; simp -implicitDefEqProofs only [go_sem, Nat.reduceLT, Nat.reduceAdd, Nat.reduceEqDiff, reduceIte, Nat.reduceMul, Nat.reduceSub, reduceCtorEq, Int.reduceNe, Int.reduceEq, ne_eq, Nat.reduceLeDiff, Nat.reduceMod, Nat.reduceDiv]
                      (repeat' first | (refine hK _ ?_; clear hK K') | ((first | with_reducible refine runA_id ?_ | with_reducible refine goA_id ?_); simp -implicitDefEqProofs (disch := omega) only [i64_in]; simp -implicitDefEqProofs only [go_sem, Nat.reduceLT, Nat.reduceAdd, Nat.reduceEqDiff, reduceIte, Nat.reduceMul, Nat.reduceSub, reduceCtorEq, Int.reduceNe, Int.reduceEq, ne_eq, Nat.reduceLeDiff, Nat.reduceMod, Nat.reduceDiv]) | with_reducible apply And.intro | (simp -implicitDefEqProofs (disch := omega) only [i64_in, List.length_cons, List.length_nil, Nat.reduceAdd]; done) | omega | exact Nat.le_trans (parseP_len _) (by decide) | exact Nat.le_trans (readS_len _) (by decide))
                      all_goals
                        apply VC.at
                        · simp -implicitDefEqProofs only [go_sem, Nat.reduceLT, Nat.reduceAdd, Nat.reduceEqDiff, reduceIte, Nat.reduceMul, Nat.reduceSub, reduceCtorEq, Int.reduceNe, Int.reduceEq, ne_eq, Nat.reduceLeDiff, Nat.reduceMod, Nat.reduceDiv]; (try simp (disch := omega) only [i64_in, tmodn, tdivn]); exact rfl
                        apply VC.regt ΦB_ok [1, 2, 7, 17, 19, 20, 21, 22, 23]; intro K' hK; dsimp only [List.take, List.drop, List.map, strip, stripG]; simp -implicitDefEqProofs only [go_sem, Nat.reduceLT, Nat.reduceAdd, Nat.reduceEqDiff, reduceIte, Nat.reduceMul, Nat.reduceSub, reduceCtorEq, Int.reduceNe, Int.reduceEq, ne_eq, Nat.reduceLeDiff, Nat.reduceMod, Nat.reduceDiv]
                        (repeat' first | (refine hK _ ?_; clear hK K') | ((first | with_reducible refine runA_id ?_ | with_reducible refine goA_id ?_); simp -implicitDefEqProofs (disch := omega) only [i64_in]; simp -implicitDefEqProofs only [go_sem, Nat.reduceLT, Nat.reduceAdd, Nat.reduceEqDiff, reduceIte, Nat.reduceMul, Nat.reduceSub, reduceCtorEq, Int.reduceNe, Int.reduceEq, ne_eq, Nat.reduceLeDiff, Nat.reduceMod, Nat.reduceDiv]) | with_reducible apply And.intro | (simp -implicitDefEqProofs (disch := omega) only [i64_in, List.length_cons, List.length_nil, Nat.reduceAdd]; done) | omega | exact Nat.le_trans (parseP_len _) (by decide) | exact Nat.le_trans (readS_len _) (by decide))
                        all_goals
                          apply VC.at
                          · simp -implicitDefEqProofs only [go_sem, Nat.reduceLT, Nat.reduceAdd, Nat.reduceEqDiff, reduceIte, Nat.reduceMul, Nat.reduceSub, reduceCtorEq, Int.reduceNe, Int.reduceEq, ne_eq, Nat.reduceLeDiff, Nat.reduceMod, Nat.reduceDiv]; (try simp (disch := omega) only [i64_in, tmodn, tdivn]); exact rfl
                          apply VC.regt ΦB_ok [6]; intro K' hK; dsimp only [List.take, List.drop, List.map, strip, stripG]; simp only [gtmp, List.getElem?_toArray, List.getElem?_cons_succ, List.getElem?_cons_zero, Option.bind_some]; simp -implicitDefEqProofs only [go_sem, Nat.reduceLT, Nat.reduceAdd, Nat.reduceEqDiff, reduceIte, Nat.reduceMul, Nat.reduceSub, reduceCtorEq, Int.reduceNe, Int.reduceEq, ne_eq, Nat.reduceLeDiff, Nat.reduceMod, Nat.reduceDiv]
                          (repeat' first | (refine hK _ ?_; clear hK K') | (first | apply goB_splitD | apply goA_splitD | apply goB_split | apply goA_split | apply goA_all) <;> intro _ <;> simp -implicitDefEqProofs only [go_sem, Nat.reduceLT, Nat.reduceAdd, Nat.reduceEqDiff, reduceIte, Nat.reduceMul, Nat.reduceSub, reduceCtorEq, Int.reduceNe, Int.reduceEq, ne_eq, Nat.reduceLeDiff, Nat.reduceMod, Nat.reduceDiv] | with_reducible apply And.intro | (simp -implicitDefEqProofs (disch := omega) only [i64_in, List.length_cons, List.length_nil, Nat.reduceAdd]; done) | omega | exact Nat.le_trans (parseP_len _) (by decide) | exact Nat.le_trans (readS_len _) (by decide))
                          all_goals
                            apply VC.at
                            · simp -implicitDefEqProofs only [go_sem, Nat.reduceLT, Nat.reduceAdd, Nat.reduceEqDiff, reduceIte, Nat.reduceMul, Nat.reduceSub, reduceCtorEq, Int.reduceNe, Int.reduceEq, ne_eq, Nat.reduceLeDiff, Nat.reduceMod, Nat.reduceDiv]; (try simp (disch := omega) only [i64_in, tmodn, tdivn]); exact rfl
                            apply VC.ret
                            simp -implicitDefEqProofs only [go_sem, Nat.reduceLT, Nat.reduceAdd, Nat.reduceEqDiff, reduceIte, Nat.reduceMul, Nat.reduceSub, reduceCtorEq, Int.reduceNe, Int.reduceEq, ne_eq, Nat.reduceLeDiff, Nat.reduceMod, Nat.reduceDiv]
                            all_goals (first | trivial | rfl | (exfalso; rcases pfacts s with hp | ⟨m, hp, h1, h2⟩ <;> rcases rfacts b with hr | ⟨n, hr, h3, h4⟩ <;> simp_all [encO]; done) | (rcases rfacts b with hr | ⟨n, hr, h3, h4⟩ <;> simp_all [encO]; done))
end Go.Proofs.YtgfadocohpinmaaDoor.Oa

