/- What the document's Bytes, Read, Named and Name compute: their contracts. No condition. -/
import Derived.Test.YtgfadocohpinmaaDoorOaD
import Derived.Test.YtgfadocohpinmaaDoorOaE
set_option linter.unusedVariables false
set_option linter.unusedSimpArgs false
namespace Go.Proofs.YtgfadocohpinmaaDoor.Oa
open Go Go.RowKit Go.Proofs.YtgfadocohpinmaaDoor.Vm Go.IntWalk
set_option maxRecDepth 100000
set_option maxHeartbeats 4000000
def formR : Nat → Nat → List UInt8 → List UInt8
  | 0, _, out => out
  | f + 1, n, out => if n = 0 then out else formR f (n / 128) (UInt8.ofNat (128 + n % 128) :: out)
/-- A number's bytes, from behind. -/
def form1 (n : Nat) : List UInt8 := formR 10 (n / 128) [UInt8.ofNat (n % 128)]
def contF (k m : Nat) (out : List UInt8) : List UInt8 := formR (10 - k) m out
theorem contF_step {k m : Nat} {out : List UInt8} (h : k < 10) (h' : 0 < m) : contF (k + 1) (m / 128) (UInt8.ofNat (128 + m % 128) :: out) = contF k m out := by
  unfold contF
  rw [show 10 - k = (10 - (k + 1)) + 1 by omega]
  simp only [formR]; rw [if_neg (by omega)]
theorem contF_stop {k m : Nat} {out : List UInt8} (h : ¬ (k < 10 ∧ 0 < m)) : contF k m out = out := by
  unfold contF
  cases e : 10 - k with
  | zero => rfl
  | succ f => simp only [formR]; rw [if_pos (by omega)]
theorem formS_len (f n : Nat) (s : List UInt8) : (formR f n s).length ≤ f + s.length := by
  induction f generalizing n s with
  | zero => simp [formR]
  | succ f ih =>
    simp only [formR]
    split
    · omega
    · have := ih (n / 128) (UInt8.ofNat (128 + n % 128) :: s); simp only [List.length_cons] at this; omega
theorem form1_len (n : Nat) : (form1 n).length ≤ 11 := by have := formS_len 10 (n / 128) [UInt8.ofNat (n % 128)]; simpa [form1] using this
theorem fb1 (n : Nat) : IntKind.u8.wrap ((n : Int) % 128) = ((n % 128 : Nat) : Int) := by rw [IntKind.wrap_u8]; omega
theorem fb2 (n : Nat) : IntKind.u8.wrap (IntKind.u64.wrap (128 + (n : Int) % 128)) = ((128 + n % 128 : Nat) : Int) := by rw [u64_in _ (by omega), IntKind.wrap_u8]; omega
theorem byte_cons (l : List UInt8) (x : Nat) (h : x < 256) : [Vm.Data.int .u8 (x : Int)] :: bytesD l = bytesD (UInt8.ofNat x :: l) := by
  simp only [bytesD, List.map_cons, UInt8.toNat_ofNat', Nat.mod_eq_of_lt h]
theorem byte_cons7 (l : List UInt8) (n : Nat) : [Vm.Data.int .u8 ((n % 128 : Nat) : Int)] :: bytesD l = bytesD (UInt8.ofNat (n % 128) :: l) := byte_cons l _ (by omega)
theorem byte_cons8 (l : List UInt8) (n : Nat) : [Vm.Data.int .u8 ((128 + n % 128 : Nat) : Int)] :: bytesD l = bytesD (UInt8.ofNat (128 + n % 128) :: l) := byte_cons l _ (by omega)
theorem byte_one7 (n : Nat) : [[Vm.Data.int .u8 ((n % 128 : Nat) : Int)]] = bytesD [UInt8.ofNat (n % 128)] := byte_cons7 [] n
def rformA (n : Nat) : List Vm.Data := [.int .u64 (n : Int)]
noncomputable def rformO : OFn := OFn.of rformA (fun n => n ≤ 18446744073709551615) 5 1 (fun n => bytesD (form1 n)) (fun n => [])
noncomputable def rformF : PFn := rformO.shut
theorem rform_inj (x y : Nat) (h : rformA x = rformA y) : x = y := by
  simpa [rformA, Prod.ext_iff, numsD_inj, bytesD_inj, Vm.Data.lst.injEq, Int.natCast_inj] using h
@[go_sem] theorem rform_opre (n : Nat) : rformO.pre [.int .u64 (n : Int)] = (n ≤ 18446744073709551615) := OFn.of_pre rform_inj n
@[go_sem] theorem rform_orow (n : Nat) : rformO.row [.int .u64 (n : Int)] = bytesD (form1 n) := OFn.of_row rform_inj n
@[go_sem] theorem rform_orest (n : Nat) : rformO.rest [.int .u64 (n : Int)] = [] := OFn.of_rest rform_inj n
@[go_sem] theorem rform_oe : rformO.e = 5 := rfl
@[go_sem] theorem rform_osz : rformO.sz = 1 := rfl
@[go_sem] theorem rform_pre (n : Nat) : rformF.pre [.int .u64 (n : Int)] = (n ≤ 18446744073709551615) := rform_opre n
@[go_sem] theorem rform_res (n : Nat) : rformF.res [.int .u64 (n : Int)] = [.lst (bytesD (form1 n))] := by
  show Vm.Data.lst (rformO.row [.int .u64 (n : Int)]) :: rformO.rest [.int .u64 (n : Int)] = _
  rw [rform_orow, rform_orest]
theorem rform_own : Own E 36 rformO := by
  apply Own.of_body (rs := [.tmp 2]) (n := 29) Tryd.func36 rfl rfl rfl
  intro ds hds
  obtain ⟨n, rfl, hds⟩ := hds
  (try dsimp only at hds)
  rw [show rformO.row (rformA n) = bytesD (form1 n) from rform_orow n, show rformO.rest (rformA n) = [] from rform_orest n, rform_oe, rform_osz]
  have hn := hds
  refine ⟨Nat.le_of_ble_eq_true rfl, ?_⟩
  show VC E none _ (pureSt 29 [.int .u64 (n : Int)]) _
  apply VC.regt sound_nil [0]; intro K' hK; dsimp only [List.take, List.drop, List.map, strip, stripG]; simp -implicitDefEqProofs only [go_sem, Nat.reduceLT, Nat.reduceAdd, Nat.reduceEqDiff, reduceIte, Nat.reduceMul, Nat.reduceSub, reduceCtorEq, Int.reduceNe, Int.reduceEq, ne_eq, Nat.reduceLeDiff, Nat.reduceMod, Nat.reduceDiv]
  (repeat' first | (refine hK _ ?_; clear hK K') | with_reducible apply And.intro | (simp -implicitDefEqProofs (disch := omega) only [i64_in, u64_in, fb1, fb2, List.length_cons, List.length_nil, Nat.reduceAdd]; done) | (simp only [maxLen]; omega) | omega | (simp only [bytesD_len, List.length_cons, List.length_nil, List.length_append]; omega))
  all_goals
    apply VC.at
    · simp -implicitDefEqProofs only [go_sem, Nat.reduceLT, Nat.reduceAdd, Nat.reduceEqDiff, reduceIte, Nat.reduceMul, Nat.reduceSub, reduceCtorEq, Int.reduceNe, Int.reduceEq, ne_eq, Nat.reduceLeDiff, Nat.reduceMod, Nat.reduceDiv]; (try simp (disch := omega) only [i64_in, tmodn, tdivn]); exact rfl
    apply VC.regt sound_nil [0, 3]; intro K' hK; dsimp only [List.take, List.drop, List.map, strip, stripG]; simp -implicitDefEqProofs only [go_sem, Nat.reduceLT, Nat.reduceAdd, Nat.reduceEqDiff, reduceIte, Nat.reduceMul, Nat.reduceSub, reduceCtorEq, Int.reduceNe, Int.reduceEq, ne_eq, Nat.reduceLeDiff, Nat.reduceMod, Nat.reduceDiv]
    (repeat' first | (refine hK _ ?_; clear hK K') | with_reducible apply And.intro | (simp -implicitDefEqProofs (disch := omega) only [i64_in, u64_in, fb1, fb2, List.length_cons, List.length_nil, Nat.reduceAdd]; done) | (simp only [maxLen]; omega) | omega | (simp only [bytesD_len, List.length_cons, List.length_nil, List.length_append]; omega))
    all_goals
      apply VC.at
      · simp -implicitDefEqProofs only [go_sem, Nat.reduceLT, Nat.reduceAdd, Nat.reduceEqDiff, reduceIte, Nat.reduceMul, Nat.reduceSub, reduceCtorEq, Int.reduceNe, Int.reduceEq, ne_eq, Nat.reduceLeDiff, Nat.reduceMod, Nat.reduceDiv]; (try simp (disch := omega) only [i64_in, tmodn, tdivn]); exact rfl
      apply VC.regt sound_nil [0, 3]; intro K' hK; dsimp only [List.take, List.drop, List.map, strip, stripG]; simp -implicitDefEqProofs only [go_sem, Nat.reduceLT, Nat.reduceAdd, Nat.reduceEqDiff, reduceIte, Nat.reduceMul, Nat.reduceSub, reduceCtorEq, Int.reduceNe, Int.reduceEq, ne_eq, Nat.reduceLeDiff, Nat.reduceMod, Nat.reduceDiv]
      (repeat' first | (refine hK _ ?_; clear hK K') | with_reducible apply And.intro | (simp -implicitDefEqProofs (disch := omega) only [i64_in, u64_in, fb1, fb2, List.length_cons, List.length_nil, Nat.reduceAdd]; done) | (simp only [maxLen]; omega) | omega | (simp only [bytesD_len, List.length_cons, List.length_nil, List.length_append]; omega))
      all_goals
        apply VC.at
        · simp -implicitDefEqProofs only [go_sem, Nat.reduceLT, Nat.reduceAdd, Nat.reduceEqDiff, reduceIte, Nat.reduceMul, Nat.reduceSub, reduceCtorEq, Int.reduceNe, Int.reduceEq, ne_eq, Nat.reduceLeDiff, Nat.reduceMod, Nat.reduceDiv]; (try simp (disch := omega) only [i64_in, tmodn, tdivn]); exact rfl
        apply VC.seq
        apply VC.regt sound_nil [0, 3, 4]; intro K' hK; dsimp only [List.take, List.drop, List.map, strip, stripG]; simp -implicitDefEqProofs only [go_sem, Nat.reduceLT, Nat.reduceAdd, Nat.reduceEqDiff, reduceIte, Nat.reduceMul, Nat.reduceSub, reduceCtorEq, Int.reduceNe, Int.reduceEq, ne_eq, Nat.reduceLeDiff, Nat.reduceMod, Nat.reduceDiv]
        (repeat' first | (refine hK _ ?_; clear hK K') | with_reducible apply And.intro | (simp -implicitDefEqProofs (disch := omega) only [i64_in, u64_in, fb1, fb2, List.length_cons, List.length_nil, Nat.reduceAdd]; done) | (simp only [maxLen]; omega) | omega | (simp only [bytesD_len, List.length_cons, List.length_nil, List.length_append]; omega))
        all_goals
          apply VC.at
          · simp -implicitDefEqProofs only [go_sem, Nat.reduceLT, Nat.reduceAdd, Nat.reduceEqDiff, reduceIte, Nat.reduceMul, Nat.reduceSub, reduceCtorEq, Int.reduceNe, Int.reduceEq, ne_eq, Nat.reduceLeDiff, Nat.reduceMod, Nat.reduceDiv]; (try simp (disch := omega) only [i64_in, tmodn, tdivn]); exact rfl
          apply VC.block
          refine VC.loopP (ι := Nat × Nat × List UInt8) [] (fun i => [(4, .dat (.int .i64 (i.1 : Int))), (0, .dat (.int .u64 (i.2.1 : Int))), (3, .sl 1 0 i.2.2.length)]) (fun i => [(1, .arr 5 1 (bytesD i.2.2) 0)]) (fun i => i.1 ≤ 10 ∧ i.2.1 ≤ 18446744073709551615 ∧ i.2.2.length ≤ i.1 + 1 ∧ contF i.1 i.2.1 i.2.2 = form1 n) (fun i => 10 - i.1) (0, n / 128, [UInt8.ofNat (n % 128)]) ⟨Nat.zero_le _, by dsimp only; omega, Nat.le_refl _, rfl⟩ ?_ ?_
          · refine Ent.to rfl rfl rfl ?_ ?_
            · simp -implicitDefEqProofs only [go_sem, Nat.reduceLT, Nat.reduceAdd, Nat.reduceEqDiff, reduceIte, Nat.reduceMul, Nat.reduceSub, reduceCtorEq, Int.reduceNe, Int.reduceEq, ne_eq, Nat.reduceLeDiff, Nat.reduceMod, Nat.reduceDiv]; (try simp only [fb1, byte_one7]); (try simp (disch := omega) only [i64_in, tmodn, tdivn]); (try simp (disch := omega) only [u64_in]); (try simp only [D.dat.injEq, Vm.Data.int.injEq, true_and, and_true, and_self, eq_self]); (try omega); (try ((repeat' apply And.intro) <;> first | omega | rfl))
            · (repeat' (first | exact all_nil | (refine all_cons ?_ ?_))) <;> (simp -implicitDefEqProofs only [go_sem, Nat.reduceLT, Nat.reduceAdd, Nat.reduceEqDiff, reduceIte, Nat.reduceMul, Nat.reduceSub, reduceCtorEq, Int.reduceNe, Int.reduceEq, ne_eq, Nat.reduceLeDiff, Nat.reduceMod, Nat.reduceDiv]; (try rfl); (try simp only [fb1, byte_one7]); try rfl)
          · rintro ⟨k, m, out⟩ hp; (try dsimp only at hp); obtain ⟨hk, hm, hl, hc⟩ := hp
            apply VC.at
            · simp -implicitDefEqProofs only [go_sem, Nat.reduceLT, Nat.reduceAdd, Nat.reduceEqDiff, reduceIte, Nat.reduceMul, Nat.reduceSub, reduceCtorEq, Int.reduceNe, Int.reduceEq, ne_eq, Nat.reduceLeDiff, Nat.reduceMod, Nat.reduceDiv]; (try simp (disch := omega) only [i64_in, tmodn, tdivn]); exact rfl
            apply VC.seq
            apply VC.regt sound_nil [0, 3, 4, 16]; intro K' hK; dsimp only [List.take, List.drop, List.map, strip, stripG]; simp only [gtmp, List.getElem?_toArray, List.getElem?_cons_succ, List.getElem?_cons_zero, Option.bind_some]; simp -implicitDefEqProofs only [go_sem, Nat.reduceLT, Nat.reduceAdd, Nat.reduceEqDiff, reduceIte, Nat.reduceMul, Nat.reduceSub, reduceCtorEq, Int.reduceNe, Int.reduceEq, ne_eq, Nat.reduceLeDiff, Nat.reduceMod, Nat.reduceDiv]
            (repeat' first | (refine hK _ ?_; clear hK K') | (first | apply goB_splitD | apply goA_splitD | apply goB_split | apply goA_split | apply goA_all) <;> intro _ <;> simp -implicitDefEqProofs only [go_sem, Nat.reduceLT, Nat.reduceAdd, Nat.reduceEqDiff, reduceIte, Nat.reduceMul, Nat.reduceSub, reduceCtorEq, Int.reduceNe, Int.reduceEq, ne_eq, Nat.reduceLeDiff, Nat.reduceMod, Nat.reduceDiv] | with_reducible apply And.intro | (simp -implicitDefEqProofs (disch := omega) only [i64_in, u64_in, fb1, fb2, List.length_cons, List.length_nil, Nat.reduceAdd]; done) | (simp only [maxLen]; omega) | omega | (simp only [bytesD_len, List.length_cons, List.length_nil, List.length_append]; omega))
            all_goals
              apply VC.at
              · simp -implicitDefEqProofs only [go_sem, Nat.reduceLT, Nat.reduceAdd, Nat.reduceEqDiff, reduceIte, Nat.reduceMul, Nat.reduceSub, reduceCtorEq, Int.reduceNe, Int.reduceEq, ne_eq, Nat.reduceLeDiff, Nat.reduceMod, Nat.reduceDiv]; (try simp (disch := omega) only [i64_in, tmodn, tdivn]); exact rfl
              first | (apply VC.condd; (focus (simp -implicitDefEqProofs only [go_sem, Nat.reduceLT, Nat.reduceAdd, Nat.reduceEqDiff, reduceIte, Nat.reduceMul, Nat.reduceSub, reduceCtorEq, Int.reduceNe, Int.reduceEq, ne_eq, Nat.reduceLeDiff, Nat.reduceMod, Nat.reduceDiv]; with_reducible exact rfl))) | (apply VC.condn; (focus (simp -implicitDefEqProofs only [go_sem, Nat.reduceLT, Nat.reduceAdd, Nat.reduceEqDiff, reduceIte, Nat.reduceMul, Nat.reduceSub, reduceCtorEq, Int.reduceNe, Int.reduceEq, ne_eq, Nat.reduceLeDiff, Nat.reduceMod, Nat.reduceDiv]; with_reducible exact rfl))) | (apply VC.condt; (focus (simp -implicitDefEqProofs only [go_sem, Nat.reduceLT, Nat.reduceAdd, Nat.reduceEqDiff, reduceIte, Nat.reduceMul, Nat.reduceSub, reduceCtorEq, Int.reduceNe, Int.reduceEq, ne_eq, Nat.reduceLeDiff, Nat.reduceMod, Nat.reduceDiv]; with_reducible exact rfl))) | (apply VC.condb; (focus (simp -implicitDefEqProofs only [go_sem, Nat.reduceLT, Nat.reduceAdd, Nat.reduceEqDiff, reduceIte, Nat.reduceMul, Nat.reduceSub, reduceCtorEq, Int.reduceNe, Int.reduceEq, ne_eq, Nat.reduceLeDiff, Nat.reduceMod, Nat.reduceDiv]; exact rfl)))
              · intro h; try exact absurd h (by decide)
                all_goals
                  apply VC.skip
                  refine thenK_n ?_
                  apply VC.seq
                  apply VC.block
                  apply VC.regt sound_nil [0, 3, 4]; intro K' hK; dsimp only [List.take, List.drop, List.map, strip, stripG]; simp -implicitDefEqProofs only [go_sem, Nat.reduceLT, Nat.reduceAdd, Nat.reduceEqDiff, reduceIte, Nat.reduceMul, Nat.reduceSub, reduceCtorEq, Int.reduceNe, Int.reduceEq, ne_eq, Nat.reduceLeDiff, Nat.reduceMod, Nat.reduceDiv]
                  (repeat' first | (refine hK _ ?_; clear hK K') | with_reducible apply And.intro | (simp -implicitDefEqProofs (disch := omega) only [i64_in, u64_in, fb1, fb2, List.length_cons, List.length_nil, Nat.reduceAdd]; done) | (simp only [maxLen]; omega) | omega | (simp only [bytesD_len, List.length_cons, List.length_nil, List.length_append]; omega))
                  all_goals
                    apply VC.at
                    · simp -implicitDefEqProofs only [go_sem, Nat.reduceLT, Nat.reduceAdd, Nat.reduceEqDiff, reduceIte, Nat.reduceMul, Nat.reduceSub, reduceCtorEq, Int.reduceNe, Int.reduceEq, ne_eq, Nat.reduceLeDiff, Nat.reduceMod, Nat.reduceDiv]; (try simp (disch := omega) only [i64_in, tmodn, tdivn]); exact rfl
                    apply VC.regLast sound_nil; intro K' hK; dsimp only [List.take, List.drop, List.map, strip, stripG]; simp -implicitDefEqProofs only [go_sem, Nat.reduceLT, Nat.reduceAdd, Nat.reduceEqDiff, reduceIte, Nat.reduceMul, Nat.reduceSub, reduceCtorEq, Int.reduceNe, Int.reduceEq, ne_eq, Nat.reduceLeDiff, Nat.reduceMod, Nat.reduceDiv]
                    (repeat' first | (refine hK _ ?_; clear hK K') | with_reducible apply And.intro | (simp -implicitDefEqProofs (disch := omega) only [i64_in, u64_in, fb1, fb2, List.length_cons, List.length_nil, Nat.reduceAdd]; done) | (simp only [maxLen]; omega) | omega | (simp only [bytesD_len, List.length_cons, List.length_nil, List.length_append]; omega))
                    all_goals
                      refine blockK_n ?_
                      refine thenK_n ?_
                      apply VC.regLast sound_nil; intro K' hK; dsimp only [List.take, List.drop, List.map, strip, stripG]; simp -implicitDefEqProofs only [go_sem, Nat.reduceLT, Nat.reduceAdd, Nat.reduceEqDiff, reduceIte, Nat.reduceMul, Nat.reduceSub, reduceCtorEq, Int.reduceNe, Int.reduceEq, ne_eq, Nat.reduceLeDiff, Nat.reduceMod, Nat.reduceDiv]
                      (repeat' first | (refine hK _ ?_; clear hK K') | with_reducible apply And.intro | (simp -implicitDefEqProofs (disch := omega) only [i64_in, u64_in, fb1, fb2, List.length_cons, List.length_nil, Nat.reduceAdd]; done) | (simp only [maxLen]; omega) | omega | (simp only [bytesD_len, List.length_cons, List.length_nil, List.length_append]; omega))
                      all_goals
                        refine thenK_n ?_
                        refine ⟨(k + 1, m / 128, UInt8.ofNat (128 + m % 128) :: out), ⟨by omega, by dsimp only; omega, by simp only [List.length_cons]; omega, ?_⟩, ?_, by dsimp only; omega⟩
                        · dsimp only; rw [contF_step (by omega) (by omega)]; exact hc
                        · refine (Ent.move 3 2 1 (by simp -implicitDefEqProofs only [go_sem, Nat.reduceLT, Nat.reduceAdd, Nat.reduceEqDiff, reduceIte, Nat.reduceMul, Nat.reduceSub, reduceCtorEq, Int.reduceNe, Int.reduceEq, ne_eq, Nat.reduceLeDiff, Nat.reduceMod, Nat.reduceDiv]; try decide) (by simp -implicitDefEqProofs only [go_sem, Nat.reduceLT, Nat.reduceAdd, Nat.reduceEqDiff, reduceIte, Nat.reduceMul, Nat.reduceSub, reduceCtorEq, Int.reduceNe, Int.reduceEq, ne_eq, Nat.reduceLeDiff, Nat.reduceMod, Nat.reduceDiv]; try decide) (by simp -implicitDefEqProofs only [go_sem, Nat.reduceLT, Nat.reduceAdd, Nat.reduceEqDiff, reduceIte, Nat.reduceMul, Nat.reduceSub, reduceCtorEq, Int.reduceNe, Int.reduceEq, ne_eq, Nat.reduceLeDiff, Nat.reduceMod, Nat.reduceDiv]; exact rfl) (by simp -implicitDefEqProofs only [go_sem, Nat.reduceLT, Nat.reduceAdd, Nat.reduceEqDiff, reduceIte, Nat.reduceMul, Nat.reduceSub, reduceCtorEq, Int.reduceNe, Int.reduceEq, ne_eq, Nat.reduceLeDiff, Nat.reduceMod, Nat.reduceDiv]; exact rfl)).trans (Ent.to rfl rfl rfl ?_ ?_)
                          · simp -implicitDefEqProofs only [go_sem, Nat.reduceLT, Nat.reduceAdd, Nat.reduceEqDiff, reduceIte, Nat.reduceMul, Nat.reduceSub, reduceCtorEq, Int.reduceNe, Int.reduceEq, ne_eq, Nat.reduceLeDiff, Nat.reduceMod, Nat.reduceDiv]; (try simp only [List.length_cons, List.length_append, List.length_nil, bytesD_len, Nat.add_comm 1]); (try simp (disch := omega) only [i64_in, tmodn, tdivn]); (try simp (disch := omega) only [u64_in]); (try simp only [D.dat.injEq, Vm.Data.int.injEq, true_and, and_true, and_self, eq_self]); (try omega); (try ((repeat' apply And.intro) <;> first | omega | rfl))
                          · (repeat' (first | exact all_nil | (refine all_cons ?_ ?_))) <;> (simp -implicitDefEqProofs only [go_sem, Nat.reduceLT, Nat.reduceAdd, Nat.reduceEqDiff, reduceIte, Nat.reduceMul, Nat.reduceSub, reduceCtorEq, Int.reduceNe, Int.reduceEq, ne_eq, Nat.reduceLeDiff, Nat.reduceMod, Nat.reduceDiv]; (try rfl); (try simp only [fb1, fb2, List.take_succ_cons, List.take_zero, List.singleton_append, List.cons_append, List.nil_append, List.take_of_length_le, bytesD_len, byte_cons7, byte_cons8]); try rfl)
              · intro h; try exact absurd h (by decide)
                all_goals
                  apply VC.exit
                  refine thenK_e ?_
                  refine thenK_e ?_
                  refine blockK_e ?_
                  refine thenK_n ?_
                  apply VC.regt sound_nil [2]; intro K' hK; dsimp only [List.take, List.drop, List.map, strip, stripG]; simp -implicitDefEqProofs only [go_sem, Nat.reduceLT, Nat.reduceAdd, Nat.reduceEqDiff, reduceIte, Nat.reduceMul, Nat.reduceSub, reduceCtorEq, Int.reduceNe, Int.reduceEq, ne_eq, Nat.reduceLeDiff, Nat.reduceMod, Nat.reduceDiv]
                  (repeat' first | (refine hK _ ?_; clear hK K') | with_reducible apply And.intro | (simp -implicitDefEqProofs (disch := omega) only [i64_in, u64_in, fb1, fb2, List.length_cons, List.length_nil, Nat.reduceAdd]; done) | (simp only [maxLen]; omega) | omega | (simp only [bytesD_len, List.length_cons, List.length_nil, List.length_append]; omega))
                  all_goals
                    apply VC.at
                    · simp -implicitDefEqProofs only [go_sem, Nat.reduceLT, Nat.reduceAdd, Nat.reduceEqDiff, reduceIte, Nat.reduceMul, Nat.reduceSub, reduceCtorEq, Int.reduceNe, Int.reduceEq, ne_eq, Nat.reduceLeDiff, Nat.reduceMod, Nat.reduceDiv]; (try simp (disch := omega) only [i64_in, tmodn, tdivn]); exact rfl
                    apply VC.ret
                    simp -implicitDefEqProofs only [go_sem, Nat.reduceLT, Nat.reduceAdd, Nat.reduceEqDiff, reduceIte, Nat.reduceMul, Nat.reduceSub, reduceCtorEq, Int.reduceNe, Int.reduceEq, ne_eq, Nat.reduceLeDiff, Nat.reduceMod, Nat.reduceDiv]
                    all_goals (first | (rw [← hc, contF_stop (by omega)]; exact ⟨rfl, rfl⟩))
theorem rform_ok : Pure E 36 rformF := rform_own.pure
end Go.Proofs.YtgfadocohpinmaaDoor.Oa
namespace Go.Proofs.YtgfadocohpinmaaDoor.Oa
open Go Go.RowKit Go.Proofs.YtgfadocohpinmaaDoor.Vm Go.IntWalk
set_option maxRecDepth 100000
set_option maxHeartbeats 4000000
noncomputable def ΦR7 : Fns := tab [(12, rmayF)]
theorem ΦR7_ok : Sound E ΦR7 := sound_cons (by kernel_rfl) rmay_ok (sound_nil)
@[go_sem] theorem ΦR7_36 : ΦR7 36 = none := rfl
@[go_sem] theorem ΦR7_c36 : callable Tryd.prog 36 = true := by kernel_rfl
@[go_sem] theorem ΦR7_12 : ΦR7 12 = some rmayF := rfl
noncomputable def ΦR7b : Fns := tab [(12, rmayF), (36, rformF)]
theorem ΦR7b_ok : Sound E ΦR7b := sound_cons (by kernel_rfl) rmay_ok (sound_cons (by kernel_rfl) rform_ok (sound_nil))
@[go_sem] theorem ΦR7b_12 : ΦR7b 12 = some rmayF := rfl
@[go_sem] theorem ΦR7b_36 : ΦR7b 36 = some rformF := rfl
/-- The first two as one, then each. -/
def rnum (l : List Nat) (k : Nat) : Nat := if k = 1 then 40 * l.getD 0 0 + l.getD 1 0 else l.getD k 0
def rencN (l : List Nat) (k : Nat) : List UInt8 := (List.range (k - 1)).flatMap fun i => form1 (rnum l (i + 1))
def renc (l : List Nat) : List UInt8 := rencN l l.length
theorem rencN_succ (l : List Nat) (k : Nat) (h : 1 ≤ k) : rencN l (k + 1) = rencN l k ++ form1 (rnum l k) := by
  unfold rencN
  rw [show k + 1 - 1 = (k - 1) + 1 by omega, List.range_succ, List.flatMap_append]
  simp [show k - 1 + 1 = k by omega]
theorem rencN_two (l : List Nat) : rencN l 2 = form1 (40 * l.getD 0 0 + l.getD 1 0) := by simp [rencN, rnum]
theorem rnum_pos (l : List Nat) (k : Nat) (h : 2 ≤ k) : rnum l k = l.getD k 0 := if_neg (by omega)
theorem rencN_len (l : List Nat) (k : Nat) : (rencN l k).length ≤ 11 * k := by
  induction k with
  | zero => simp [rencN]
  | succ k ih =>
    rcases Nat.eq_zero_or_pos k with rfl | h
    · simp [rencN]
    · rw [rencN_succ l k h, List.length_append]; have := form1_len (rnum l k); omega
def rencO (l : List Nat) : List UInt8 := if may l then renc l else []
theorem rencO_yes {l : List Nat} (h : may l = true) : rencO l = renc l := if_pos h
theorem rencO_no {l : List Nat} (h : may l = false) : rencO l = [] := by unfold rencO; rw [h]; rfl
theorem form_arg (a b : Nat) (h : 40 * a + b ≤ 9223372036854775807) : IntKind.u64.wrap (IntKind.u64.wrap (40 * (a : Int)) + (b : Int)) = ((40 * a + b : Nat) : Int) := by rw [u64_in (40 * _) (by omega), u64_in _ (by omega)]; omega
def rbytesA (l : List Nat) : List Vm.Data := [.lst (numsD l)]
noncomputable def rbytesO : OFn := OFn.of rbytesA (fun l => l.length ≤ 100000) 5 1 (fun l => bytesD (rencO l)) (fun l => [.int .i64 (if may l then 0 else 140)])
noncomputable def rbytesF : PFn := rbytesO.shut
theorem rbytes_inj (x y : List Nat) (h : rbytesA x = rbytesA y) : x = y := by
  simpa [rbytesA, Prod.ext_iff, numsD_inj, bytesD_inj, Vm.Data.lst.injEq, Int.natCast_inj] using h
@[go_sem] theorem rbytes_opre (l : List Nat) : rbytesO.pre [.lst (numsD l)] = (l.length ≤ 100000) := OFn.of_pre rbytes_inj l
@[go_sem] theorem rbytes_orow (l : List Nat) : rbytesO.row [.lst (numsD l)] = bytesD (rencO l) := OFn.of_row rbytes_inj l
@[go_sem] theorem rbytes_orest (l : List Nat) : rbytesO.rest [.lst (numsD l)] = [.int .i64 (if may l then 0 else 140)] := OFn.of_rest rbytes_inj l
@[go_sem] theorem rbytes_oe : rbytesO.e = 5 := rfl
@[go_sem] theorem rbytes_osz : rbytesO.sz = 1 := rfl
@[go_sem] theorem rbytes_pre (l : List Nat) : rbytesF.pre [.lst (numsD l)] = (l.length ≤ 100000) := rbytes_opre l
@[go_sem] theorem rbytes_res (l : List Nat) : rbytesF.res [.lst (numsD l)] = [.lst (bytesD (rencO l)), .int .i64 (if may l then 0 else 140)] := by
  show Vm.Data.lst (rbytesO.row [.lst (numsD l)]) :: rbytesO.rest [.lst (numsD l)] = _
  rw [rbytes_orow, rbytes_orest]
theorem rbytes_own : Own E 18 rbytesO := by
  apply Own.of_body (rs := [.tmp 2, .tmp 3]) (n := 34) Tryd.func18 rfl rfl rfl
  intro ds hds
  obtain ⟨l, rfl, hds⟩ := hds
  (try dsimp only at hds)
  rw [show rbytesO.row (rbytesA l) = bytesD (rencO l) from rbytes_orow l, show rbytesO.rest (rbytesA l) = [.int .i64 (if may l then 0 else 140)] from rbytes_orest l, rbytes_oe, rbytes_osz]
  skip
  refine ⟨Nat.le_of_ble_eq_true rfl, ?_⟩
  show VC E none _ (pureSt 34 [.lst (numsD l)]) _
  apply VC.regt ΦR7_ok [0]; intro K' hK; dsimp only [List.take, List.drop, List.map, strip, stripG]; simp -implicitDefEqProofs only [go_sem, Nat.reduceLT, Nat.reduceAdd, Nat.reduceEqDiff, reduceIte, Nat.reduceMul, Nat.reduceSub, reduceCtorEq, Int.reduceNe, Int.reduceEq, ne_eq, Nat.reduceLeDiff, Nat.reduceMod, Nat.reduceDiv]
  (repeat' first | (refine hK _ ?_; clear hK K') | with_reducible apply And.intro | (simp -implicitDefEqProofs (disch := omega) only [numsD_at, i64_in, u64_in, List.length_cons, List.length_nil, Nat.reduceAdd]; done) | (simp only [maxLen]; omega) | omega | (simp only [bytesD_len, List.length_cons, List.length_nil, List.length_append]; omega))
  all_goals
    apply VC.at
    · simp -implicitDefEqProofs only [go_sem, Nat.reduceLT, Nat.reduceAdd, Nat.reduceEqDiff, reduceIte, Nat.reduceMul, Nat.reduceSub, reduceCtorEq, Int.reduceNe, Int.reduceEq, ne_eq, Nat.reduceLeDiff, Nat.reduceMod, Nat.reduceDiv]; (try simp (disch := omega) only [i64_in, tmodn, tdivn]); exact rfl
    apply VC.regt ΦR7_ok [0, 4]; intro K' hK; dsimp only [List.take, List.drop, List.map, strip, stripG]; simp -implicitDefEqProofs only [go_sem, Nat.reduceLT, Nat.reduceAdd, Nat.reduceEqDiff, reduceIte, Nat.reduceMul, Nat.reduceSub, reduceCtorEq, Int.reduceNe, Int.reduceEq, ne_eq, Nat.reduceLeDiff, Nat.reduceMod, Nat.reduceDiv]
    (repeat' first | (refine hK _ ?_; clear hK K') | ((first | with_reducible refine runA_id ?_ | with_reducible refine goA_id ?_); simp -implicitDefEqProofs (disch := omega) only [numsD_at, i64_in, u64_in]; simp -implicitDefEqProofs only [go_sem, Nat.reduceLT, Nat.reduceAdd, Nat.reduceEqDiff, reduceIte, Nat.reduceMul, Nat.reduceSub, reduceCtorEq, Int.reduceNe, Int.reduceEq, ne_eq, Nat.reduceLeDiff, Nat.reduceMod, Nat.reduceDiv]) | with_reducible apply And.intro | (simp -implicitDefEqProofs (disch := omega) only [numsD_at, i64_in, u64_in, List.length_cons, List.length_nil, Nat.reduceAdd]; done) | (simp only [maxLen]; omega) | omega | (simp only [bytesD_len, List.length_cons, List.length_nil, List.length_append]; omega))
    all_goals
      apply VC.at
      · simp -implicitDefEqProofs only [go_sem, Nat.reduceLT, Nat.reduceAdd, Nat.reduceEqDiff, reduceIte, Nat.reduceMul, Nat.reduceSub, reduceCtorEq, Int.reduceNe, Int.reduceEq, ne_eq, Nat.reduceLeDiff, Nat.reduceMod, Nat.reduceDiv]; (try simp (disch := omega) only [i64_in, tmodn, tdivn]); exact rfl
      apply VC.seq
      apply VC.regt ΦR7_ok [0, 10]; intro K' hK; dsimp only [List.take, List.drop, List.map, strip, stripG]; simp -implicitDefEqProofs only [go_sem, Nat.reduceLT, Nat.reduceAdd, Nat.reduceEqDiff, reduceIte, Nat.reduceMul, Nat.reduceSub, reduceCtorEq, Int.reduceNe, Int.reduceEq, ne_eq, Nat.reduceLeDiff, Nat.reduceMod, Nat.reduceDiv]
      (repeat' first | (refine hK _ ?_; clear hK K') | with_reducible apply And.intro | (simp -implicitDefEqProofs (disch := omega) only [numsD_at, i64_in, u64_in, List.length_cons, List.length_nil, Nat.reduceAdd]; done) | (simp only [maxLen]; omega) | omega | (simp only [bytesD_len, List.length_cons, List.length_nil, List.length_append]; omega))
      all_goals
        apply VC.at
        · simp -implicitDefEqProofs only [go_sem, Nat.reduceLT, Nat.reduceAdd, Nat.reduceEqDiff, reduceIte, Nat.reduceMul, Nat.reduceSub, reduceCtorEq, Int.reduceNe, Int.reduceEq, ne_eq, Nat.reduceLeDiff, Nat.reduceMod, Nat.reduceDiv]; (try simp (disch := omega) only [i64_in, tmodn, tdivn]); exact rfl
        first | (apply VC.condd; (focus (simp -implicitDefEqProofs only [go_sem, Nat.reduceLT, Nat.reduceAdd, Nat.reduceEqDiff, reduceIte, Nat.reduceMul, Nat.reduceSub, reduceCtorEq, Int.reduceNe, Int.reduceEq, ne_eq, Nat.reduceLeDiff, Nat.reduceMod, Nat.reduceDiv]; with_reducible exact rfl))) | (apply VC.condn; (focus (simp -implicitDefEqProofs only [go_sem, Nat.reduceLT, Nat.reduceAdd, Nat.reduceEqDiff, reduceIte, Nat.reduceMul, Nat.reduceSub, reduceCtorEq, Int.reduceNe, Int.reduceEq, ne_eq, Nat.reduceLeDiff, Nat.reduceMod, Nat.reduceDiv]; with_reducible exact rfl))) | (apply VC.condt; (focus (simp -implicitDefEqProofs only [go_sem, Nat.reduceLT, Nat.reduceAdd, Nat.reduceEqDiff, reduceIte, Nat.reduceMul, Nat.reduceSub, reduceCtorEq, Int.reduceNe, Int.reduceEq, ne_eq, Nat.reduceLeDiff, Nat.reduceMod, Nat.reduceDiv]; with_reducible exact rfl))) | (apply VC.condb; (focus (simp -implicitDefEqProofs only [go_sem, Nat.reduceLT, Nat.reduceAdd, Nat.reduceEqDiff, reduceIte, Nat.reduceMul, Nat.reduceSub, reduceCtorEq, Int.reduceNe, Int.reduceEq, ne_eq, Nat.reduceLeDiff, Nat.reduceMod, Nat.reduceDiv]; exact rfl)))
        · intro h; try exact absurd h (by decide)
          all_goals
            apply VC.regt ΦR7_ok [2, 3]; intro K' hK; dsimp only [List.take, List.drop, List.map, strip, stripG]; simp -implicitDefEqProofs only [go_sem, Nat.reduceLT, Nat.reduceAdd, Nat.reduceEqDiff, reduceIte, Nat.reduceMul, Nat.reduceSub, reduceCtorEq, Int.reduceNe, Int.reduceEq, ne_eq, Nat.reduceLeDiff, Nat.reduceMod, Nat.reduceDiv]
            (repeat' first | (refine hK _ ?_; clear hK K') | with_reducible apply And.intro | (simp -implicitDefEqProofs (disch := omega) only [numsD_at, i64_in, u64_in, List.length_cons, List.length_nil, Nat.reduceAdd]; done) | (simp only [maxLen]; omega) | omega | (simp only [bytesD_len, List.length_cons, List.length_nil, List.length_append]; omega))
            all_goals
              apply VC.at
              · simp -implicitDefEqProofs only [go_sem, Nat.reduceLT, Nat.reduceAdd, Nat.reduceEqDiff, reduceIte, Nat.reduceMul, Nat.reduceSub, reduceCtorEq, Int.reduceNe, Int.reduceEq, ne_eq, Nat.reduceLeDiff, Nat.reduceMod, Nat.reduceDiv]; (try simp (disch := omega) only [i64_in, tmodn, tdivn]); exact rfl
              apply VC.ret
              refine thenK_r ?_
              simp -implicitDefEqProofs only [go_sem, Nat.reduceLT, Nat.reduceAdd, Nat.reduceEqDiff, reduceIte, Nat.reduceMul, Nat.reduceSub, reduceCtorEq, Int.reduceNe, Int.reduceEq, ne_eq, Nat.reduceLeDiff, Nat.reduceMod, Nat.reduceDiv]
              all_goals (first | (rw [show may l = false by simpa using h, rencO_no (by simpa using h)]; exact ⟨rfl, rfl⟩) | (rw [show k = l.length by omega, rencO_yes hm, if_pos hm]; exact ⟨rfl, rfl, rfl⟩))
        · intro h; try exact absurd h (by decide)
          all_goals
            apply VC.skip
            refine thenK_n ?_
            have hm : may l = true := by simpa using h
            have hml := of_decide_eq_true hm
            have hg0 := mx_ge l 0 (by omega)
            have hg1 := mx_ge l 1 (by omega)
            have hfl := form1_len (40 * l.getD 0 0 + l.getD 1 0)
            apply VC.draw1 ΦR7_ok (by kernel_rfl) 8 (by kernel_rfl) (by kernel_rfl) [0, 5]; intro L hL; dsimp only [List.take, List.drop, List.map, strip, stripG]; simp -implicitDefEqProofs only [go_sem, Nat.reduceLT, Nat.reduceAdd, Nat.reduceEqDiff, reduceIte, Nat.reduceMul, Nat.reduceSub, reduceCtorEq, Int.reduceNe, Int.reduceEq, ne_eq, Nat.reduceLeDiff, Nat.reduceMod, Nat.reduceDiv]
            (repeat' first | fail | ((first | with_reducible refine runA_id ?_ | with_reducible refine goA_id ?_); simp -implicitDefEqProofs (disch := omega) only [numsD_at, i64_in, u64_in]; simp -implicitDefEqProofs only [go_sem, Nat.reduceLT, Nat.reduceAdd, Nat.reduceEqDiff, reduceIte, Nat.reduceMul, Nat.reduceSub, reduceCtorEq, Int.reduceNe, Int.reduceEq, ne_eq, Nat.reduceLeDiff, Nat.reduceMod, Nat.reduceDiv]) | with_reducible apply And.intro | (simp -implicitDefEqProofs (disch := omega) only [numsD_at, i64_in, u64_in, List.length_cons, List.length_nil, Nat.reduceAdd]; done) | (simp only [maxLen]; omega) | omega | (simp only [bytesD_len, List.length_cons, List.length_nil, List.length_append]; omega))
            refine hL _ ?_; intro K' hK; dsimp only [List.drop, List.map, strip, stripG]; simp -implicitDefEqProofs only [go_sem, Nat.reduceLT, Nat.reduceAdd, Nat.reduceEqDiff, reduceIte, Nat.reduceMul, Nat.reduceSub, reduceCtorEq, Int.reduceNe, Int.reduceEq, ne_eq, Nat.reduceLeDiff, Nat.reduceMod, Nat.reduceDiv]
            (try simp (disch := omega) only [u64_in]); simp only [show (40 * (l.getD 0 0 : Int) + (l.getD 1 0 : Int)) = ((40 * l.getD 0 0 + l.getD 1 0 : Nat) : Int) by omega]
            refine VCcall.own rform_own 1 (by simp -implicitDefEqProofs only [go_sem, Nat.reduceLT, Nat.reduceAdd, Nat.reduceEqDiff, reduceIte, Nat.reduceMul, Nat.reduceSub, reduceCtorEq, Int.reduceNe, Int.reduceEq, ne_eq, Nat.reduceLeDiff, Nat.reduceMod, Nat.reduceDiv]; exact rfl) ?_ ?_ ?_
            · simp -implicitDefEqProofs only [go_sem, Nat.reduceLT, Nat.reduceAdd, Nat.reduceEqDiff, reduceIte, Nat.reduceMul, Nat.reduceSub, reduceCtorEq, Int.reduceNe, Int.reduceEq, ne_eq, Nat.reduceLeDiff, Nat.reduceMod, Nat.reduceDiv]; omega
            · simp -implicitDefEqProofs only [go_sem, Nat.reduceLT, Nat.reduceAdd, Nat.reduceEqDiff, reduceIte, Nat.reduceMul, Nat.reduceSub, reduceCtorEq, Int.reduceNe, Int.reduceEq, ne_eq, Nat.reduceLeDiff, Nat.reduceMod, Nat.reduceDiv]; first | done | decide
            simp -implicitDefEqProofs only [go_sem, Nat.reduceLT, Nat.reduceAdd, Nat.reduceEqDiff, reduceIte, Nat.reduceMul, Nat.reduceSub, reduceCtorEq, Int.reduceNe, Int.reduceEq, ne_eq, Nat.reduceLeDiff, Nat.reduceMod, Nat.reduceDiv]
            (repeat' first | (refine hK _ ?_; clear hK K' hL L) | ((first | with_reducible refine runA_id ?_ | with_reducible refine goA_id ?_); simp -implicitDefEqProofs (disch := omega) only [numsD_at, i64_in, u64_in]; simp -implicitDefEqProofs only [go_sem, Nat.reduceLT, Nat.reduceAdd, Nat.reduceEqDiff, reduceIte, Nat.reduceMul, Nat.reduceSub, reduceCtorEq, Int.reduceNe, Int.reduceEq, ne_eq, Nat.reduceLeDiff, Nat.reduceMod, Nat.reduceDiv]) | with_reducible apply And.intro | (simp -implicitDefEqProofs (disch := omega) only [numsD_at, i64_in, u64_in, List.length_cons, List.length_nil, Nat.reduceAdd]; done) | (simp only [maxLen]; omega) | omega | (simp only [bytesD_len, List.length_cons, List.length_nil, List.length_append]; omega))
            all_goals
              apply VC.at
              · simp -implicitDefEqProofs only [go_sem, Nat.reduceLT, Nat.reduceAdd, Nat.reduceEqDiff, reduceIte, Nat.reduceMul, Nat.reduceSub, reduceCtorEq, Int.reduceNe, Int.reduceEq, ne_eq, Nat.reduceLeDiff, Nat.reduceMod, Nat.reduceDiv]; (try simp (disch := omega) only [i64_in, tmodn, tdivn]); exact rfl
              apply VC.seq
              apply VC.regt ΦR7_ok [0, 5, 6]; intro K' hK; dsimp only [List.take, List.drop, List.map, strip, stripG]; simp -implicitDefEqProofs only [go_sem, Nat.reduceLT, Nat.reduceAdd, Nat.reduceEqDiff, reduceIte, Nat.reduceMul, Nat.reduceSub, reduceCtorEq, Int.reduceNe, Int.reduceEq, ne_eq, Nat.reduceLeDiff, Nat.reduceMod, Nat.reduceDiv]
              (repeat' first | (refine hK _ ?_; clear hK K') | with_reducible apply And.intro | (simp -implicitDefEqProofs (disch := omega) only [numsD_at, i64_in, u64_in, List.length_cons, List.length_nil, Nat.reduceAdd]; done) | (simp only [maxLen]; omega) | omega | (simp only [bytesD_len, List.length_cons, List.length_nil, List.length_append]; omega))
              all_goals
                apply VC.at
                · simp -implicitDefEqProofs only [go_sem, Nat.reduceLT, Nat.reduceAdd, Nat.reduceEqDiff, reduceIte, Nat.reduceMul, Nat.reduceSub, reduceCtorEq, Int.reduceNe, Int.reduceEq, ne_eq, Nat.reduceLeDiff, Nat.reduceMod, Nat.reduceDiv]; (try simp (disch := omega) only [i64_in, tmodn, tdivn]); exact rfl
                apply VC.block
                refine VC.loopP (ι := Nat) [0] (fun k => [(6, .dat (.int .i64 (k : Int))), (5, .sl 1 0 (rencN l k).length)]) (fun k => [(1, .arr 5 1 (bytesD (rencN l k)) 0)]) (fun k => 2 ≤ k ∧ k ≤ l.length) (fun k => l.length - k) 2 ⟨Nat.le_refl _, by omega⟩ ?_ ?_
                · refine Ent.to rfl rfl rfl ?_ ?_
                  · simp -implicitDefEqProofs only [go_sem, Nat.reduceLT, Nat.reduceAdd, Nat.reduceEqDiff, reduceIte, Nat.reduceMul, Nat.reduceSub, reduceCtorEq, Int.reduceNe, Int.reduceEq, ne_eq, Nat.reduceLeDiff, Nat.reduceMod, Nat.reduceDiv]; (try simp only [rencN_two]); (try simp (disch := omega) only [i64_in, tmodn, tdivn]); (try simp (disch := omega) only [u64_in]); (try simp only [D.dat.injEq, Vm.Data.int.injEq, true_and, and_true, and_self, eq_self]); (try omega); (try ((repeat' apply And.intro) <;> first | omega | rfl))
                  · (repeat' (first | exact all_nil | (refine all_cons ?_ ?_))) <;> (simp -implicitDefEqProofs only [go_sem, Nat.reduceLT, Nat.reduceAdd, Nat.reduceEqDiff, reduceIte, Nat.reduceMul, Nat.reduceSub, reduceCtorEq, Int.reduceNe, Int.reduceEq, ne_eq, Nat.reduceLeDiff, Nat.reduceMod, Nat.reduceDiv]; (try rfl); (try simp only [rencN_two]); try rfl)
                · intro k hp; (try dsimp only at hp); obtain ⟨h2, hk⟩ := hp; have hrl := rencN_len l k; have hfl := form1_len (l.getD k 0)
                  apply VC.at
                  · simp -implicitDefEqProofs only [go_sem, Nat.reduceLT, Nat.reduceAdd, Nat.reduceEqDiff, reduceIte, Nat.reduceMul, Nat.reduceSub, reduceCtorEq, Int.reduceNe, Int.reduceEq, ne_eq, Nat.reduceLeDiff, Nat.reduceMod, Nat.reduceDiv]; (try simp (disch := omega) only [i64_in, tmodn, tdivn]); exact rfl
                  apply VC.seq
                  apply VC.regt ΦR7_ok [0, 5, 6, 23]; intro K' hK; dsimp only [List.take, List.drop, List.map, strip, stripG]; simp -implicitDefEqProofs only [go_sem, Nat.reduceLT, Nat.reduceAdd, Nat.reduceEqDiff, reduceIte, Nat.reduceMul, Nat.reduceSub, reduceCtorEq, Int.reduceNe, Int.reduceEq, ne_eq, Nat.reduceLeDiff, Nat.reduceMod, Nat.reduceDiv]
                  (repeat' first | (refine hK _ ?_; clear hK K') | with_reducible apply And.intro | (simp -implicitDefEqProofs (disch := omega) only [numsD_at, i64_in, u64_in, List.length_cons, List.length_nil, Nat.reduceAdd]; done) | (simp only [maxLen]; omega) | omega | (simp only [bytesD_len, List.length_cons, List.length_nil, List.length_append]; omega))
                  all_goals
                    apply VC.at
                    · simp -implicitDefEqProofs only [go_sem, Nat.reduceLT, Nat.reduceAdd, Nat.reduceEqDiff, reduceIte, Nat.reduceMul, Nat.reduceSub, reduceCtorEq, Int.reduceNe, Int.reduceEq, ne_eq, Nat.reduceLeDiff, Nat.reduceMod, Nat.reduceDiv]; (try simp (disch := omega) only [i64_in, tmodn, tdivn]); exact rfl
                    first | (apply VC.condd; (focus (simp -implicitDefEqProofs only [go_sem, Nat.reduceLT, Nat.reduceAdd, Nat.reduceEqDiff, reduceIte, Nat.reduceMul, Nat.reduceSub, reduceCtorEq, Int.reduceNe, Int.reduceEq, ne_eq, Nat.reduceLeDiff, Nat.reduceMod, Nat.reduceDiv]; with_reducible exact rfl))) | (apply VC.condn; (focus (simp -implicitDefEqProofs only [go_sem, Nat.reduceLT, Nat.reduceAdd, Nat.reduceEqDiff, reduceIte, Nat.reduceMul, Nat.reduceSub, reduceCtorEq, Int.reduceNe, Int.reduceEq, ne_eq, Nat.reduceLeDiff, Nat.reduceMod, Nat.reduceDiv]; with_reducible exact rfl))) | (apply VC.condt; (focus (simp -implicitDefEqProofs only [go_sem, Nat.reduceLT, Nat.reduceAdd, Nat.reduceEqDiff, reduceIte, Nat.reduceMul, Nat.reduceSub, reduceCtorEq, Int.reduceNe, Int.reduceEq, ne_eq, Nat.reduceLeDiff, Nat.reduceMod, Nat.reduceDiv]; with_reducible exact rfl))) | (apply VC.condb; (focus (simp -implicitDefEqProofs only [go_sem, Nat.reduceLT, Nat.reduceAdd, Nat.reduceEqDiff, reduceIte, Nat.reduceMul, Nat.reduceSub, reduceCtorEq, Int.reduceNe, Int.reduceEq, ne_eq, Nat.reduceLeDiff, Nat.reduceMod, Nat.reduceDiv]; exact rfl)))
                    · intro h; try exact absurd h (by decide)
                      all_goals
                        apply VC.skip
                        refine thenK_n ?_
                        apply VC.seq
                        apply VC.block
                        have hgk : l.getD k 0 ≤ 9223372036854775807 := Nat.le_trans (mx_ge l k (by omega)) hml.2.2.2.2.1
                        apply VC.regLast ΦR7b_ok; intro K' hK; dsimp only [List.take, List.drop, List.map, strip, stripG]; simp -implicitDefEqProofs only [go_sem, Nat.reduceLT, Nat.reduceAdd, Nat.reduceEqDiff, reduceIte, Nat.reduceMul, Nat.reduceSub, reduceCtorEq, Int.reduceNe, Int.reduceEq, ne_eq, Nat.reduceLeDiff, Nat.reduceMod, Nat.reduceDiv]
                        (repeat' first | (refine hK _ ?_; clear hK K') | ((first | with_reducible refine runA_id ?_ | with_reducible refine goA_id ?_); simp -implicitDefEqProofs (disch := omega) only [numsD_at, i64_in, u64_in]; simp -implicitDefEqProofs only [go_sem, Nat.reduceLT, Nat.reduceAdd, Nat.reduceEqDiff, reduceIte, Nat.reduceMul, Nat.reduceSub, reduceCtorEq, Int.reduceNe, Int.reduceEq, ne_eq, Nat.reduceLeDiff, Nat.reduceMod, Nat.reduceDiv]) | with_reducible apply And.intro | (simp -implicitDefEqProofs (disch := omega) only [numsD_at, i64_in, u64_in, List.length_cons, List.length_nil, Nat.reduceAdd]; done) | (simp only [maxLen]; omega) | omega | (simp only [bytesD_len, List.length_cons, List.length_nil, List.length_append]; omega))
                        all_goals
                          refine blockK_n ?_
                          refine thenK_n ?_
                          apply VC.regLast ΦR7_ok; intro K' hK; dsimp only [List.take, List.drop, List.map, strip, stripG]; simp -implicitDefEqProofs only [go_sem, Nat.reduceLT, Nat.reduceAdd, Nat.reduceEqDiff, reduceIte, Nat.reduceMul, Nat.reduceSub, reduceCtorEq, Int.reduceNe, Int.reduceEq, ne_eq, Nat.reduceLeDiff, Nat.reduceMod, Nat.reduceDiv]
                          (repeat' first | (refine hK _ ?_; clear hK K') | with_reducible apply And.intro | (simp -implicitDefEqProofs (disch := omega) only [numsD_at, i64_in, u64_in, List.length_cons, List.length_nil, Nat.reduceAdd]; done) | (simp only [maxLen]; omega) | omega | (simp only [bytesD_len, List.length_cons, List.length_nil, List.length_append]; omega))
                          all_goals
                            refine thenK_n ?_
                            refine ⟨k + 1, ⟨by omega, by omega⟩, ?_, by omega⟩
                            refine Ent.to rfl rfl rfl ?_ ?_
                            · simp -implicitDefEqProofs only [go_sem, Nat.reduceLT, Nat.reduceAdd, Nat.reduceEqDiff, reduceIte, Nat.reduceMul, Nat.reduceSub, reduceCtorEq, Int.reduceNe, Int.reduceEq, ne_eq, Nat.reduceLeDiff, Nat.reduceMod, Nat.reduceDiv]; (try simp only [rencN_succ l k (by omega), rnum_pos l k h2, List.length_append, bytesD_len, List.take_of_length_le, Nat.le_refl]); (try simp (disch := omega) only [i64_in, tmodn, tdivn]); (try simp (disch := omega) only [u64_in]); (try simp only [D.dat.injEq, Vm.Data.int.injEq, true_and, and_true, and_self, eq_self]); (try omega); (try ((repeat' apply And.intro) <;> first | omega | rfl))
                            · (repeat' (first | exact all_nil | (refine all_cons ?_ ?_))) <;> (simp -implicitDefEqProofs only [go_sem, Nat.reduceLT, Nat.reduceAdd, Nat.reduceEqDiff, reduceIte, Nat.reduceMul, Nat.reduceSub, reduceCtorEq, Int.reduceNe, Int.reduceEq, ne_eq, Nat.reduceLeDiff, Nat.reduceMod, Nat.reduceDiv]; (try rfl); (try simp only [rencN_succ l k (by omega), rnum_pos l k h2, bytesD_append, List.take_of_length_le, bytesD_len, Nat.le_refl]); try rfl)
                    · intro h; try exact absurd h (by decide)
                      all_goals
                        apply VC.exit
                        refine thenK_e ?_
                        refine thenK_e ?_
                        refine blockK_e ?_
                        refine thenK_n ?_
                        apply VC.regt ΦR7_ok [2, 3]; intro K' hK; dsimp only [List.take, List.drop, List.map, strip, stripG]; simp -implicitDefEqProofs only [go_sem, Nat.reduceLT, Nat.reduceAdd, Nat.reduceEqDiff, reduceIte, Nat.reduceMul, Nat.reduceSub, reduceCtorEq, Int.reduceNe, Int.reduceEq, ne_eq, Nat.reduceLeDiff, Nat.reduceMod, Nat.reduceDiv]
                        (repeat' first | (refine hK _ ?_; clear hK K') | with_reducible apply And.intro | (simp -implicitDefEqProofs (disch := omega) only [numsD_at, i64_in, u64_in, List.length_cons, List.length_nil, Nat.reduceAdd]; done) | (simp only [maxLen]; omega) | omega | (simp only [bytesD_len, List.length_cons, List.length_nil, List.length_append]; omega))
                        all_goals
                          apply VC.at
                          · simp -implicitDefEqProofs only [go_sem, Nat.reduceLT, Nat.reduceAdd, Nat.reduceEqDiff, reduceIte, Nat.reduceMul, Nat.reduceSub, reduceCtorEq, Int.reduceNe, Int.reduceEq, ne_eq, Nat.reduceLeDiff, Nat.reduceMod, Nat.reduceDiv]; (try simp (disch := omega) only [i64_in, tmodn, tdivn]); exact rfl
                          apply VC.ret
                          simp -implicitDefEqProofs only [go_sem, Nat.reduceLT, Nat.reduceAdd, Nat.reduceEqDiff, reduceIte, Nat.reduceMul, Nat.reduceSub, reduceCtorEq, Int.reduceNe, Int.reduceEq, ne_eq, Nat.reduceLeDiff, Nat.reduceMod, Nat.reduceDiv]
                          all_goals (first | (rw [show may l = false by simpa using h, rencO_no (by simpa using h)]; exact ⟨rfl, rfl⟩) | (rw [show k = l.length by omega, rencO_yes hm, if_pos hm]; exact ⟨rfl, rfl, rfl⟩))
theorem rbytes_ok : Pure E 18 rbytesF := rbytes_own.pure
end Go.Proofs.YtgfadocohpinmaaDoor.Oa
namespace Go.Proofs.YtgfadocohpinmaaDoor.Oa
open Go Go.RowKit Go.Proofs.YtgfadocohpinmaaDoor.Vm Go.IntWalk
set_option maxRecDepth 100000
set_option maxHeartbeats 4000000
noncomputable def ΦR8 : Fns := tab [(12, rmayF)]
theorem ΦR8_ok : Sound E ΦR8 := sound_cons (by kernel_rfl) rmay_ok (sound_nil)
@[go_sem] theorem ΦR8_12 : ΦR8 12 = some rmayF := rfl
def val7 (w : List UInt8) : Nat := w.foldl (fun n c => 128 * n + c.toNat % 128) 0
def bad7 (w : List UInt8) : Prop := (w.getD 0 0).toNat = 128 ∨ 9 < w.length
instance (w : List UInt8) : Decidable (bad7 w) := inferInstanceAs (Decidable (_ ∨ _))
def rrd : List UInt8 → List UInt8 → List Nat → Option (List Nat)
  | [], cur, all => if cur.length = 0 then some all else none
  | c :: r, cur, all => if 128 ≤ c.toNat then rrd r (cur ++ [c]) all else if bad7 (cur ++ [c]) then none else rrd r [] (all ++ [val7 (cur ++ [c])])
def rfst (x : Nat) : Nat := if x < 80 then x / 40 else 2
def rout (x : Nat) (r : List Nat) : List Nat := rfst x :: (x - 40 * rfst x) :: r
/-- The document's answer: the numbers of bytes. -/
def readR (b : List UInt8) : Option (List Nat) := match rrd b [] [] with
  | some (x :: r) => if may (rout x r) then some (rout x r) else none
  | _ => none
def contR (s : List UInt8) (i f : Nat) (all : List Nat) : Option (List Nat) := rrd (s.drop i) (wd s f i) all
theorem contR_start (s : List UInt8) : contR s 0 0 [] = rrd s [] [] := by simp [contR, wd]
theorem val7_snoc (w : List UInt8) (c : UInt8) : val7 (w ++ [c]) = 128 * val7 w + c.toNat % 128 := by simp [val7]
theorem val7_lt (w : List UInt8) : val7 w < 128 ^ w.length := by
  have aux : ∀ (w : List UInt8) (n k : Nat), n < 128 ^ k → w.foldl (fun n c => 128 * n + c.toNat % 128) n < 128 ^ (k + w.length) := by
    intro w
    induction w with
    | nil => intro n k h; simpa using h
    | cons c w ih =>
      intro n k h
      rw [List.foldl_cons, List.length_cons, show k + (w.length + 1) = (k + 1) + w.length by omega]
      refine ih _ _ ?_
      rw [Nat.pow_succ]; have := Nat.mod_lt c.toNat (show 0 < 128 by decide); omega
  have := aux w 0 0 (by decide)
  simpa [val7] using this
theorem val7_lt8 (w : List UInt8) (h : w.length ≤ 8) : val7 w < 72057594037927936 := Nat.lt_of_lt_of_le (val7_lt w) (Nat.pow_le_pow_right (by decide) h)
theorem val7_lt9 (w : List UInt8) (h : w.length ≤ 9) : val7 w < 9223372036854775808 := Nat.lt_of_lt_of_le (val7_lt w) (Nat.pow_le_pow_right (by decide) h)
theorem wd_len_eq (s : List UInt8) (f i : Nat) (h : i ≤ s.length) : (wd s f i).length = i - f := by simp only [wd, List.length_take, List.length_drop]; omega
theorem wd_head (s : List UInt8) (f i : Nat) (h : i ≤ s.length) (hf : f < i) : (wd s f i).getD 0 0 = s.getD f 0 := by
  simp only [wd, List.getD_eq_getElem?_getD, List.getElem?_take, List.getElem?_drop]
  rw [if_pos (by omega), Nat.add_zero]
theorem contR_skip (s : List UInt8) (i f : Nat) (all : List Nat) (h : i < s.length) (hf : f ≤ i) (h' : 128 ≤ (s.getD i 0).toNat) : contR s (i + 1) f all = contR s i f all := by
  unfold contR
  rw [drop_cons h, wd_succ s f i h hf]
  simp only [rrd, if_pos h']
theorem contR_bad (s : List UInt8) (i f : Nat) (all : List Nat) (h : i < s.length) (hf : f ≤ i) (h' : ¬ 128 ≤ (s.getD i 0).toNat) (hb : (s.getD f 0).toNat = 128 ∨ 8 < i - f) : contR s i f all = none := by
  unfold contR
  rw [drop_cons h]
  simp only [rrd, if_neg h']
  rw [← wd_succ s f i h hf, if_pos]
  unfold bad7
  rw [wd_head s f (i + 1) (by omega) (by omega), wd_len_eq s f (i + 1) (by omega)]
  omega
theorem contR_word (s : List UInt8) (i f : Nat) (all : List Nat) (h : i < s.length) (hf : f ≤ i) (h' : ¬ 128 ≤ (s.getD i 0).toNat) (hb : ¬ ((s.getD f 0).toNat = 128 ∨ 8 < i - f)) : contR s (i + 1) (i + 1) (all ++ [val7 (wd s f (i + 1))]) = contR s i f all := by
  unfold contR
  rw [drop_cons h, wd_self]
  simp only [rrd, if_neg h']
  rw [← wd_succ s f i h hf, if_neg]
  unfold bad7
  rw [wd_head s f (i + 1) (by omega) (by omega), wd_len_eq s f (i + 1) (by omega)]
  omega
theorem contR_end (s : List UInt8) (i f : Nat) (all : List Nat) (h : i = s.length) : contR s i f all = if s.length - f = 0 then some all else none := by
  unfold contR
  rw [List.drop_eq_nil_of_le (by omega)]
  simp only [rrd]
  rw [wd_len_eq s f i (by omega), h]
theorem readR_none {s : List UInt8} (h : rrd s [] [] = none) : readR s = none := by unfold readR; rw [h]
theorem readR_nil {s : List UInt8} (h : rrd s [] [] = some []) : readR s = none := by unfold readR; rw [h]
theorem readR_no {s : List UInt8} {x : Nat} {r : List Nat} (h : rrd s [] [] = some (x :: r)) (h' : may (rout x r) = false) : readR s = none := by unfold readR; rw [h]; dsimp only; rw [h']; rfl
theorem readR_yes {s : List UInt8} {x : Nat} {r : List Nat} (h : rrd s [] [] = some (x :: r)) (h' : may (rout x r) = true) : readR s = some (rout x r) := by unfold readR; rw [h]; dsimp only; rw [if_pos h']
theorem rsub40 (x : Nat) (h : x ≤ 9223372036854775807) : IntKind.u64.wrap ((x : Int) - IntKind.u64.wrap (40 * ((rfst x : Nat) : Int))) = ((x - 40 * rfst x : Nat) : Int) := by
  unfold rfst; split <;> (rw [u64_in (40 * _) (by omega), u64_in _ (by omega)]; omega)
theorem sub_one_nat (n : Nat) : (((n + 1 : Nat) : Int) - 1).toNat = n := by omega
theorem val7_nil : val7 [] = 0 := rfl
theorem nums_two (a b : Nat) : ([[.int .u64 (a : Int)], [.int .u64 (b : Int)]] : List (List Vm.Data)) = numsD [a, b] := rfl
def rreadA (s : List UInt8) : List Vm.Data := [.lst (bytesD s)]
noncomputable def rreadF : PFn := PFn.of rreadA (fun s => s.length ≤ 100000) (fun s => [.lst (numsD ((readR s).getD [])), .int .i64 (if (readR s).isSome then 0 else 140)])
theorem rread_inj (x y : List UInt8) (h : rreadA x = rreadA y) : x = y := by
  simpa [rreadA, Prod.ext_iff, numsD_inj, bytesD_inj, Vm.Data.lst.injEq, Int.natCast_inj] using h
@[go_sem] theorem rread_pre (s : List UInt8) : rreadF.pre [.lst (bytesD s)] = (s.length ≤ 100000) := PFn.of_pre rread_inj s
@[go_sem] theorem rread_res (s : List UInt8) : rreadF.res [.lst (bytesD s)] = [.lst (numsD ((readR s).getD [])), .int .i64 (if (readR s).isSome then 0 else 140)] := PFn.of_res rread_inj s
theorem rread_ok : Pure E 19 rreadF := by
  apply Pure.of_body (rs := [.tmp 2, .tmp 3]) (n := 89) Tryd.func19 rfl rfl rfl
  intro ds hds
  obtain ⟨s, rfl, hds⟩ := hds
  (try dsimp only at hds)
  rw [show rreadF.res (rreadA s) = [.lst (numsD ((readR s).getD [])), .int .i64 (if (readR s).isSome then 0 else 140)] from rread_res s]
  skip
  refine ⟨Nat.le_of_ble_eq_true rfl, ?_⟩
  show VC E none _ (pureSt 89 [.lst (bytesD s)]) _
  apply VC.regt ΦR8_ok [0]; intro K' hK; dsimp only [List.take, List.drop, List.map, strip, stripG]; simp -implicitDefEqProofs only [go_sem, Nat.reduceLT, Nat.reduceAdd, Nat.reduceEqDiff, reduceIte, Nat.reduceMul, Nat.reduceSub, reduceCtorEq, Int.reduceNe, Int.reduceEq, ne_eq, Nat.reduceLeDiff, Nat.reduceMod, Nat.reduceDiv]
  (repeat' first | (refine hK _ ?_; clear hK K') | with_reducible apply And.intro | (simp -implicitDefEqProofs (disch := omega) only [bytesD_at, numsD_at, u64_in, i64_in, List.length_cons, List.length_nil, Nat.reduceAdd]; done) | (simp only [maxLen]; omega) | omega | (simp only [numsD_len, List.length_append, List.length_cons, List.length_nil]; omega))
  all_goals
    apply VC.at
    · simp -implicitDefEqProofs only [go_sem, Nat.reduceLT, Nat.reduceAdd, Nat.reduceEqDiff, reduceIte, Nat.reduceMul, Nat.reduceSub, reduceCtorEq, Int.reduceNe, Int.reduceEq, ne_eq, Nat.reduceLeDiff, Nat.reduceMod, Nat.reduceDiv]; (try simp (disch := omega) only [i64_in, tmodn, tdivn]); exact rfl
    apply VC.regt ΦR8_ok [0, 4]; intro K' hK; dsimp only [List.take, List.drop, List.map, strip, stripG]; simp -implicitDefEqProofs only [go_sem, Nat.reduceLT, Nat.reduceAdd, Nat.reduceEqDiff, reduceIte, Nat.reduceMul, Nat.reduceSub, reduceCtorEq, Int.reduceNe, Int.reduceEq, ne_eq, Nat.reduceLeDiff, Nat.reduceMod, Nat.reduceDiv]
    (repeat' first | (refine hK _ ?_; clear hK K') | with_reducible apply And.intro | (simp -implicitDefEqProofs (disch := omega) only [bytesD_at, numsD_at, u64_in, i64_in, List.length_cons, List.length_nil, Nat.reduceAdd]; done) | (simp only [maxLen]; omega) | omega | (simp only [numsD_len, List.length_append, List.length_cons, List.length_nil]; omega))
    all_goals
      apply VC.at
      · simp -implicitDefEqProofs only [go_sem, Nat.reduceLT, Nat.reduceAdd, Nat.reduceEqDiff, reduceIte, Nat.reduceMul, Nat.reduceSub, reduceCtorEq, Int.reduceNe, Int.reduceEq, ne_eq, Nat.reduceLeDiff, Nat.reduceMod, Nat.reduceDiv]; (try simp (disch := omega) only [i64_in, tmodn, tdivn]); exact rfl
      apply VC.regt ΦR8_ok [0, 4, 5]; intro K' hK; dsimp only [List.take, List.drop, List.map, strip, stripG]; simp -implicitDefEqProofs only [go_sem, Nat.reduceLT, Nat.reduceAdd, Nat.reduceEqDiff, reduceIte, Nat.reduceMul, Nat.reduceSub, reduceCtorEq, Int.reduceNe, Int.reduceEq, ne_eq, Nat.reduceLeDiff, Nat.reduceMod, Nat.reduceDiv]
      (repeat' first | (refine hK _ ?_; clear hK K') | with_reducible apply And.intro | (simp -implicitDefEqProofs (disch := omega) only [bytesD_at, numsD_at, u64_in, i64_in, List.length_cons, List.length_nil, Nat.reduceAdd]; done) | (simp only [maxLen]; omega) | omega | (simp only [numsD_len, List.length_append, List.length_cons, List.length_nil]; omega))
      all_goals
        apply VC.at
        · simp -implicitDefEqProofs only [go_sem, Nat.reduceLT, Nat.reduceAdd, Nat.reduceEqDiff, reduceIte, Nat.reduceMul, Nat.reduceSub, reduceCtorEq, Int.reduceNe, Int.reduceEq, ne_eq, Nat.reduceLeDiff, Nat.reduceMod, Nat.reduceDiv]; (try simp (disch := omega) only [i64_in, tmodn, tdivn]); exact rfl
        apply VC.seq
        apply VC.regt ΦR8_ok [0, 4, 5, 6]; intro K' hK; dsimp only [List.take, List.drop, List.map, strip, stripG]; simp -implicitDefEqProofs only [go_sem, Nat.reduceLT, Nat.reduceAdd, Nat.reduceEqDiff, reduceIte, Nat.reduceMul, Nat.reduceSub, reduceCtorEq, Int.reduceNe, Int.reduceEq, ne_eq, Nat.reduceLeDiff, Nat.reduceMod, Nat.reduceDiv]
        (repeat' first | (refine hK _ ?_; clear hK K') | with_reducible apply And.intro | (simp -implicitDefEqProofs (disch := omega) only [bytesD_at, numsD_at, u64_in, i64_in, List.length_cons, List.length_nil, Nat.reduceAdd]; done) | (simp only [maxLen]; omega) | omega | (simp only [numsD_len, List.length_append, List.length_cons, List.length_nil]; omega))
        all_goals
          apply VC.at
          · simp -implicitDefEqProofs only [go_sem, Nat.reduceLT, Nat.reduceAdd, Nat.reduceEqDiff, reduceIte, Nat.reduceMul, Nat.reduceSub, reduceCtorEq, Int.reduceNe, Int.reduceEq, ne_eq, Nat.reduceLeDiff, Nat.reduceMod, Nat.reduceDiv]; (try simp (disch := omega) only [i64_in, tmodn, tdivn]); exact rfl
          apply VC.block
          refine VC.loopP (ι := Nat × Nat × List Nat) [0] (fun i => [(6, .dat (.int .i64 (i.1 : Int))), (5, .dat (.int .i64 (i.2.1 : Int))), (4, .sl 1 0 i.2.2.length)]) (fun i => [(1, .arr 36 1 (numsD i.2.2) 0)]) (fun i => i.1 ≤ s.length ∧ i.2.1 ≤ i.1 ∧ i.2.2.length ≤ i.1 ∧ contR s i.1 i.2.1 i.2.2 = rrd s [] [] ∧ ∀ x ∈ i.2.2, x ≤ 9223372036854775807) (fun i => s.length - i.1) (0, 0, []) ⟨Nat.zero_le _, Nat.zero_le _, Nat.le_refl _, contR_start s, by simp⟩ ?_ ?_
          · refine (Ent.nilT 4 1 36 1 (by decide) (by simp -implicitDefEqProofs only [go_sem, Nat.reduceLT, Nat.reduceAdd, Nat.reduceEqDiff, reduceIte, Nat.reduceMul, Nat.reduceSub, reduceCtorEq, Int.reduceNe, Int.reduceEq, ne_eq, Nat.reduceLeDiff, Nat.reduceMod, Nat.reduceDiv]) (by simp -implicitDefEqProofs only [go_sem, Nat.reduceLT, Nat.reduceAdd, Nat.reduceEqDiff, reduceIte, Nat.reduceMul, Nat.reduceSub, reduceCtorEq, Int.reduceNe, Int.reduceEq, ne_eq, Nat.reduceLeDiff, Nat.reduceMod, Nat.reduceDiv])).trans (Ent.to rfl rfl rfl ?_ ?_)
            · simp -implicitDefEqProofs only [go_sem, Nat.reduceLT, Nat.reduceAdd, Nat.reduceEqDiff, reduceIte, Nat.reduceMul, Nat.reduceSub, reduceCtorEq, Int.reduceNe, Int.reduceEq, ne_eq, Nat.reduceLeDiff, Nat.reduceMod, Nat.reduceDiv]; (try simp only [D.dat.injEq, Vm.Data.int.injEq, true_and, and_true, and_self, eq_self]); (try omega); (try ((repeat' apply And.intro) <;> first | omega | rfl))
            · (repeat' (first | exact all_nil | (refine all_cons ?_ ?_))) <;> (simp -implicitDefEqProofs only [go_sem, Nat.reduceLT, Nat.reduceAdd, Nat.reduceEqDiff, reduceIte, Nat.reduceMul, Nat.reduceSub, reduceCtorEq, Int.reduceNe, Int.reduceEq, ne_eq, Nat.reduceLeDiff, Nat.reduceMod, Nat.reduceDiv]; (try rfl); try rfl)
          · rintro ⟨i, f, all⟩ hp; (try dsimp only at hp); obtain ⟨hi, hf, hl, hc, hx⟩ := hp
            apply VC.at
            · simp -implicitDefEqProofs only [go_sem, Nat.reduceLT, Nat.reduceAdd, Nat.reduceEqDiff, reduceIte, Nat.reduceMul, Nat.reduceSub, reduceCtorEq, Int.reduceNe, Int.reduceEq, ne_eq, Nat.reduceLeDiff, Nat.reduceMod, Nat.reduceDiv]; (try simp (disch := omega) only [i64_in, tmodn, tdivn]); exact rfl
            apply VC.seq
            apply VC.regt ΦR8_ok [0, 4, 5, 6, 15]; intro K' hK; dsimp only [List.take, List.drop, List.map, strip, stripG]; simp -implicitDefEqProofs only [go_sem, Nat.reduceLT, Nat.reduceAdd, Nat.reduceEqDiff, reduceIte, Nat.reduceMul, Nat.reduceSub, reduceCtorEq, Int.reduceNe, Int.reduceEq, ne_eq, Nat.reduceLeDiff, Nat.reduceMod, Nat.reduceDiv]
            (repeat' first | (refine hK _ ?_; clear hK K') | with_reducible apply And.intro | (simp -implicitDefEqProofs (disch := omega) only [bytesD_at, numsD_at, u64_in, i64_in, List.length_cons, List.length_nil, Nat.reduceAdd]; done) | (simp only [maxLen]; omega) | omega | (simp only [numsD_len, List.length_append, List.length_cons, List.length_nil]; omega))
            all_goals
              apply VC.at
              · simp -implicitDefEqProofs only [go_sem, Nat.reduceLT, Nat.reduceAdd, Nat.reduceEqDiff, reduceIte, Nat.reduceMul, Nat.reduceSub, reduceCtorEq, Int.reduceNe, Int.reduceEq, ne_eq, Nat.reduceLeDiff, Nat.reduceMod, Nat.reduceDiv]; (try simp (disch := omega) only [i64_in, tmodn, tdivn]); exact rfl
              first | (apply VC.condd; (focus (simp -implicitDefEqProofs only [go_sem, Nat.reduceLT, Nat.reduceAdd, Nat.reduceEqDiff, reduceIte, Nat.reduceMul, Nat.reduceSub, reduceCtorEq, Int.reduceNe, Int.reduceEq, ne_eq, Nat.reduceLeDiff, Nat.reduceMod, Nat.reduceDiv]; with_reducible exact rfl))) | (apply VC.condn; (focus (simp -implicitDefEqProofs only [go_sem, Nat.reduceLT, Nat.reduceAdd, Nat.reduceEqDiff, reduceIte, Nat.reduceMul, Nat.reduceSub, reduceCtorEq, Int.reduceNe, Int.reduceEq, ne_eq, Nat.reduceLeDiff, Nat.reduceMod, Nat.reduceDiv]; with_reducible exact rfl))) | (apply VC.condt; (focus (simp -implicitDefEqProofs only [go_sem, Nat.reduceLT, Nat.reduceAdd, Nat.reduceEqDiff, reduceIte, Nat.reduceMul, Nat.reduceSub, reduceCtorEq, Int.reduceNe, Int.reduceEq, ne_eq, Nat.reduceLeDiff, Nat.reduceMod, Nat.reduceDiv]; with_reducible exact rfl))) | (apply VC.condb; (focus (simp -implicitDefEqProofs only [go_sem, Nat.reduceLT, Nat.reduceAdd, Nat.reduceEqDiff, reduceIte, Nat.reduceMul, Nat.reduceSub, reduceCtorEq, Int.reduceNe, Int.reduceEq, ne_eq, Nat.reduceLeDiff, Nat.reduceMod, Nat.reduceDiv]; exact rfl)))
              · intro h; try exact absurd h (by decide)
                all_goals
                  apply VC.skip
                  refine thenK_n ?_
                  apply VC.seq
                  apply VC.block
                  apply VC.seq
                  apply VC.regt ΦR8_ok [0, 4, 5, 6, 22]; intro K' hK; dsimp only [List.take, List.drop, List.map, strip, stripG]; simp -implicitDefEqProofs only [go_sem, Nat.reduceLT, Nat.reduceAdd, Nat.reduceEqDiff, reduceIte, Nat.reduceMul, Nat.reduceSub, reduceCtorEq, Int.reduceNe, Int.reduceEq, ne_eq, Nat.reduceLeDiff, Nat.reduceMod, Nat.reduceDiv]
                  (repeat' first | (refine hK _ ?_; clear hK K') | ((first | with_reducible refine runA_id ?_ | with_reducible refine goA_id ?_); (first | (simp only [sub_one_nat, List.drop_succ_cons, List.drop_zero, List.length_cons, numsD_take_len, numsD_len, Nat.add_comm 1, Nat.le_refl, if_true, List.take_succ_cons, List.take_length]; try simp -implicitDefEqProofs (disch := omega) only [bytesD_at, numsD_at, u64_in, i64_in]) | simp -implicitDefEqProofs (disch := omega) only [bytesD_at, numsD_at, u64_in, i64_in]); simp -implicitDefEqProofs only [go_sem, Nat.reduceLT, Nat.reduceAdd, Nat.reduceEqDiff, reduceIte, Nat.reduceMul, Nat.reduceSub, reduceCtorEq, Int.reduceNe, Int.reduceEq, ne_eq, Nat.reduceLeDiff, Nat.reduceMod, Nat.reduceDiv]) | with_reducible apply And.intro | (simp -implicitDefEqProofs (disch := omega) only [bytesD_at, numsD_at, u64_in, i64_in, List.length_cons, List.length_nil, Nat.reduceAdd]; done) | (simp only [maxLen]; omega) | omega | (simp only [numsD_len, List.length_append, List.length_cons, List.length_nil]; omega))
                  all_goals
                    apply VC.at
                    · simp -implicitDefEqProofs only [go_sem, Nat.reduceLT, Nat.reduceAdd, Nat.reduceEqDiff, reduceIte, Nat.reduceMul, Nat.reduceSub, reduceCtorEq, Int.reduceNe, Int.reduceEq, ne_eq, Nat.reduceLeDiff, Nat.reduceMod, Nat.reduceDiv]; (try simp (disch := omega) only [i64_in, tmodn, tdivn]); exact rfl
                    first | (apply VC.condd; (focus (simp -implicitDefEqProofs only [go_sem, Nat.reduceLT, Nat.reduceAdd, Nat.reduceEqDiff, reduceIte, Nat.reduceMul, Nat.reduceSub, reduceCtorEq, Int.reduceNe, Int.reduceEq, ne_eq, Nat.reduceLeDiff, Nat.reduceMod, Nat.reduceDiv]; with_reducible exact rfl))) | (apply VC.condn; (focus (simp -implicitDefEqProofs only [go_sem, Nat.reduceLT, Nat.reduceAdd, Nat.reduceEqDiff, reduceIte, Nat.reduceMul, Nat.reduceSub, reduceCtorEq, Int.reduceNe, Int.reduceEq, ne_eq, Nat.reduceLeDiff, Nat.reduceMod, Nat.reduceDiv]; with_reducible exact rfl))) | (apply VC.condt; (focus (simp -implicitDefEqProofs only [go_sem, Nat.reduceLT, Nat.reduceAdd, Nat.reduceEqDiff, reduceIte, Nat.reduceMul, Nat.reduceSub, reduceCtorEq, Int.reduceNe, Int.reduceEq, ne_eq, Nat.reduceLeDiff, Nat.reduceMod, Nat.reduceDiv]; with_reducible exact rfl))) | (apply VC.condb; (focus (simp -implicitDefEqProofs only [go_sem, Nat.reduceLT, Nat.reduceAdd, Nat.reduceEqDiff, reduceIte, Nat.reduceMul, Nat.reduceSub, reduceCtorEq, Int.reduceNe, Int.reduceEq, ne_eq, Nat.reduceLeDiff, Nat.reduceMod, Nat.reduceDiv]; exact rfl)))
                    · intro h; try exact absurd h (by decide)
                      all_goals
                        apply VC.exit
                        refine thenK_e ?_
                        refine blockK_e ?_
                        refine thenK_n ?_
                        apply VC.regLast ΦR8_ok; intro K' hK; dsimp only [List.take, List.drop, List.map, strip, stripG]; simp -implicitDefEqProofs only [go_sem, Nat.reduceLT, Nat.reduceAdd, Nat.reduceEqDiff, reduceIte, Nat.reduceMul, Nat.reduceSub, reduceCtorEq, Int.reduceNe, Int.reduceEq, ne_eq, Nat.reduceLeDiff, Nat.reduceMod, Nat.reduceDiv]
                        (repeat' first | (refine hK _ ?_; clear hK K') | with_reducible apply And.intro | (simp -implicitDefEqProofs (disch := omega) only [bytesD_at, numsD_at, u64_in, i64_in, List.length_cons, List.length_nil, Nat.reduceAdd]; done) | (simp only [maxLen]; omega) | omega | (simp only [numsD_len, List.length_append, List.length_cons, List.length_nil]; omega))
                        all_goals
                          refine thenK_n ?_
                          first
                            | (refine ⟨(i + 1, f, all), ⟨by dsimp only; omega, by dsimp only; omega, by dsimp only; omega, ?_, hx⟩, Ent.to rfl rfl rfl (by simp -implicitDefEqProofs only [go_sem, Nat.reduceLT, Nat.reduceAdd, Nat.reduceEqDiff, reduceIte, Nat.reduceMul, Nat.reduceSub, reduceCtorEq, Int.reduceNe, Int.reduceEq, ne_eq, Nat.reduceLeDiff, Nat.reduceMod, Nat.reduceDiv]; (try simp (disch := omega) only [i64_in, tmodn, tdivn]); (try simp only [D.dat.injEq, Vm.Data.int.injEq, true_and, and_true, and_self, eq_self]); (try omega); (try ((repeat' apply And.intro) <;> first | omega | rfl))) (by (repeat' (first | exact all_nil | (refine all_cons ?_ ?_))) <;> (simp -implicitDefEqProofs only [go_sem, Nat.reduceLT, Nat.reduceAdd, Nat.reduceEqDiff, reduceIte, Nat.reduceMul, Nat.reduceSub, reduceCtorEq, Int.reduceNe, Int.reduceEq, ne_eq, Nat.reduceLeDiff, Nat.reduceMod, Nat.reduceDiv]; (try rfl); try rfl)), by dsimp only; omega⟩
                               dsimp only; rw [contR_skip s i f all (by omega) hf (by omega)]; exact hc)
                            | (obtain rfl : k = i + 1 := by omega
                               refine ⟨(i + 1, i + 1, all ++ [val7 (wd s f (i + 1))]), ⟨by dsimp only; omega, by dsimp only; omega, by simp only [List.length_append, List.length_cons, List.length_nil]; omega, ?_, ?_⟩, Ent.to rfl rfl rfl (by simp -implicitDefEqProofs only [go_sem, Nat.reduceLT, Nat.reduceAdd, Nat.reduceEqDiff, reduceIte, Nat.reduceMul, Nat.reduceSub, reduceCtorEq, Int.reduceNe, Int.reduceEq, ne_eq, Nat.reduceLeDiff, Nat.reduceMod, Nat.reduceDiv]; (try simp (disch := omega) only [i64_in, tmodn, tdivn]); (try simp only [List.length_append, List.length_cons, List.length_nil]); (try simp only [D.dat.injEq, Vm.Data.int.injEq, true_and, and_true, and_self, eq_self]); (try omega); (try ((repeat' apply And.intro) <;> first | omega | rfl))) (by (repeat' (first | exact all_nil | (refine all_cons ?_ ?_))) <;> (simp -implicitDefEqProofs only [go_sem, Nat.reduceLT, Nat.reduceAdd, Nat.reduceEqDiff, reduceIte, Nat.reduceMul, Nat.reduceSub, reduceCtorEq, Int.reduceNe, Int.reduceEq, ne_eq, Nat.reduceLeDiff, Nat.reduceMod, Nat.reduceDiv]; (try rfl); try (simp only [numsD_snoc]))), by dsimp only; omega⟩
                               · dsimp only; rw [contR_word s i f all (by omega) hf (by omega) (by omega)]; exact hc
                               · intro x hx'; simp only [List.mem_append, List.mem_singleton] at hx'; rcases hx' with hx' | rfl; exact hx x hx'; have := val7_lt9 (wd s f (i + 1)) (by rw [wd_len_eq s f (i + 1) (by omega)]; omega); omega)
                    · intro h; try exact absurd h (by decide)
                      all_goals
                        apply VC.skip
                        refine thenK_n ?_
                        apply VC.seq
                        apply VC.regt ΦR8_ok [0, 4, 5, 6, 33]; intro K' hK; dsimp only [List.take, List.drop, List.map, strip, stripG]; simp only [gtmp, List.getElem?_toArray, List.getElem?_cons_succ, List.getElem?_cons_zero, Option.bind_some]; simp -implicitDefEqProofs only [go_sem, Nat.reduceLT, Nat.reduceAdd, Nat.reduceEqDiff, reduceIte, Nat.reduceMul, Nat.reduceSub, reduceCtorEq, Int.reduceNe, Int.reduceEq, ne_eq, Nat.reduceLeDiff, Nat.reduceMod, Nat.reduceDiv]
                        (repeat' first | (refine hK _ ?_; clear hK K') | (first | apply goB_splitD | apply goA_splitD | apply goB_split | apply goA_split | apply goA_all) <;> intro _ <;> simp -implicitDefEqProofs only [go_sem, Nat.reduceLT, Nat.reduceAdd, Nat.reduceEqDiff, reduceIte, Nat.reduceMul, Nat.reduceSub, reduceCtorEq, Int.reduceNe, Int.reduceEq, ne_eq, Nat.reduceLeDiff, Nat.reduceMod, Nat.reduceDiv] | ((first | with_reducible refine runA_id ?_ | with_reducible refine goA_id ?_); (first | (simp only [sub_one_nat, List.drop_succ_cons, List.drop_zero, List.length_cons, numsD_take_len, numsD_len, Nat.add_comm 1, Nat.le_refl, if_true, List.take_succ_cons, List.take_length]; try simp -implicitDefEqProofs (disch := omega) only [bytesD_at, numsD_at, u64_in, i64_in]) | simp -implicitDefEqProofs (disch := omega) only [bytesD_at, numsD_at, u64_in, i64_in]); simp -implicitDefEqProofs only [go_sem, Nat.reduceLT, Nat.reduceAdd, Nat.reduceEqDiff, reduceIte, Nat.reduceMul, Nat.reduceSub, reduceCtorEq, Int.reduceNe, Int.reduceEq, ne_eq, Nat.reduceLeDiff, Nat.reduceMod, Nat.reduceDiv]) | with_reducible apply And.intro | (simp -implicitDefEqProofs (disch := omega) only [bytesD_at, numsD_at, u64_in, i64_in, List.length_cons, List.length_nil, Nat.reduceAdd]; done) | (simp only [maxLen]; omega) | omega | (simp only [numsD_len, List.length_append, List.length_cons, List.length_nil]; omega))
                        all_goals
                          apply VC.at
                          · simp -implicitDefEqProofs only [go_sem, Nat.reduceLT, Nat.reduceAdd, Nat.reduceEqDiff, reduceIte, Nat.reduceMul, Nat.reduceSub, reduceCtorEq, Int.reduceNe, Int.reduceEq, ne_eq, Nat.reduceLeDiff, Nat.reduceMod, Nat.reduceDiv]; (try simp (disch := omega) only [i64_in, tmodn, tdivn]); exact rfl
                          first | (apply VC.condd; (focus (simp -implicitDefEqProofs only [go_sem, Nat.reduceLT, Nat.reduceAdd, Nat.reduceEqDiff, reduceIte, Nat.reduceMul, Nat.reduceSub, reduceCtorEq, Int.reduceNe, Int.reduceEq, ne_eq, Nat.reduceLeDiff, Nat.reduceMod, Nat.reduceDiv]; with_reducible exact rfl))) | (apply VC.condn; (focus (simp -implicitDefEqProofs only [go_sem, Nat.reduceLT, Nat.reduceAdd, Nat.reduceEqDiff, reduceIte, Nat.reduceMul, Nat.reduceSub, reduceCtorEq, Int.reduceNe, Int.reduceEq, ne_eq, Nat.reduceLeDiff, Nat.reduceMod, Nat.reduceDiv]; with_reducible exact rfl))) | (apply VC.condt; (focus (simp -implicitDefEqProofs only [go_sem, Nat.reduceLT, Nat.reduceAdd, Nat.reduceEqDiff, reduceIte, Nat.reduceMul, Nat.reduceSub, reduceCtorEq, Int.reduceNe, Int.reduceEq, ne_eq, Nat.reduceLeDiff, Nat.reduceMod, Nat.reduceDiv]; with_reducible exact rfl))) | (apply VC.condb; (focus (simp -implicitDefEqProofs only [go_sem, Nat.reduceLT, Nat.reduceAdd, Nat.reduceEqDiff, reduceIte, Nat.reduceMul, Nat.reduceSub, reduceCtorEq, Int.reduceNe, Int.reduceEq, ne_eq, Nat.reduceLeDiff, Nat.reduceMod, Nat.reduceDiv]; exact rfl)))
                          · intro h; try exact absurd h (by decide)
                            all_goals
                              apply VC.regt ΦR8_ok [2, 3]; intro K' hK; dsimp only [List.take, List.drop, List.map, strip, stripG]; simp -implicitDefEqProofs only [go_sem, Nat.reduceLT, Nat.reduceAdd, Nat.reduceEqDiff, reduceIte, Nat.reduceMul, Nat.reduceSub, reduceCtorEq, Int.reduceNe, Int.reduceEq, ne_eq, Nat.reduceLeDiff, Nat.reduceMod, Nat.reduceDiv]
                              (repeat' first | (refine hK _ ?_; clear hK K') | with_reducible apply And.intro | (simp -implicitDefEqProofs (disch := omega) only [bytesD_at, numsD_at, u64_in, i64_in, List.length_cons, List.length_nil, Nat.reduceAdd]; done) | (simp only [maxLen]; omega) | omega | (simp only [numsD_len, List.length_append, List.length_cons, List.length_nil]; omega))
                              all_goals
                                apply VC.at
                                · simp -implicitDefEqProofs only [go_sem, Nat.reduceLT, Nat.reduceAdd, Nat.reduceEqDiff, reduceIte, Nat.reduceMul, Nat.reduceSub, reduceCtorEq, Int.reduceNe, Int.reduceEq, ne_eq, Nat.reduceLeDiff, Nat.reduceMod, Nat.reduceDiv]; (try simp (disch := omega) only [i64_in, tmodn, tdivn]); exact rfl
                                apply VC.ret
                                refine thenK_r ?_
                                refine blockK_r ?_
                                refine thenK_r ?_
                                refine thenK_r ?_
                                refine blockK_r ?_
                                refine thenK_r ?_
                                simp -implicitDefEqProofs only [go_sem, Nat.reduceLT, Nat.reduceAdd, Nat.reduceEqDiff, reduceIte, Nat.reduceMul, Nat.reduceSub, reduceCtorEq, Int.reduceNe, Int.reduceEq, ne_eq, Nat.reduceLeDiff, Nat.reduceMod, Nat.reduceDiv]
                                all_goals (first | (have hb := contR_bad s i f all (by omega) hf (by omega) (by omega); rw [readR_none (hc ▸ hb)]; rfl) | (have ee := contR_end s i f all (by omega); rw [if_neg (by omega), hc] at ee; rw [readR_none ee]; rfl) | (have ee := contR_end s i f all (by omega); rw [if_pos (by omega), hc, List.eq_nil_of_length_eq_zero (show all.length = 0 by omega)] at ee; rw [readR_nil ee]; rfl) | (rw [readR_no ee h]; rfl) | (rw [readR_yes ee h]; rfl))
                          · intro h; try exact absurd h (by decide)
                            all_goals
                              apply VC.skip
                              refine thenK_n ?_
                              apply VC.regt ΦR8_ok [0, 4, 5, 6, 7]; intro K' hK; dsimp only [List.take, List.drop, List.map, strip, stripG]; simp -implicitDefEqProofs only [go_sem, Nat.reduceLT, Nat.reduceAdd, Nat.reduceEqDiff, reduceIte, Nat.reduceMul, Nat.reduceSub, reduceCtorEq, Int.reduceNe, Int.reduceEq, ne_eq, Nat.reduceLeDiff, Nat.reduceMod, Nat.reduceDiv]
                              (repeat' first | (refine hK _ ?_; clear hK K') | with_reducible apply And.intro | (simp -implicitDefEqProofs (disch := omega) only [bytesD_at, numsD_at, u64_in, i64_in, List.length_cons, List.length_nil, Nat.reduceAdd]; done) | (simp only [maxLen]; omega) | omega | (simp only [numsD_len, List.length_append, List.length_cons, List.length_nil]; omega))
                              all_goals
                                apply VC.at
                                · simp -implicitDefEqProofs only [go_sem, Nat.reduceLT, Nat.reduceAdd, Nat.reduceEqDiff, reduceIte, Nat.reduceMul, Nat.reduceSub, reduceCtorEq, Int.reduceNe, Int.reduceEq, ne_eq, Nat.reduceLeDiff, Nat.reduceMod, Nat.reduceDiv]; (try simp (disch := omega) only [i64_in, tmodn, tdivn]); exact rfl
                                apply VC.seq
                                apply VC.regt ΦR8_ok [0, 4, 6, 7, 8]; intro K' hK; dsimp only [List.take, List.drop, List.map, strip, stripG]; simp -implicitDefEqProofs only [go_sem, Nat.reduceLT, Nat.reduceAdd, Nat.reduceEqDiff, reduceIte, Nat.reduceMul, Nat.reduceSub, reduceCtorEq, Int.reduceNe, Int.reduceEq, ne_eq, Nat.reduceLeDiff, Nat.reduceMod, Nat.reduceDiv]
                                (repeat' first | (refine hK _ ?_; clear hK K') | with_reducible apply And.intro | (simp -implicitDefEqProofs (disch := omega) only [bytesD_at, numsD_at, u64_in, i64_in, List.length_cons, List.length_nil, Nat.reduceAdd]; done) | (simp only [maxLen]; omega) | omega | (simp only [numsD_len, List.length_append, List.length_cons, List.length_nil]; omega))
                                all_goals
                                  apply VC.at
                                  · simp -implicitDefEqProofs only [go_sem, Nat.reduceLT, Nat.reduceAdd, Nat.reduceEqDiff, reduceIte, Nat.reduceMul, Nat.reduceSub, reduceCtorEq, Int.reduceNe, Int.reduceEq, ne_eq, Nat.reduceLeDiff, Nat.reduceMod, Nat.reduceDiv]; (try simp (disch := omega) only [i64_in, tmodn, tdivn]); exact rfl
                                  apply VC.block
                                  refine VC.loopP (ι := Nat) [0] (fun k => [(8, .dat (.int .i64 (k : Int))), (7, .dat (.int .u64 ((val7 (wd s f k) : Nat) : Int))), (6, .dat (.int .i64 (i : Int))), (4, .sl 1 0 all.length)]) (fun k => [(1, .arr 36 1 (numsD all) 0)]) (fun k => f ≤ k ∧ k ≤ i + 1) (fun k => i + 1 - k) f ?_ ?_ ?_
                                  · exact ⟨Nat.le_refl _, by omega⟩
                                  · refine Ent.to rfl rfl rfl ?_ ?_ <;> (simp -implicitDefEqProofs only [go_sem, Nat.reduceLT, Nat.reduceAdd, Nat.reduceEqDiff, reduceIte, Nat.reduceMul, Nat.reduceSub, reduceCtorEq, Int.reduceNe, Int.reduceEq, ne_eq, Nat.reduceLeDiff, Nat.reduceMod, Nat.reduceDiv]; (try simp only [wd_self, val7_nil]); (try simp only [D.dat.injEq, Vm.Data.int.injEq, true_and, and_true, and_self, eq_self]); (try omega); (try ((repeat' apply And.intro) <;> first | omega | rfl)))
                                  · rintro k hp; (try dsimp only at hp); obtain ⟨hfk, hki⟩ := hp; have hv8 := fun h => val7_lt8 (wd s f k) h
                                    apply VC.at
                                    · simp -implicitDefEqProofs only [go_sem, Nat.reduceLT, Nat.reduceAdd, Nat.reduceEqDiff, reduceIte, Nat.reduceMul, Nat.reduceSub, reduceCtorEq, Int.reduceNe, Int.reduceEq, ne_eq, Nat.reduceLeDiff, Nat.reduceMod, Nat.reduceDiv]; (try simp (disch := omega) only [i64_in, tmodn, tdivn]); exact rfl
                                    apply VC.seq
                                    apply VC.regt ΦR8_ok [0, 4, 6, 7, 8, 37]; intro K' hK; dsimp only [List.take, List.drop, List.map, strip, stripG]; simp -implicitDefEqProofs only [go_sem, Nat.reduceLT, Nat.reduceAdd, Nat.reduceEqDiff, reduceIte, Nat.reduceMul, Nat.reduceSub, reduceCtorEq, Int.reduceNe, Int.reduceEq, ne_eq, Nat.reduceLeDiff, Nat.reduceMod, Nat.reduceDiv]
                                    (repeat' first | (refine hK _ ?_; clear hK K') | with_reducible apply And.intro | (simp -implicitDefEqProofs (disch := omega) only [bytesD_at, numsD_at, u64_in, i64_in, List.length_cons, List.length_nil, Nat.reduceAdd]; done) | (simp only [maxLen]; omega) | omega | (simp only [numsD_len, List.length_append, List.length_cons, List.length_nil]; omega))
                                    all_goals
                                      apply VC.at
                                      · simp -implicitDefEqProofs only [go_sem, Nat.reduceLT, Nat.reduceAdd, Nat.reduceEqDiff, reduceIte, Nat.reduceMul, Nat.reduceSub, reduceCtorEq, Int.reduceNe, Int.reduceEq, ne_eq, Nat.reduceLeDiff, Nat.reduceMod, Nat.reduceDiv]; (try simp (disch := omega) only [i64_in, tmodn, tdivn]); exact rfl
                                      first | (apply VC.condd; (focus (simp -implicitDefEqProofs only [go_sem, Nat.reduceLT, Nat.reduceAdd, Nat.reduceEqDiff, reduceIte, Nat.reduceMul, Nat.reduceSub, reduceCtorEq, Int.reduceNe, Int.reduceEq, ne_eq, Nat.reduceLeDiff, Nat.reduceMod, Nat.reduceDiv]; with_reducible exact rfl))) | (apply VC.condn; (focus (simp -implicitDefEqProofs only [go_sem, Nat.reduceLT, Nat.reduceAdd, Nat.reduceEqDiff, reduceIte, Nat.reduceMul, Nat.reduceSub, reduceCtorEq, Int.reduceNe, Int.reduceEq, ne_eq, Nat.reduceLeDiff, Nat.reduceMod, Nat.reduceDiv]; with_reducible exact rfl))) | (apply VC.condt; (focus (simp -implicitDefEqProofs only [go_sem, Nat.reduceLT, Nat.reduceAdd, Nat.reduceEqDiff, reduceIte, Nat.reduceMul, Nat.reduceSub, reduceCtorEq, Int.reduceNe, Int.reduceEq, ne_eq, Nat.reduceLeDiff, Nat.reduceMod, Nat.reduceDiv]; with_reducible exact rfl))) | (apply VC.condb; (focus (simp -implicitDefEqProofs only [go_sem, Nat.reduceLT, Nat.reduceAdd, Nat.reduceEqDiff, reduceIte, Nat.reduceMul, Nat.reduceSub, reduceCtorEq, Int.reduceNe, Int.reduceEq, ne_eq, Nat.reduceLeDiff, Nat.reduceMod, Nat.reduceDiv]; exact rfl)))
                                      · intro h; try exact absurd h (by decide)
                                        all_goals
                                          apply VC.skip
                                          refine thenK_n ?_
                                          apply VC.seq
                                          apply VC.block
                                          have hc8 := UInt8.toNat_lt (s.getD k 0)
                                          have hv9 := val7_lt8 (wd s f k) (by rw [wd_len_eq s f k (by omega)]; omega)
                                          have hm9 : (s.getD k 0).toNat % 128 < 128 := Nat.mod_lt _ (by decide)
                                          apply VC.regLast ΦR8_ok; intro K' hK; dsimp only [List.take, List.drop, List.map, strip, stripG]; simp -implicitDefEqProofs only [go_sem, Nat.reduceLT, Nat.reduceAdd, Nat.reduceEqDiff, reduceIte, Nat.reduceMul, Nat.reduceSub, reduceCtorEq, Int.reduceNe, Int.reduceEq, ne_eq, Nat.reduceLeDiff, Nat.reduceMod, Nat.reduceDiv]
                                          (repeat' first | (refine hK _ ?_; clear hK K') | ((first | with_reducible refine runA_id ?_ | with_reducible refine goA_id ?_); (first | (simp only [sub_one_nat, List.drop_succ_cons, List.drop_zero, List.length_cons, numsD_take_len, numsD_len, Nat.add_comm 1, Nat.le_refl, if_true, List.take_succ_cons, List.take_length]; try simp -implicitDefEqProofs (disch := omega) only [bytesD_at, numsD_at, u64_in, i64_in]) | simp -implicitDefEqProofs (disch := omega) only [bytesD_at, numsD_at, u64_in, i64_in]); simp -implicitDefEqProofs only [go_sem, Nat.reduceLT, Nat.reduceAdd, Nat.reduceEqDiff, reduceIte, Nat.reduceMul, Nat.reduceSub, reduceCtorEq, Int.reduceNe, Int.reduceEq, ne_eq, Nat.reduceLeDiff, Nat.reduceMod, Nat.reduceDiv]) | with_reducible apply And.intro | (simp -implicitDefEqProofs (disch := omega) only [bytesD_at, numsD_at, u64_in, i64_in, List.length_cons, List.length_nil, Nat.reduceAdd]; done) | (simp only [maxLen]; omega) | omega | (simp only [numsD_len, List.length_append, List.length_cons, List.length_nil]; omega))
                                          all_goals
                                            refine blockK_n ?_
                                            refine thenK_n ?_
                                            apply VC.regLast ΦR8_ok; intro K' hK; dsimp only [List.take, List.drop, List.map, strip, stripG]; simp -implicitDefEqProofs only [go_sem, Nat.reduceLT, Nat.reduceAdd, Nat.reduceEqDiff, reduceIte, Nat.reduceMul, Nat.reduceSub, reduceCtorEq, Int.reduceNe, Int.reduceEq, ne_eq, Nat.reduceLeDiff, Nat.reduceMod, Nat.reduceDiv]
                                            (repeat' first | (refine hK _ ?_; clear hK K') | with_reducible apply And.intro | (simp -implicitDefEqProofs (disch := omega) only [bytesD_at, numsD_at, u64_in, i64_in, List.length_cons, List.length_nil, Nat.reduceAdd]; done) | (simp only [maxLen]; omega) | omega | (simp only [numsD_len, List.length_append, List.length_cons, List.length_nil]; omega))
                                            all_goals
                                              refine thenK_n ?_
                                              refine ⟨(k + 1), ?_, Ent.to rfl rfl rfl ?_ ?_, ?_⟩
                                              · exact ⟨by omega, by omega⟩
                                              · simp -implicitDefEqProofs only [go_sem, Nat.reduceLT, Nat.reduceAdd, Nat.reduceEqDiff, reduceIte, Nat.reduceMul, Nat.reduceSub, reduceCtorEq, Int.reduceNe, Int.reduceEq, ne_eq, Nat.reduceLeDiff, Nat.reduceMod, Nat.reduceDiv]; (try simp (disch := omega) only [i64_in, tmodn, tdivn]); rw [wd_succ s f k (by omega) hfk, val7_snoc]; (try simp (disch := omega) only [u8_in, u64_in, tmodn]); (try simp only [D.dat.injEq, Vm.Data.int.injEq, true_and, and_true, and_self, eq_self]); first | omega
                                              · simp -implicitDefEqProofs only [go_sem, Nat.reduceLT, Nat.reduceAdd, Nat.reduceEqDiff, reduceIte, Nat.reduceMul, Nat.reduceSub, reduceCtorEq, Int.reduceNe, Int.reduceEq, ne_eq, Nat.reduceLeDiff, Nat.reduceMod, Nat.reduceDiv]; (try simp (disch := omega) only [i64_in, tmodn, tdivn]); (try simp only [D.dat.injEq, Vm.Data.int.injEq, true_and, and_true, and_self, eq_self]); (try omega); (try ((repeat' apply And.intro) <;> first | omega | rfl))
                                              · omega
                                      · intro h; try exact absurd h (by decide)
                                        all_goals
                                          apply VC.exit
                                          refine thenK_e ?_
                                          refine thenK_e ?_
                                          refine blockK_e ?_
                                          refine thenK_n ?_
                                          apply VC.regt ΦR8_ok [0, 4, 6]; intro K' hK; dsimp only [List.take, List.drop, List.map, strip, stripG]; simp -implicitDefEqProofs only [go_sem, Nat.reduceLT, Nat.reduceAdd, Nat.reduceEqDiff, reduceIte, Nat.reduceMul, Nat.reduceSub, reduceCtorEq, Int.reduceNe, Int.reduceEq, ne_eq, Nat.reduceLeDiff, Nat.reduceMod, Nat.reduceDiv]
                                          (repeat' first | (refine hK _ ?_; clear hK K') | with_reducible apply And.intro | (simp -implicitDefEqProofs (disch := omega) only [bytesD_at, numsD_at, u64_in, i64_in, List.length_cons, List.length_nil, Nat.reduceAdd]; done) | (simp only [maxLen]; omega) | omega | (simp only [numsD_len, List.length_append, List.length_cons, List.length_nil]; omega))
                                          all_goals
                                            apply VC.at
                                            · simp -implicitDefEqProofs only [go_sem, Nat.reduceLT, Nat.reduceAdd, Nat.reduceEqDiff, reduceIte, Nat.reduceMul, Nat.reduceSub, reduceCtorEq, Int.reduceNe, Int.reduceEq, ne_eq, Nat.reduceLeDiff, Nat.reduceMod, Nat.reduceDiv]; (try simp (disch := omega) only [i64_in, tmodn, tdivn]); exact rfl
                                            apply VC.regLast ΦR8_ok; intro K' hK; dsimp only [List.take, List.drop, List.map, strip, stripG]; simp -implicitDefEqProofs only [go_sem, Nat.reduceLT, Nat.reduceAdd, Nat.reduceEqDiff, reduceIte, Nat.reduceMul, Nat.reduceSub, reduceCtorEq, Int.reduceNe, Int.reduceEq, ne_eq, Nat.reduceLeDiff, Nat.reduceMod, Nat.reduceDiv]
                                            (repeat' first | (refine hK _ ?_; clear hK K') | with_reducible apply And.intro | (simp -implicitDefEqProofs (disch := omega) only [bytesD_at, numsD_at, u64_in, i64_in, List.length_cons, List.length_nil, Nat.reduceAdd]; done) | (simp only [maxLen]; omega) | omega | (simp only [numsD_len, List.length_append, List.length_cons, List.length_nil]; omega))
                                            all_goals
                                              refine blockK_n ?_
                                              refine thenK_n ?_
                                              apply VC.regLast ΦR8_ok; intro K' hK; dsimp only [List.take, List.drop, List.map, strip, stripG]; simp -implicitDefEqProofs only [go_sem, Nat.reduceLT, Nat.reduceAdd, Nat.reduceEqDiff, reduceIte, Nat.reduceMul, Nat.reduceSub, reduceCtorEq, Int.reduceNe, Int.reduceEq, ne_eq, Nat.reduceLeDiff, Nat.reduceMod, Nat.reduceDiv]
                                              (repeat' first | (refine hK _ ?_; clear hK K') | with_reducible apply And.intro | (simp -implicitDefEqProofs (disch := omega) only [bytesD_at, numsD_at, u64_in, i64_in, List.length_cons, List.length_nil, Nat.reduceAdd]; done) | (simp only [maxLen]; omega) | omega | (simp only [numsD_len, List.length_append, List.length_cons, List.length_nil]; omega))
                                              all_goals
                                                refine thenK_n ?_
                                                first
                                                  | (refine ⟨(i + 1, f, all), ⟨by dsimp only; omega, by dsimp only; omega, by dsimp only; omega, ?_, hx⟩, Ent.to rfl rfl rfl (by simp -implicitDefEqProofs only [go_sem, Nat.reduceLT, Nat.reduceAdd, Nat.reduceEqDiff, reduceIte, Nat.reduceMul, Nat.reduceSub, reduceCtorEq, Int.reduceNe, Int.reduceEq, ne_eq, Nat.reduceLeDiff, Nat.reduceMod, Nat.reduceDiv]; (try simp (disch := omega) only [i64_in, tmodn, tdivn]); (try simp only [D.dat.injEq, Vm.Data.int.injEq, true_and, and_true, and_self, eq_self]); (try omega); (try ((repeat' apply And.intro) <;> first | omega | rfl))) (by (repeat' (first | exact all_nil | (refine all_cons ?_ ?_))) <;> (simp -implicitDefEqProofs only [go_sem, Nat.reduceLT, Nat.reduceAdd, Nat.reduceEqDiff, reduceIte, Nat.reduceMul, Nat.reduceSub, reduceCtorEq, Int.reduceNe, Int.reduceEq, ne_eq, Nat.reduceLeDiff, Nat.reduceMod, Nat.reduceDiv]; (try rfl); try rfl)), by dsimp only; omega⟩
                                                     dsimp only; rw [contR_skip s i f all (by omega) hf (by omega)]; exact hc)
                                                  | (obtain rfl : k = i + 1 := by omega
                                                     refine ⟨(i + 1, i + 1, all ++ [val7 (wd s f (i + 1))]), ⟨by dsimp only; omega, by dsimp only; omega, by simp only [List.length_append, List.length_cons, List.length_nil]; omega, ?_, ?_⟩, Ent.to rfl rfl rfl (by simp -implicitDefEqProofs only [go_sem, Nat.reduceLT, Nat.reduceAdd, Nat.reduceEqDiff, reduceIte, Nat.reduceMul, Nat.reduceSub, reduceCtorEq, Int.reduceNe, Int.reduceEq, ne_eq, Nat.reduceLeDiff, Nat.reduceMod, Nat.reduceDiv]; (try simp (disch := omega) only [i64_in, tmodn, tdivn]); (try simp only [List.length_append, List.length_cons, List.length_nil]); (try simp only [D.dat.injEq, Vm.Data.int.injEq, true_and, and_true, and_self, eq_self]); (try omega); (try ((repeat' apply And.intro) <;> first | omega | rfl))) (by (repeat' (first | exact all_nil | (refine all_cons ?_ ?_))) <;> (simp -implicitDefEqProofs only [go_sem, Nat.reduceLT, Nat.reduceAdd, Nat.reduceEqDiff, reduceIte, Nat.reduceMul, Nat.reduceSub, reduceCtorEq, Int.reduceNe, Int.reduceEq, ne_eq, Nat.reduceLeDiff, Nat.reduceMod, Nat.reduceDiv]; (try rfl); try (simp only [numsD_snoc]))), by dsimp only; omega⟩
                                                     · dsimp only; rw [contR_word s i f all (by omega) hf (by omega) (by omega)]; exact hc
                                                     · intro x hx'; simp only [List.mem_append, List.mem_singleton] at hx'; rcases hx' with hx' | rfl; exact hx x hx'; have := val7_lt9 (wd s f (i + 1)) (by rw [wd_len_eq s f (i + 1) (by omega)]; omega); omega)
              · intro h; try exact absurd h (by decide)
                all_goals
                  apply VC.exit
                  refine thenK_e ?_
                  refine thenK_e ?_
                  refine blockK_e ?_
                  refine thenK_n ?_
                  apply VC.seq
                  apply VC.regt ΦR8_ok [4, 63]; intro K' hK; dsimp only [List.take, List.drop, List.map, strip, stripG]; simp only [gtmp, List.getElem?_toArray, List.getElem?_cons_succ, List.getElem?_cons_zero, Option.bind_some]; simp -implicitDefEqProofs only [go_sem, Nat.reduceLT, Nat.reduceAdd, Nat.reduceEqDiff, reduceIte, Nat.reduceMul, Nat.reduceSub, reduceCtorEq, Int.reduceNe, Int.reduceEq, ne_eq, Nat.reduceLeDiff, Nat.reduceMod, Nat.reduceDiv]
                  (repeat' first | (refine hK _ ?_; clear hK K') | (first | apply goB_splitD | apply goA_splitD | apply goB_split | apply goA_split | apply goA_all) <;> intro _ <;> simp -implicitDefEqProofs only [go_sem, Nat.reduceLT, Nat.reduceAdd, Nat.reduceEqDiff, reduceIte, Nat.reduceMul, Nat.reduceSub, reduceCtorEq, Int.reduceNe, Int.reduceEq, ne_eq, Nat.reduceLeDiff, Nat.reduceMod, Nat.reduceDiv] | with_reducible apply And.intro | (simp -implicitDefEqProofs (disch := omega) only [bytesD_at, numsD_at, u64_in, i64_in, List.length_cons, List.length_nil, Nat.reduceAdd]; done) | (simp only [maxLen]; omega) | omega | (simp only [numsD_len, List.length_append, List.length_cons, List.length_nil]; omega))
                  all_goals
                    apply VC.at
                    · simp -implicitDefEqProofs only [go_sem, Nat.reduceLT, Nat.reduceAdd, Nat.reduceEqDiff, reduceIte, Nat.reduceMul, Nat.reduceSub, reduceCtorEq, Int.reduceNe, Int.reduceEq, ne_eq, Nat.reduceLeDiff, Nat.reduceMod, Nat.reduceDiv]; (try simp (disch := omega) only [i64_in, tmodn, tdivn]); exact rfl
                    first | (apply VC.condd; (focus (simp -implicitDefEqProofs only [go_sem, Nat.reduceLT, Nat.reduceAdd, Nat.reduceEqDiff, reduceIte, Nat.reduceMul, Nat.reduceSub, reduceCtorEq, Int.reduceNe, Int.reduceEq, ne_eq, Nat.reduceLeDiff, Nat.reduceMod, Nat.reduceDiv]; with_reducible exact rfl))) | (apply VC.condn; (focus (simp -implicitDefEqProofs only [go_sem, Nat.reduceLT, Nat.reduceAdd, Nat.reduceEqDiff, reduceIte, Nat.reduceMul, Nat.reduceSub, reduceCtorEq, Int.reduceNe, Int.reduceEq, ne_eq, Nat.reduceLeDiff, Nat.reduceMod, Nat.reduceDiv]; with_reducible exact rfl))) | (apply VC.condt; (focus (simp -implicitDefEqProofs only [go_sem, Nat.reduceLT, Nat.reduceAdd, Nat.reduceEqDiff, reduceIte, Nat.reduceMul, Nat.reduceSub, reduceCtorEq, Int.reduceNe, Int.reduceEq, ne_eq, Nat.reduceLeDiff, Nat.reduceMod, Nat.reduceDiv]; with_reducible exact rfl))) | (apply VC.condb; (focus (simp -implicitDefEqProofs only [go_sem, Nat.reduceLT, Nat.reduceAdd, Nat.reduceEqDiff, reduceIte, Nat.reduceMul, Nat.reduceSub, reduceCtorEq, Int.reduceNe, Int.reduceEq, ne_eq, Nat.reduceLeDiff, Nat.reduceMod, Nat.reduceDiv]; exact rfl)))
                    · intro h; try exact absurd h (by decide)
                      all_goals
                        apply VC.regt ΦR8_ok [2, 3]; intro K' hK; dsimp only [List.take, List.drop, List.map, strip, stripG]; simp -implicitDefEqProofs only [go_sem, Nat.reduceLT, Nat.reduceAdd, Nat.reduceEqDiff, reduceIte, Nat.reduceMul, Nat.reduceSub, reduceCtorEq, Int.reduceNe, Int.reduceEq, ne_eq, Nat.reduceLeDiff, Nat.reduceMod, Nat.reduceDiv]
                        (repeat' first | (refine hK _ ?_; clear hK K') | with_reducible apply And.intro | (simp -implicitDefEqProofs (disch := omega) only [bytesD_at, numsD_at, u64_in, i64_in, List.length_cons, List.length_nil, Nat.reduceAdd]; done) | (simp only [maxLen]; omega) | omega | (simp only [numsD_len, List.length_append, List.length_cons, List.length_nil]; omega))
                        all_goals
                          apply VC.at
                          · simp -implicitDefEqProofs only [go_sem, Nat.reduceLT, Nat.reduceAdd, Nat.reduceEqDiff, reduceIte, Nat.reduceMul, Nat.reduceSub, reduceCtorEq, Int.reduceNe, Int.reduceEq, ne_eq, Nat.reduceLeDiff, Nat.reduceMod, Nat.reduceDiv]; (try simp (disch := omega) only [i64_in, tmodn, tdivn]); exact rfl
                          apply VC.ret
                          refine thenK_r ?_
                          simp -implicitDefEqProofs only [go_sem, Nat.reduceLT, Nat.reduceAdd, Nat.reduceEqDiff, reduceIte, Nat.reduceMul, Nat.reduceSub, reduceCtorEq, Int.reduceNe, Int.reduceEq, ne_eq, Nat.reduceLeDiff, Nat.reduceMod, Nat.reduceDiv]
                          all_goals (first | (have hb := contR_bad s i f all (by omega) hf (by omega) (by omega); rw [readR_none (hc ▸ hb)]; rfl) | (have ee := contR_end s i f all (by omega); rw [if_neg (by omega), hc] at ee; rw [readR_none ee]; rfl) | (have ee := contR_end s i f all (by omega); rw [if_pos (by omega), hc, List.eq_nil_of_length_eq_zero (show all.length = 0 by omega)] at ee; rw [readR_nil ee]; rfl) | (rw [readR_no ee h]; rfl) | (rw [readR_yes ee h]; rfl))
                    · intro h; try exact absurd h (by decide)
                      all_goals
                        apply VC.skip
                        refine thenK_n ?_
                        have ee := contR_end s i f all (by omega)
                        rw [if_pos (by omega), hc] at ee
                        obtain ⟨x, r, rfl⟩ : ∃ x r, all = x :: r := List.exists_cons_of_length_pos (by omega)
                        have hx1 := hx x (by simp)
                        simp only [numsD_cons, List.length_cons] at *
                        apply VC.regt ΦR8_ok [4, 9]; intro K' hK; dsimp only [List.take, List.drop, List.map, strip, stripG]; simp -implicitDefEqProofs only [go_sem, Nat.reduceLT, Nat.reduceAdd, Nat.reduceEqDiff, reduceIte, Nat.reduceMul, Nat.reduceSub, reduceCtorEq, Int.reduceNe, Int.reduceEq, ne_eq, Nat.reduceLeDiff, Nat.reduceMod, Nat.reduceDiv]
                        (repeat' first | (refine hK _ ?_; clear hK K') | with_reducible apply And.intro | (simp -implicitDefEqProofs (disch := omega) only [bytesD_at, numsD_at, u64_in, i64_in, List.length_cons, List.length_nil, Nat.reduceAdd]; done) | (simp only [maxLen]; omega) | omega | (simp only [numsD_len, List.length_append, List.length_cons, List.length_nil]; omega))
                        all_goals
                          apply VC.at
                          · simp -implicitDefEqProofs only [go_sem, Nat.reduceLT, Nat.reduceAdd, Nat.reduceEqDiff, reduceIte, Nat.reduceMul, Nat.reduceSub, reduceCtorEq, Int.reduceNe, Int.reduceEq, ne_eq, Nat.reduceLeDiff, Nat.reduceMod, Nat.reduceDiv]; (try simp (disch := omega) only [i64_in, tmodn, tdivn]); exact rfl
                          refine VC.cutP (ι := Unit) [0] (fun i => [(9, .dat (.int .u64 ((rfst x : Nat) : Int))), (4, .sl 1 0 (r.length + 1))]) (fun _ => [(1, .arr 36 1 (numsD (x :: r)) 0)]) (fun i => True) ?_ ?_
                          · apply VC.regt ΦR8_ok [4, 9, 67]; intro K' hK; dsimp only [List.take, List.drop, List.map, strip, stripG]; simp -implicitDefEqProofs only [go_sem, Nat.reduceLT, Nat.reduceAdd, Nat.reduceEqDiff, reduceIte, Nat.reduceMul, Nat.reduceSub, reduceCtorEq, Int.reduceNe, Int.reduceEq, ne_eq, Nat.reduceLeDiff, Nat.reduceMod, Nat.reduceDiv]
                            (repeat' first | (refine hK _ ?_; clear hK K') | ((first | with_reducible refine runA_id ?_ | with_reducible refine goA_id ?_); (first | (simp only [sub_one_nat, List.drop_succ_cons, List.drop_zero, List.length_cons, numsD_take_len, numsD_len, Nat.add_comm 1, Nat.le_refl, if_true, List.take_succ_cons, List.take_length]; try simp -implicitDefEqProofs (disch := omega) only [bytesD_at, numsD_at, u64_in, i64_in]) | simp -implicitDefEqProofs (disch := omega) only [bytesD_at, numsD_at, u64_in, i64_in]); simp -implicitDefEqProofs only [go_sem, Nat.reduceLT, Nat.reduceAdd, Nat.reduceEqDiff, reduceIte, Nat.reduceMul, Nat.reduceSub, reduceCtorEq, Int.reduceNe, Int.reduceEq, ne_eq, Nat.reduceLeDiff, Nat.reduceMod, Nat.reduceDiv]) | with_reducible apply And.intro | (simp -implicitDefEqProofs (disch := omega) only [bytesD_at, numsD_at, u64_in, i64_in, List.length_cons, List.length_nil, Nat.reduceAdd]; done) | (simp only [maxLen]; omega) | omega | (simp only [numsD_len, List.length_append, List.length_cons, List.length_nil]; omega))
                            all_goals
                              apply VC.at
                              · simp -implicitDefEqProofs only [go_sem, Nat.reduceLT, Nat.reduceAdd, Nat.reduceEqDiff, reduceIte, Nat.reduceMul, Nat.reduceSub, reduceCtorEq, Int.reduceNe, Int.reduceEq, ne_eq, Nat.reduceLeDiff, Nat.reduceMod, Nat.reduceDiv]; (try simp (disch := omega) only [i64_in, tmodn, tdivn]); exact rfl
                              first | (apply VC.condd; (focus (simp -implicitDefEqProofs only [go_sem, Nat.reduceLT, Nat.reduceAdd, Nat.reduceEqDiff, reduceIte, Nat.reduceMul, Nat.reduceSub, reduceCtorEq, Int.reduceNe, Int.reduceEq, ne_eq, Nat.reduceLeDiff, Nat.reduceMod, Nat.reduceDiv]; with_reducible exact rfl))) | (apply VC.condn; (focus (simp -implicitDefEqProofs only [go_sem, Nat.reduceLT, Nat.reduceAdd, Nat.reduceEqDiff, reduceIte, Nat.reduceMul, Nat.reduceSub, reduceCtorEq, Int.reduceNe, Int.reduceEq, ne_eq, Nat.reduceLeDiff, Nat.reduceMod, Nat.reduceDiv]; with_reducible exact rfl))) | (apply VC.condt; (focus (simp -implicitDefEqProofs only [go_sem, Nat.reduceLT, Nat.reduceAdd, Nat.reduceEqDiff, reduceIte, Nat.reduceMul, Nat.reduceSub, reduceCtorEq, Int.reduceNe, Int.reduceEq, ne_eq, Nat.reduceLeDiff, Nat.reduceMod, Nat.reduceDiv]; with_reducible exact rfl))) | (apply VC.condb; (focus (simp -implicitDefEqProofs only [go_sem, Nat.reduceLT, Nat.reduceAdd, Nat.reduceEqDiff, reduceIte, Nat.reduceMul, Nat.reduceSub, reduceCtorEq, Int.reduceNe, Int.reduceEq, ne_eq, Nat.reduceLeDiff, Nat.reduceMod, Nat.reduceDiv]; exact rfl)))
                              · intro h; try exact absurd h (by decide)
                                all_goals
                                  apply VC.regLast ΦR8_ok; intro K' hK; dsimp only [List.take, List.drop, List.map, strip, stripG]; simp -implicitDefEqProofs only [go_sem, Nat.reduceLT, Nat.reduceAdd, Nat.reduceEqDiff, reduceIte, Nat.reduceMul, Nat.reduceSub, reduceCtorEq, Int.reduceNe, Int.reduceEq, ne_eq, Nat.reduceLeDiff, Nat.reduceMod, Nat.reduceDiv]
                                  (repeat' first | (refine hK _ ?_; clear hK K') | ((first | with_reducible refine runA_id ?_ | with_reducible refine goA_id ?_); (first | (simp only [sub_one_nat, List.drop_succ_cons, List.drop_zero, List.length_cons, numsD_take_len, numsD_len, Nat.add_comm 1, Nat.le_refl, if_true, List.take_succ_cons, List.take_length]; try simp -implicitDefEqProofs (disch := omega) only [bytesD_at, numsD_at, u64_in, i64_in]) | simp -implicitDefEqProofs (disch := omega) only [bytesD_at, numsD_at, u64_in, i64_in]); simp -implicitDefEqProofs only [go_sem, Nat.reduceLT, Nat.reduceAdd, Nat.reduceEqDiff, reduceIte, Nat.reduceMul, Nat.reduceSub, reduceCtorEq, Int.reduceNe, Int.reduceEq, ne_eq, Nat.reduceLeDiff, Nat.reduceMod, Nat.reduceDiv]) | with_reducible apply And.intro | (simp -implicitDefEqProofs (disch := omega) only [bytesD_at, numsD_at, u64_in, i64_in, List.length_cons, List.length_nil, Nat.reduceAdd]; done) | (simp only [maxLen]; omega) | omega | (simp only [numsD_len, List.length_append, List.length_cons, List.length_nil]; omega))
                                  all_goals
                                    refine thenK_n ?_
                                    refine ⟨(), trivial, Ent.to rfl rfl rfl (by simp -implicitDefEqProofs only [go_sem, Nat.reduceLT, Nat.reduceAdd, Nat.reduceEqDiff, reduceIte, Nat.reduceMul, Nat.reduceSub, reduceCtorEq, Int.reduceNe, Int.reduceEq, ne_eq, Nat.reduceLeDiff, Nat.reduceMod, Nat.reduceDiv]; (try simp (disch := omega) only [i64_in, tmodn, tdivn]); (try simp (disch := omega) only [u64_in]); first | (rw [show rfst x = x / 40 from if_pos (by omega)]; (try simp only [D.dat.injEq, Vm.Data.int.injEq, true_and, and_true, and_self, eq_self]); (try omega); (try ((repeat' apply And.intro) <;> first | omega | rfl))) | (rw [show rfst x = 2 from if_neg (by omega)]; (try simp only [D.dat.injEq, Vm.Data.int.injEq, true_and, and_true, and_self, eq_self]); (try omega); (try ((repeat' apply And.intro) <;> first | omega | rfl)))) (by (repeat' (first | exact all_nil | (refine all_cons ?_ ?_))) <;> (simp -implicitDefEqProofs only [go_sem, Nat.reduceLT, Nat.reduceAdd, Nat.reduceEqDiff, reduceIte, Nat.reduceMul, Nat.reduceSub, reduceCtorEq, Int.reduceNe, Int.reduceEq, ne_eq, Nat.reduceLeDiff, Nat.reduceMod, Nat.reduceDiv]; (try rfl); try rfl))⟩
                              · intro h; try exact absurd h (by decide)
                                all_goals
                                  apply VC.skip
                                  refine thenK_n ?_
                                  refine ⟨(), trivial, Ent.to rfl rfl rfl (by simp -implicitDefEqProofs only [go_sem, Nat.reduceLT, Nat.reduceAdd, Nat.reduceEqDiff, reduceIte, Nat.reduceMul, Nat.reduceSub, reduceCtorEq, Int.reduceNe, Int.reduceEq, ne_eq, Nat.reduceLeDiff, Nat.reduceMod, Nat.reduceDiv]; (try simp (disch := omega) only [i64_in, tmodn, tdivn]); (try simp (disch := omega) only [u64_in]); first | (rw [show rfst x = x / 40 from if_pos (by omega)]; (try simp only [D.dat.injEq, Vm.Data.int.injEq, true_and, and_true, and_self, eq_self]); (try omega); (try ((repeat' apply And.intro) <;> first | omega | rfl))) | (rw [show rfst x = 2 from if_neg (by omega)]; (try simp only [D.dat.injEq, Vm.Data.int.injEq, true_and, and_true, and_self, eq_self]); (try omega); (try ((repeat' apply And.intro) <;> first | omega | rfl)))) (by (repeat' (first | exact all_nil | (refine all_cons ?_ ?_))) <;> (simp -implicitDefEqProofs only [go_sem, Nat.reduceLT, Nat.reduceAdd, Nat.reduceEqDiff, reduceIte, Nat.reduceMul, Nat.reduceSub, reduceCtorEq, Int.reduceNe, Int.reduceEq, ne_eq, Nat.reduceLeDiff, Nat.reduceMod, Nat.reduceDiv]; (try rfl); try rfl))⟩
                          rintro ⟨⟩ -
                          apply VC.at
                          · simp -implicitDefEqProofs only [go_sem, Nat.reduceLT, Nat.reduceAdd, Nat.reduceEqDiff, reduceIte, Nat.reduceMul, Nat.reduceSub, reduceCtorEq, Int.reduceNe, Int.reduceEq, ne_eq, Nat.reduceLeDiff, Nat.reduceMod, Nat.reduceDiv]; (try simp (disch := omega) only [i64_in, tmodn, tdivn]); exact rfl
                          simp only [numsD_cons] at *
                          apply VC.regt ΦR8_ok [4, 10]; intro K' hK; dsimp only [List.take, List.drop, List.map, strip, stripG]; simp -implicitDefEqProofs only [go_sem, Nat.reduceLT, Nat.reduceAdd, Nat.reduceEqDiff, reduceIte, Nat.reduceMul, Nat.reduceSub, reduceCtorEq, Int.reduceNe, Int.reduceEq, ne_eq, Nat.reduceLeDiff, Nat.reduceMod, Nat.reduceDiv]
                          (repeat' first | (refine hK _ ?_; clear hK K') | ((first | with_reducible refine runA_id ?_ | with_reducible refine goA_id ?_); (first | (simp only [sub_one_nat, List.drop_succ_cons, List.drop_zero, List.length_cons, numsD_take_len, numsD_len, Nat.add_comm 1, Nat.le_refl, if_true, List.take_succ_cons, List.take_length]; try simp -implicitDefEqProofs (disch := omega) only [bytesD_at, numsD_at, u64_in, i64_in]) | simp -implicitDefEqProofs (disch := omega) only [bytesD_at, numsD_at, u64_in, i64_in]); simp -implicitDefEqProofs only [go_sem, Nat.reduceLT, Nat.reduceAdd, Nat.reduceEqDiff, reduceIte, Nat.reduceMul, Nat.reduceSub, reduceCtorEq, Int.reduceNe, Int.reduceEq, ne_eq, Nat.reduceLeDiff, Nat.reduceMod, Nat.reduceDiv]) | with_reducible apply And.intro | (simp -implicitDefEqProofs (disch := omega) only [bytesD_at, numsD_at, u64_in, i64_in, List.length_cons, List.length_nil, Nat.reduceAdd]; done) | (simp only [maxLen]; omega) | omega | (simp only [numsD_len, List.length_append, List.length_cons, List.length_nil]; omega))
                          all_goals
                            apply VC.at
                            · simp -implicitDefEqProofs only [go_sem, Nat.reduceLT, Nat.reduceAdd, Nat.reduceEqDiff, reduceIte, Nat.reduceMul, Nat.reduceSub, reduceCtorEq, Int.reduceNe, Int.reduceEq, ne_eq, Nat.reduceLeDiff, Nat.reduceMod, Nat.reduceDiv]; (try simp (disch := omega) only [i64_in, tmodn, tdivn]); (try simp only [rsub40 x hx1, nums_two]); exact rfl
                            apply VC.regt ΦR8_ok [10]; intro K' hK; dsimp only [List.take, List.drop, List.map, strip, stripG]; simp -implicitDefEqProofs only [go_sem, Nat.reduceLT, Nat.reduceAdd, Nat.reduceEqDiff, reduceIte, Nat.reduceMul, Nat.reduceSub, reduceCtorEq, Int.reduceNe, Int.reduceEq, ne_eq, Nat.reduceLeDiff, Nat.reduceMod, Nat.reduceDiv]
                            (repeat' first | (refine hK _ ?_; clear hK K') | ((first | with_reducible refine runA_id ?_ | with_reducible refine goA_id ?_); (first | (simp only [sub_one_nat, List.drop_succ_cons, List.drop_zero, List.length_cons, numsD_take_len, numsD_len, Nat.add_comm 1, Nat.le_refl, if_true, List.take_succ_cons, List.take_length]; try simp -implicitDefEqProofs (disch := omega) only [bytesD_at, numsD_at, u64_in, i64_in]) | simp -implicitDefEqProofs (disch := omega) only [bytesD_at, numsD_at, u64_in, i64_in]); simp -implicitDefEqProofs only [go_sem, Nat.reduceLT, Nat.reduceAdd, Nat.reduceEqDiff, reduceIte, Nat.reduceMul, Nat.reduceSub, reduceCtorEq, Int.reduceNe, Int.reduceEq, ne_eq, Nat.reduceLeDiff, Nat.reduceMod, Nat.reduceDiv]) | with_reducible apply And.intro | (simp -implicitDefEqProofs (disch := omega) only [bytesD_at, numsD_at, u64_in, i64_in, List.length_cons, List.length_nil, Nat.reduceAdd]; done) | (simp only [maxLen]; omega) | omega | (simp only [numsD_len, List.length_append, List.length_cons, List.length_nil]; omega))
                            all_goals
                              apply VC.at
                              · simp -implicitDefEqProofs only [go_sem, Nat.reduceLT, Nat.reduceAdd, Nat.reduceEqDiff, reduceIte, Nat.reduceMul, Nat.reduceSub, reduceCtorEq, Int.reduceNe, Int.reduceEq, ne_eq, Nat.reduceLeDiff, Nat.reduceMod, Nat.reduceDiv]; (try simp (disch := omega) only [i64_in, tmodn, tdivn]); (try simp only [show 2 + r.length = r.length + 1 + 1 by omega]); exact rfl
                              apply VC.regt ΦR8_ok [10, 11]; intro K' hK; dsimp only [List.take, List.drop, List.map, strip, stripG]; simp -implicitDefEqProofs only [go_sem, Nat.reduceLT, Nat.reduceAdd, Nat.reduceEqDiff, reduceIte, Nat.reduceMul, Nat.reduceSub, reduceCtorEq, Int.reduceNe, Int.reduceEq, ne_eq, Nat.reduceLeDiff, Nat.reduceMod, Nat.reduceDiv]
                              (repeat' first | (refine hK _ ?_; clear hK K') | ((first | with_reducible refine runA_id ?_ | with_reducible refine goA_id ?_); (first | (simp only [sub_one_nat, List.drop_succ_cons, List.drop_zero, List.length_cons, numsD_take_len, numsD_len, Nat.add_comm 1, Nat.le_refl, if_true, List.take_succ_cons, List.take_length]; try simp -implicitDefEqProofs (disch := omega) only [bytesD_at, numsD_at, u64_in, i64_in]) | simp -implicitDefEqProofs (disch := omega) only [bytesD_at, numsD_at, u64_in, i64_in]); simp -implicitDefEqProofs only [go_sem, Nat.reduceLT, Nat.reduceAdd, Nat.reduceEqDiff, reduceIte, Nat.reduceMul, Nat.reduceSub, reduceCtorEq, Int.reduceNe, Int.reduceEq, ne_eq, Nat.reduceLeDiff, Nat.reduceMod, Nat.reduceDiv]) | with_reducible apply And.intro | (simp -implicitDefEqProofs (disch := omega) only [bytesD_at, numsD_at, u64_in, i64_in, List.length_cons, List.length_nil, Nat.reduceAdd]; done) | (simp only [maxLen]; omega) | omega | (simp only [numsD_len, List.length_append, List.length_cons, List.length_nil]; omega))
                              all_goals
                                apply VC.at
                                · simp -implicitDefEqProofs only [go_sem, Nat.reduceLT, Nat.reduceAdd, Nat.reduceEqDiff, reduceIte, Nat.reduceMul, Nat.reduceSub, reduceCtorEq, Int.reduceNe, Int.reduceEq, ne_eq, Nat.reduceLeDiff, Nat.reduceMod, Nat.reduceDiv]; (try simp (disch := omega) only [i64_in, tmodn, tdivn]); exact rfl
                                apply VC.seq
                                apply VC.regt ΦR8_ok [10, 87]; intro K' hK; dsimp only [List.take, List.drop, List.map, strip, stripG]; simp -implicitDefEqProofs only [go_sem, Nat.reduceLT, Nat.reduceAdd, Nat.reduceEqDiff, reduceIte, Nat.reduceMul, Nat.reduceSub, reduceCtorEq, Int.reduceNe, Int.reduceEq, ne_eq, Nat.reduceLeDiff, Nat.reduceMod, Nat.reduceDiv]
                                (repeat' first | (refine hK _ ?_; clear hK K') | with_reducible apply And.intro | (simp -implicitDefEqProofs (disch := omega) only [bytesD_at, numsD_at, u64_in, i64_in, List.length_cons, List.length_nil, Nat.reduceAdd]; done) | (simp only [maxLen]; omega) | omega | (simp only [numsD_len, List.length_append, List.length_cons, List.length_nil]; omega))
                                all_goals
                                  apply VC.at
                                  · simp -implicitDefEqProofs only [go_sem, Nat.reduceLT, Nat.reduceAdd, Nat.reduceEqDiff, reduceIte, Nat.reduceMul, Nat.reduceSub, reduceCtorEq, Int.reduceNe, Int.reduceEq, ne_eq, Nat.reduceLeDiff, Nat.reduceMod, Nat.reduceDiv]; (try simp (disch := omega) only [i64_in, tmodn, tdivn]); exact rfl
                                  first | (apply VC.condd; (focus (simp -implicitDefEqProofs only [go_sem, Nat.reduceLT, Nat.reduceAdd, Nat.reduceEqDiff, reduceIte, Nat.reduceMul, Nat.reduceSub, reduceCtorEq, Int.reduceNe, Int.reduceEq, ne_eq, Nat.reduceLeDiff, Nat.reduceMod, Nat.reduceDiv]; with_reducible exact rfl))) | (apply VC.condn; (focus (simp -implicitDefEqProofs only [go_sem, Nat.reduceLT, Nat.reduceAdd, Nat.reduceEqDiff, reduceIte, Nat.reduceMul, Nat.reduceSub, reduceCtorEq, Int.reduceNe, Int.reduceEq, ne_eq, Nat.reduceLeDiff, Nat.reduceMod, Nat.reduceDiv]; with_reducible exact rfl))) | (apply VC.condt; (focus (simp -implicitDefEqProofs only [go_sem, Nat.reduceLT, Nat.reduceAdd, Nat.reduceEqDiff, reduceIte, Nat.reduceMul, Nat.reduceSub, reduceCtorEq, Int.reduceNe, Int.reduceEq, ne_eq, Nat.reduceLeDiff, Nat.reduceMod, Nat.reduceDiv]; with_reducible exact rfl))) | (apply VC.condb; (focus (simp -implicitDefEqProofs only [go_sem, Nat.reduceLT, Nat.reduceAdd, Nat.reduceEqDiff, reduceIte, Nat.reduceMul, Nat.reduceSub, reduceCtorEq, Int.reduceNe, Int.reduceEq, ne_eq, Nat.reduceLeDiff, Nat.reduceMod, Nat.reduceDiv]; exact rfl)))
                                  · intro h; try exact absurd h (by decide)
                                    all_goals
                                      apply VC.regt ΦR8_ok [2, 3]; intro K' hK; dsimp only [List.take, List.drop, List.map, strip, stripG]; simp -implicitDefEqProofs only [go_sem, Nat.reduceLT, Nat.reduceAdd, Nat.reduceEqDiff, reduceIte, Nat.reduceMul, Nat.reduceSub, reduceCtorEq, Int.reduceNe, Int.reduceEq, ne_eq, Nat.reduceLeDiff, Nat.reduceMod, Nat.reduceDiv]
                                      (repeat' first | (refine hK _ ?_; clear hK K') | with_reducible apply And.intro | (simp -implicitDefEqProofs (disch := omega) only [bytesD_at, numsD_at, u64_in, i64_in, List.length_cons, List.length_nil, Nat.reduceAdd]; done) | (simp only [maxLen]; omega) | omega | (simp only [numsD_len, List.length_append, List.length_cons, List.length_nil]; omega))
                                      all_goals
                                        apply VC.at
                                        · simp -implicitDefEqProofs only [go_sem, Nat.reduceLT, Nat.reduceAdd, Nat.reduceEqDiff, reduceIte, Nat.reduceMul, Nat.reduceSub, reduceCtorEq, Int.reduceNe, Int.reduceEq, ne_eq, Nat.reduceLeDiff, Nat.reduceMod, Nat.reduceDiv]; (try simp (disch := omega) only [i64_in, tmodn, tdivn]); exact rfl
                                        apply VC.ret
                                        refine thenK_r ?_
                                        simp -implicitDefEqProofs only [go_sem, Nat.reduceLT, Nat.reduceAdd, Nat.reduceEqDiff, reduceIte, Nat.reduceMul, Nat.reduceSub, reduceCtorEq, Int.reduceNe, Int.reduceEq, ne_eq, Nat.reduceLeDiff, Nat.reduceMod, Nat.reduceDiv]
                                        all_goals (first | (have hb := contR_bad s i f all (by omega) hf (by omega) (by omega); rw [readR_none (hc ▸ hb)]; rfl) | (have ee := contR_end s i f all (by omega); rw [if_neg (by omega), hc] at ee; rw [readR_none ee]; rfl) | (have ee := contR_end s i f all (by omega); rw [if_pos (by omega), hc, List.eq_nil_of_length_eq_zero (show all.length = 0 by omega)] at ee; rw [readR_nil ee]; rfl) | (rw [readR_no ee h]; rfl) | (rw [readR_yes ee h]; rfl))
                                  · intro h; try exact absurd h (by decide)
                                    all_goals
                                      apply VC.skip
                                      refine thenK_n ?_
                                      apply VC.regt ΦR8_ok [2, 3]; intro K' hK; dsimp only [List.take, List.drop, List.map, strip, stripG]; simp -implicitDefEqProofs only [go_sem, Nat.reduceLT, Nat.reduceAdd, Nat.reduceEqDiff, reduceIte, Nat.reduceMul, Nat.reduceSub, reduceCtorEq, Int.reduceNe, Int.reduceEq, ne_eq, Nat.reduceLeDiff, Nat.reduceMod, Nat.reduceDiv]
                                      (repeat' first | (refine hK _ ?_; clear hK K') | with_reducible apply And.intro | (simp -implicitDefEqProofs (disch := omega) only [bytesD_at, numsD_at, u64_in, i64_in, List.length_cons, List.length_nil, Nat.reduceAdd]; done) | (simp only [maxLen]; omega) | omega | (simp only [numsD_len, List.length_append, List.length_cons, List.length_nil]; omega))
                                      all_goals
                                        apply VC.at
                                        · simp -implicitDefEqProofs only [go_sem, Nat.reduceLT, Nat.reduceAdd, Nat.reduceEqDiff, reduceIte, Nat.reduceMul, Nat.reduceSub, reduceCtorEq, Int.reduceNe, Int.reduceEq, ne_eq, Nat.reduceLeDiff, Nat.reduceMod, Nat.reduceDiv]; (try simp (disch := omega) only [i64_in, tmodn, tdivn]); exact rfl
                                        apply VC.ret
                                        simp -implicitDefEqProofs only [go_sem, Nat.reduceLT, Nat.reduceAdd, Nat.reduceEqDiff, reduceIte, Nat.reduceMul, Nat.reduceSub, reduceCtorEq, Int.reduceNe, Int.reduceEq, ne_eq, Nat.reduceLeDiff, Nat.reduceMod, Nat.reduceDiv]
                                        all_goals (first | (have hb := contR_bad s i f all (by omega) hf (by omega) (by omega); rw [readR_none (hc ▸ hb)]; rfl) | (have ee := contR_end s i f all (by omega); rw [if_neg (by omega), hc] at ee; rw [readR_none ee]; rfl) | (have ee := contR_end s i f all (by omega); rw [if_pos (by omega), hc, List.eq_nil_of_length_eq_zero (show all.length = 0 by omega)] at ee; rw [readR_nil ee]; rfl) | (rw [readR_no ee h]; rfl) | (rw [readR_yes ee h]; rfl))
end Go.Proofs.YtgfadocohpinmaaDoor.Oa
namespace Go.Proofs.YtgfadocohpinmaaDoor.Oa
open Go Go.RowKit Go.Proofs.YtgfadocohpinmaaDoor.Vm Go.IntWalk
set_option maxRecDepth 100000
set_option maxHeartbeats 4000000
/-- The known names, each with its text behind it. -/
def knownL : List (List UInt8) := [[115, 104, 97, 50, 50, 52], [50, 46, 49, 54, 46, 56, 52, 48, 46, 49, 46, 49, 48, 49, 46, 51, 46, 52, 46, 50, 46, 52], [115, 104, 97, 50, 53, 54], [50, 46, 49, 54, 46, 56, 52, 48, 46, 49, 46, 49, 48, 49, 46, 51, 46, 52, 46, 50, 46, 49], [115, 104, 97, 51, 56, 52], [50, 46, 49, 54, 46, 56, 52, 48, 46, 49, 46, 49, 48, 49, 46, 51, 46, 52, 46, 50, 46, 50], [115, 104, 97, 53, 49, 50], [50, 46, 49, 54, 46, 56, 52, 48, 46, 49, 46, 49, 48, 49, 46, 51, 46, 52, 46, 50, 46, 51], [114, 115, 97], [49, 46, 50, 46, 56, 52, 48, 46, 49, 49, 51, 53, 52, 57, 46, 49, 46, 49, 46, 49], [109, 103, 102, 49], [49, 46, 50, 46, 56, 52, 48, 46, 49, 49, 51, 53, 52, 57, 46, 49, 46, 49, 46, 56], [112, 115, 115], [49, 46, 50, 46, 56, 52, 48, 46, 49, 49, 51, 53, 52, 57, 46, 49, 46, 49, 46, 49, 48], [114, 115, 97, 50, 50, 52], [49, 46, 50, 46, 56, 52, 48, 46, 49, 49, 51, 53, 52, 57, 46, 49, 46, 49, 46, 49, 52], [114, 115, 97, 50, 53, 54], [49, 46, 50, 46, 56, 52, 48, 46, 49, 49, 51, 53, 52, 57, 46, 49, 46, 49, 46, 49, 49], [114, 115, 97, 51, 56, 52], [49, 46, 50, 46, 56, 52, 48, 46, 49, 49, 51, 53, 52, 57, 46, 49, 46, 49, 46, 49, 50], [114, 115, 97, 53, 49, 50], [49, 46, 50, 46, 56, 52, 48, 46, 49, 49, 51, 53, 52, 57, 46, 49, 46, 49, 46, 49, 51], [100, 97, 116, 97], [49, 46, 50, 46, 56, 52, 48, 46, 49, 49, 51, 53, 52, 57, 46, 49, 46, 55, 46, 49], [115, 105, 103, 110, 101, 100], [49, 46, 50, 46, 56, 52, 48, 46, 49, 49, 51, 53, 52, 57, 46, 49, 46, 55, 46, 50], [99, 111, 110, 116, 101, 110, 116, 84, 121, 112, 101], [49, 46, 50, 46, 56, 52, 48, 46, 49, 49, 51, 53, 52, 57, 46, 49, 46, 57, 46, 51], [109, 101, 115, 115, 97, 103, 101, 68, 105, 103, 101, 115, 116], [49, 46, 50, 46, 56, 52, 48, 46, 49, 49, 51, 53, 52, 57, 46, 49, 46, 57, 46, 52], [115, 105, 103, 110, 105, 110, 103, 84, 105, 109, 101], [49, 46, 50, 46, 56, 52, 48, 46, 49, 49, 51, 53, 52, 57, 46, 49, 46, 57, 46, 53], [99, 111, 117, 110, 116, 101, 114, 115, 105, 103, 110, 97, 116, 117, 114, 101], [49, 46, 50, 46, 56, 52, 48, 46, 49, 49, 51, 53, 52, 57, 46, 49, 46, 57, 46, 54], [116, 115, 116, 73, 110, 102, 111], [49, 46, 50, 46, 56, 52, 48, 46, 49, 49, 51, 53, 52, 57, 46, 49, 46, 57, 46, 49, 54, 46, 49, 46, 52], [115, 105, 103, 110, 105, 110, 103, 67, 101, 114, 116, 105, 102, 105, 99, 97, 116, 101, 86, 50], [49, 46, 50, 46, 56, 52, 48, 46, 49, 49, 51, 53, 52, 57, 46, 49, 46, 57, 46, 49, 54, 46, 50, 46, 52, 55], [99, 111, 109, 109, 111, 110, 78, 97, 109, 101], [50, 46, 53, 46, 52, 46, 51], [99, 111, 117, 110, 116, 114, 121, 78, 97, 109, 101], [50, 46, 53, 46, 52, 46, 54], [111, 114, 103, 97, 110, 105, 122, 97, 116, 105, 111, 110, 78, 97, 109, 101], [50, 46, 53, 46, 52, 46, 49, 48], [107, 101, 121, 85, 115, 97, 103, 101], [50, 46, 53, 46, 50, 57, 46, 49, 53], [98, 97, 115, 105, 99, 67, 111, 110, 115, 116, 114, 97, 105, 110, 116, 115], [50, 46, 53, 46, 50, 57, 46, 49, 57], [101, 120, 116, 75, 101, 121, 85, 115, 97, 103, 101], [50, 46, 53, 46, 50, 57, 46, 51, 55], [116, 105, 109, 101, 83, 116, 97, 109, 112, 105, 110, 103], [49, 46, 51, 46, 54, 46, 49, 46, 53, 46, 53, 46, 55, 46, 51, 46, 56]]
theorem knownL_len : knownL.length = 52 := by decide +kernel
theorem knownL_le : ∀ x ∈ knownL, x.length ≤ 100 := by decide +kernel
theorem knownL_at (k : Nat) : (knownL.getD k []).length ≤ 100 := by
  rw [List.getD_eq_getElem?_getD]
  rcases Nat.lt_or_ge k knownL.length with h | h
  · rw [List.getElem?_eq_getElem h]; exact knownL_le _ (List.getElem_mem h)
  · rw [List.getElem?_eq_none h]; simp
theorem parseR_may {s : List UInt8} {l : List Nat} (h : parseR s = some l) : may l = true := by
  unfold parseR at h
  split at h
  · split at h
    · rename_i hm; injection h with h; subst h; exact hm
    · cases h
  · cases h
theorem parseR_len (s : List UInt8) : ((parseR s).getD []).length ≤ 20 := by
  cases h : parseR s with
  | none => simp
  | some l =>
    have := of_decide_eq_true (parseR_may h)
    simp only [Option.getD_some]; exact this.2.1
def namedL : List (List UInt8) → List UInt8 → List UInt8
  | n :: t :: r, name => if n = name then rencO ((parseR t).getD []) else namedL r name
  | _, _ => []
def nameL : List (List UInt8) → List UInt8 → List UInt8
  | n :: _ :: r, b => if namedL knownL n = b then n else nameL r b
  | _, _ => []
theorem nat_succ_toNat (n : Nat) : ((n : Int) + 1).toNat = n + 1 := by omega
theorem drop_two (l : List (List UInt8)) (k : Nat) (h : k + 1 < l.length) : l.drop k = l.getD k [] :: l.getD (k + 1) [] :: l.drop (k + 2) := by
  rw [List.drop_eq_getElem_cons (by omega), List.drop_eq_getElem_cons h, List.getD_eq_getElem?_getD, List.getD_eq_getElem?_getD, List.getElem?_eq_getElem h, List.getElem?_eq_getElem (by omega : k < l.length)]; rfl
theorem namedL_hit (l : List (List UInt8)) (k : Nat) (name : List UInt8) (h : k + 1 < l.length) (h' : l.getD k [] = name) : namedL (l.drop k) name = rencO ((parseR (l.getD (k + 1) [])).getD []) := by
  rw [drop_two l k h]; simp only [namedL, if_pos h']
theorem namedL_next (l : List (List UInt8)) (k : Nat) (name : List UInt8) (h : k + 1 < l.length) (h' : ¬ l.getD k [] = name) : namedL (l.drop (k + 2)) name = namedL (l.drop k) name := by
  rw [drop_two l k h]; simp only [namedL, if_neg h']
theorem nameL_hit (l : List (List UInt8)) (k : Nat) (b : List UInt8) (h : k + 1 < l.length) (h' : namedL knownL (l.getD k []) = b) : nameL (l.drop k) b = l.getD k [] := by
  rw [drop_two l k h]; simp only [nameL, if_pos h']
theorem nameL_next (l : List (List UInt8)) (k : Nat) (b : List UInt8) (h : k + 1 < l.length) (h' : ¬ namedL knownL (l.getD k []) = b) : nameL (l.drop (k + 2)) b = nameL (l.drop k) b := by
  rw [drop_two l k h]; simp only [nameL, if_neg h']
theorem rencO_len (l : List Nat) (h : l.length ≤ 20) : (rencO l).length ≤ 220 := by
  unfold rencO; split
  · have := rencN_len l l.length; unfold renc; omega
  · simp
theorem namedL_len (name : List UInt8) : ∀ l, (namedL l name).length ≤ 220
  | [] => by simp [namedL]
  | [_] => by simp [namedL]
  | n :: t :: r => by
    simp only [namedL]
    split
    · exact rencO_len _ (parseR_len t)
    · exact namedL_len name r
def rknownA (_ : Unit) : List Vm.Data := []
noncomputable def rknownF : PFn := PFn.of rknownA (fun () => True) (fun () => [.lst (strsD knownL)])
theorem rknown_inj (x y : Unit) (h : rknownA x = rknownA y) : x = y := by
  rfl
@[go_sem] theorem rknown_pre  : rknownF.pre [] = (True) := PFn.of_pre rknown_inj ()
@[go_sem] theorem rknown_res  : rknownF.res [] = [.lst (strsD knownL)] := PFn.of_res rknown_inj ()
theorem rknown_ok : Pure E 37 rknownF := by
  apply Pure.of_body (rs := [.tmp 0]) (n := 2) Tryd.func37 rfl rfl rfl
  intro ds hds
  obtain ⟨⟨⟩, rfl, hds⟩ := hds
  (try dsimp only at hds)
  rw [show rknownF.res (rknownA ()) = [.lst (strsD knownL)] from rknown_res ]
  skip
  refine ⟨Nat.le_of_ble_eq_true rfl, ?_⟩
  show VC E none _ (pureSt 2 []) _
  apply VC.regt sound_nil []; intro K' hK; dsimp only [List.take, List.drop, List.map, strip, stripG]; simp -implicitDefEqProofs only [go_sem, Nat.reduceLT, Nat.reduceAdd, Nat.reduceEqDiff, reduceIte, Nat.reduceMul, Nat.reduceSub, reduceCtorEq, Int.reduceNe, Int.reduceEq, ne_eq, Nat.reduceLeDiff, Nat.reduceMod, Nat.reduceDiv]
  (repeat' first | (refine hK _ ?_; clear hK K') | with_reducible apply And.intro | decide +kernel)
  all_goals
    apply VC.at
    · simp -implicitDefEqProofs only [go_sem, Nat.reduceLT, Nat.reduceAdd, Nat.reduceEqDiff, reduceIte, Nat.reduceMul, Nat.reduceSub, reduceCtorEq, Int.reduceNe, Int.reduceEq, ne_eq, Nat.reduceLeDiff, Nat.reduceMod, Nat.reduceDiv]; (try simp (disch := omega) only [i64_in, tmodn, tdivn]); exact rfl
    apply VC.regt sound_nil [0]; intro K' hK; dsimp only [List.take, List.drop, List.map, strip, stripG]; simp -implicitDefEqProofs only [go_sem, Nat.reduceLT, Nat.reduceAdd, Nat.reduceEqDiff, reduceIte, Nat.reduceMul, Nat.reduceSub, reduceCtorEq, Int.reduceNe, Int.reduceEq, ne_eq, Nat.reduceLeDiff, Nat.reduceMod, Nat.reduceDiv]
    (repeat' first | (refine hK _ ?_; clear hK K') | with_reducible apply And.intro | decide +kernel)
    all_goals
      apply VC.at
      · simp -implicitDefEqProofs only [go_sem, Nat.reduceLT, Nat.reduceAdd, Nat.reduceEqDiff, reduceIte, Nat.reduceMul, Nat.reduceSub, reduceCtorEq, Int.reduceNe, Int.reduceEq, ne_eq, Nat.reduceLeDiff, Nat.reduceMod, Nat.reduceDiv]; (try simp (disch := omega) only [i64_in, tmodn, tdivn]); exact rfl
      apply VC.ret
      simp -implicitDefEqProofs only [go_sem, Nat.reduceLT, Nat.reduceAdd, Nat.reduceEqDiff, reduceIte, Nat.reduceMul, Nat.reduceSub, reduceCtorEq, Int.reduceNe, Int.reduceEq, ne_eq, Nat.reduceLeDiff, Nat.reduceMod, Nat.reduceDiv]
      all_goals (first | rfl)
noncomputable def ΦR9 : Fns := tab [(37, rknownF), (11, rparseF), (18, rbytesF)]
theorem ΦR9_ok : Sound E ΦR9 := sound_cons (by kernel_rfl) rknown_ok (sound_cons (by kernel_rfl) rparse_ok (sound_cons (by kernel_rfl) rbytes_ok (sound_nil)))
@[go_sem] theorem ΦR9_37 : ΦR9 37 = some rknownF := rfl
@[go_sem] theorem ΦR9_11 : ΦR9 11 = some rparseF := rfl
@[go_sem] theorem ΦR9_18 : ΦR9 18 = some rbytesF := rfl
def rnamedA (name : List UInt8) : List Vm.Data := [.str name]
noncomputable def rnamedF : PFn := PFn.of rnamedA (fun name => True) (fun name => [.lst (bytesD (namedL knownL name))])
theorem rnamed_inj (x y : List UInt8) (h : rnamedA x = rnamedA y) : x = y := by
  simpa [rnamedA, Prod.ext_iff, numsD_inj, bytesD_inj, Vm.Data.lst.injEq, Int.natCast_inj] using h
@[go_sem] theorem rnamed_pre (name : List UInt8) : rnamedF.pre [.str name] = (True) := PFn.of_pre rnamed_inj name
@[go_sem] theorem rnamed_res (name : List UInt8) : rnamedF.res [.str name] = [.lst (bytesD (namedL knownL name))] := PFn.of_res rnamed_inj name
theorem rnamed_ok : Pure E 23 rnamedF := by
  apply Pure.of_body (rs := [.tmp 2]) (n := 37) Tryd.func23 rfl rfl rfl
  intro ds hds
  obtain ⟨name, rfl, hds⟩ := hds
  (try dsimp only at hds)
  rw [show rnamedF.res (rnamedA name) = [.lst (bytesD (namedL knownL name))] from rnamed_res name]
  skip
  refine ⟨Nat.le_of_ble_eq_true rfl, ?_⟩
  show VC E none _ (pureSt 37 [.str name]) _
  apply VC.regt ΦR9_ok [0]; intro K' hK; dsimp only [List.take, List.drop, List.map, strip, stripG]; simp -implicitDefEqProofs only [go_sem, Nat.reduceLT, Nat.reduceAdd, Nat.reduceEqDiff, reduceIte, Nat.reduceMul, Nat.reduceSub, reduceCtorEq, Int.reduceNe, Int.reduceEq, ne_eq, Nat.reduceLeDiff, Nat.reduceMod, Nat.reduceDiv]
  (repeat' first | (refine hK _ ?_; clear hK K') | with_reducible apply And.intro | (simp -implicitDefEqProofs (disch := omega) only [strsD_at, i64_in, List.length_cons, List.length_nil, Nat.reduceAdd]; done) | (simp only [maxLen]; omega) | omega | (simp only [strsD_len]; omega) | (simp -implicitDefEqProofs (disch := omega) only [i64_in]; omega) | exact Nat.le_trans (knownL_at _) (by decide) | exact Nat.le_trans (parseR_len _) (by decide))
  all_goals
    apply VC.at
    · simp -implicitDefEqProofs only [go_sem, Nat.reduceLT, Nat.reduceAdd, Nat.reduceEqDiff, reduceIte, Nat.reduceMul, Nat.reduceSub, reduceCtorEq, Int.reduceNe, Int.reduceEq, ne_eq, Nat.reduceLeDiff, Nat.reduceMod, Nat.reduceDiv]; (try simp (disch := omega) only [i64_in, tmodn, tdivn]); exact rfl
    apply VC.regt ΦR9_ok [0, 3]; intro K' hK; dsimp only [List.take, List.drop, List.map, strip, stripG]; simp -implicitDefEqProofs only [go_sem, Nat.reduceLT, Nat.reduceAdd, Nat.reduceEqDiff, reduceIte, Nat.reduceMul, Nat.reduceSub, reduceCtorEq, Int.reduceNe, Int.reduceEq, ne_eq, Nat.reduceLeDiff, Nat.reduceMod, Nat.reduceDiv]
    (repeat' first | (refine hK _ ?_; clear hK K') | ((first | with_reducible refine runA_id ?_ | with_reducible refine goA_id ?_); (first | (simp only [nat_succ_toNat]; try simp -implicitDefEqProofs (disch := omega) only [strsD_at, i64_in]) | simp -implicitDefEqProofs (disch := omega) only [strsD_at, i64_in]); simp -implicitDefEqProofs only [go_sem, Nat.reduceLT, Nat.reduceAdd, Nat.reduceEqDiff, reduceIte, Nat.reduceMul, Nat.reduceSub, reduceCtorEq, Int.reduceNe, Int.reduceEq, ne_eq, Nat.reduceLeDiff, Nat.reduceMod, Nat.reduceDiv]) | with_reducible apply And.intro | (simp -implicitDefEqProofs (disch := omega) only [strsD_at, i64_in, List.length_cons, List.length_nil, Nat.reduceAdd]; done) | (simp only [maxLen]; omega) | omega | (simp only [strsD_len]; omega) | (simp -implicitDefEqProofs (disch := omega) only [i64_in]; omega) | exact Nat.le_trans (knownL_at _) (by decide) | exact Nat.le_trans (parseR_len _) (by decide))
    all_goals
      apply VC.at
      · simp -implicitDefEqProofs only [go_sem, Nat.reduceLT, Nat.reduceAdd, Nat.reduceEqDiff, reduceIte, Nat.reduceMul, Nat.reduceSub, reduceCtorEq, Int.reduceNe, Int.reduceEq, ne_eq, Nat.reduceLeDiff, Nat.reduceMod, Nat.reduceDiv]; (try simp (disch := omega) only [i64_in, tmodn, tdivn]); exact rfl
      apply VC.seq
      apply VC.regt ΦR9_ok [0, 3, 4]; intro K' hK; dsimp only [List.take, List.drop, List.map, strip, stripG]; simp -implicitDefEqProofs only [go_sem, Nat.reduceLT, Nat.reduceAdd, Nat.reduceEqDiff, reduceIte, Nat.reduceMul, Nat.reduceSub, reduceCtorEq, Int.reduceNe, Int.reduceEq, ne_eq, Nat.reduceLeDiff, Nat.reduceMod, Nat.reduceDiv]
      (repeat' first | (refine hK _ ?_; clear hK K') | with_reducible apply And.intro | (simp -implicitDefEqProofs (disch := omega) only [strsD_at, i64_in, List.length_cons, List.length_nil, Nat.reduceAdd]; done) | (simp only [maxLen]; omega) | omega | (simp only [strsD_len]; omega) | (simp -implicitDefEqProofs (disch := omega) only [i64_in]; omega) | exact Nat.le_trans (knownL_at _) (by decide) | exact Nat.le_trans (parseR_len _) (by decide))
      all_goals
        apply VC.at
        · simp -implicitDefEqProofs only [go_sem, Nat.reduceLT, Nat.reduceAdd, Nat.reduceEqDiff, reduceIte, Nat.reduceMul, Nat.reduceSub, reduceCtorEq, Int.reduceNe, Int.reduceEq, ne_eq, Nat.reduceLeDiff, Nat.reduceMod, Nat.reduceDiv]; (try simp (disch := omega) only [i64_in, tmodn, tdivn]); exact rfl
        apply VC.block
        refine VC.loopP (ι := Nat) [0, 3] (fun i => [(4, .dat (.int .i64 ((2 * i : Nat) : Int)))]) (fun _ => []) (fun i => i ≤ 26 ∧ namedL (knownL.drop (2 * i)) name = namedL knownL name) (fun i => 26 - i) 0 ?_ ?_ ?_
        · exact ⟨Nat.zero_le _, rfl⟩
        · refine Ent.to rfl rfl rfl ?_ ?_ <;> (simp -implicitDefEqProofs only [go_sem, Nat.reduceLT, Nat.reduceAdd, Nat.reduceEqDiff, reduceIte, Nat.reduceMul, Nat.reduceSub, reduceCtorEq, Int.reduceNe, Int.reduceEq, ne_eq, Nat.reduceLeDiff, Nat.reduceMod, Nat.reduceDiv]; (try simp only [D.dat.injEq, Vm.Data.int.injEq, true_and, and_true, and_self, eq_self]); (try omega); (try ((repeat' apply And.intro) <;> first | omega | rfl)))
        · rintro j hp; (try dsimp only at hp); obtain ⟨hj, hc⟩ := hp; have hkl := knownL_len; have hka := knownL_at (2 * j + 1)
          apply VC.at
          · simp -implicitDefEqProofs only [go_sem, Nat.reduceLT, Nat.reduceAdd, Nat.reduceEqDiff, reduceIte, Nat.reduceMul, Nat.reduceSub, reduceCtorEq, Int.reduceNe, Int.reduceEq, ne_eq, Nat.reduceLeDiff, Nat.reduceMod, Nat.reduceDiv]; (try simp (disch := omega) only [i64_in, tmodn, tdivn]); exact rfl
          apply VC.seq
          apply VC.regt ΦR9_ok [0, 3, 4, 13]; intro K' hK; dsimp only [List.take, List.drop, List.map, strip, stripG]; simp -implicitDefEqProofs only [go_sem, Nat.reduceLT, Nat.reduceAdd, Nat.reduceEqDiff, reduceIte, Nat.reduceMul, Nat.reduceSub, reduceCtorEq, Int.reduceNe, Int.reduceEq, ne_eq, Nat.reduceLeDiff, Nat.reduceMod, Nat.reduceDiv]
          (repeat' first | (refine hK _ ?_; clear hK K') | with_reducible apply And.intro | (simp -implicitDefEqProofs (disch := omega) only [strsD_at, i64_in, List.length_cons, List.length_nil, Nat.reduceAdd]; done) | (simp only [maxLen]; omega) | omega | (simp only [strsD_len]; omega) | (simp -implicitDefEqProofs (disch := omega) only [i64_in]; omega) | exact Nat.le_trans (knownL_at _) (by decide) | exact Nat.le_trans (parseR_len _) (by decide))
          all_goals
            apply VC.at
            · simp -implicitDefEqProofs only [go_sem, Nat.reduceLT, Nat.reduceAdd, Nat.reduceEqDiff, reduceIte, Nat.reduceMul, Nat.reduceSub, reduceCtorEq, Int.reduceNe, Int.reduceEq, ne_eq, Nat.reduceLeDiff, Nat.reduceMod, Nat.reduceDiv]; (try simp (disch := omega) only [i64_in, tmodn, tdivn]); exact rfl
            first | (apply VC.condd; (focus (simp -implicitDefEqProofs only [go_sem, Nat.reduceLT, Nat.reduceAdd, Nat.reduceEqDiff, reduceIte, Nat.reduceMul, Nat.reduceSub, reduceCtorEq, Int.reduceNe, Int.reduceEq, ne_eq, Nat.reduceLeDiff, Nat.reduceMod, Nat.reduceDiv]; with_reducible exact rfl))) | (apply VC.condn; (focus (simp -implicitDefEqProofs only [go_sem, Nat.reduceLT, Nat.reduceAdd, Nat.reduceEqDiff, reduceIte, Nat.reduceMul, Nat.reduceSub, reduceCtorEq, Int.reduceNe, Int.reduceEq, ne_eq, Nat.reduceLeDiff, Nat.reduceMod, Nat.reduceDiv]; with_reducible exact rfl))) | (apply VC.condt; (focus (simp -implicitDefEqProofs only [go_sem, Nat.reduceLT, Nat.reduceAdd, Nat.reduceEqDiff, reduceIte, Nat.reduceMul, Nat.reduceSub, reduceCtorEq, Int.reduceNe, Int.reduceEq, ne_eq, Nat.reduceLeDiff, Nat.reduceMod, Nat.reduceDiv]; with_reducible exact rfl))) | (apply VC.condb; (focus (simp -implicitDefEqProofs only [go_sem, Nat.reduceLT, Nat.reduceAdd, Nat.reduceEqDiff, reduceIte, Nat.reduceMul, Nat.reduceSub, reduceCtorEq, Int.reduceNe, Int.reduceEq, ne_eq, Nat.reduceLeDiff, Nat.reduceMod, Nat.reduceDiv]; exact rfl)))
            · intro h; try exact absurd h (by decide)
              all_goals
                apply VC.skip
                refine thenK_n ?_
                apply VC.seq
                apply VC.block
                apply VC.regt ΦR9_ok [0, 3, 4, 21]; intro K' hK; dsimp only [List.take, List.drop, List.map, strip, stripG]; simp -implicitDefEqProofs only [go_sem, Nat.reduceLT, Nat.reduceAdd, Nat.reduceEqDiff, reduceIte, Nat.reduceMul, Nat.reduceSub, reduceCtorEq, Int.reduceNe, Int.reduceEq, ne_eq, Nat.reduceLeDiff, Nat.reduceMod, Nat.reduceDiv]
                (repeat' first | (refine hK _ ?_; clear hK K') | ((first | with_reducible refine runA_id ?_ | with_reducible refine goA_id ?_); (first | (simp only [nat_succ_toNat]; try simp -implicitDefEqProofs (disch := omega) only [strsD_at, i64_in]) | simp -implicitDefEqProofs (disch := omega) only [strsD_at, i64_in]); simp -implicitDefEqProofs only [go_sem, Nat.reduceLT, Nat.reduceAdd, Nat.reduceEqDiff, reduceIte, Nat.reduceMul, Nat.reduceSub, reduceCtorEq, Int.reduceNe, Int.reduceEq, ne_eq, Nat.reduceLeDiff, Nat.reduceMod, Nat.reduceDiv]) | with_reducible apply And.intro | (simp -implicitDefEqProofs (disch := omega) only [strsD_at, i64_in, List.length_cons, List.length_nil, Nat.reduceAdd]; done) | (simp only [maxLen]; omega) | omega | (simp only [strsD_len]; omega) | (simp -implicitDefEqProofs (disch := omega) only [i64_in]; omega) | exact Nat.le_trans (knownL_at _) (by decide) | exact Nat.le_trans (parseR_len _) (by decide))
                all_goals
                  apply VC.at
                  · simp -implicitDefEqProofs only [go_sem, Nat.reduceLT, Nat.reduceAdd, Nat.reduceEqDiff, reduceIte, Nat.reduceMul, Nat.reduceSub, reduceCtorEq, Int.reduceNe, Int.reduceEq, ne_eq, Nat.reduceLeDiff, Nat.reduceMod, Nat.reduceDiv]; (try simp (disch := omega) only [i64_in, tmodn, tdivn]); exact rfl
                  first | (apply VC.condd; (focus (simp -implicitDefEqProofs only [go_sem, Nat.reduceLT, Nat.reduceAdd, Nat.reduceEqDiff, reduceIte, Nat.reduceMul, Nat.reduceSub, reduceCtorEq, Int.reduceNe, Int.reduceEq, ne_eq, Nat.reduceLeDiff, Nat.reduceMod, Nat.reduceDiv]; with_reducible exact rfl))) | (apply VC.condn; (focus (simp -implicitDefEqProofs only [go_sem, Nat.reduceLT, Nat.reduceAdd, Nat.reduceEqDiff, reduceIte, Nat.reduceMul, Nat.reduceSub, reduceCtorEq, Int.reduceNe, Int.reduceEq, ne_eq, Nat.reduceLeDiff, Nat.reduceMod, Nat.reduceDiv]; with_reducible exact rfl))) | (apply VC.condt; (focus (simp -implicitDefEqProofs only [go_sem, Nat.reduceLT, Nat.reduceAdd, Nat.reduceEqDiff, reduceIte, Nat.reduceMul, Nat.reduceSub, reduceCtorEq, Int.reduceNe, Int.reduceEq, ne_eq, Nat.reduceLeDiff, Nat.reduceMod, Nat.reduceDiv]; with_reducible exact rfl))) | (apply VC.condb; (focus (simp -implicitDefEqProofs only [go_sem, Nat.reduceLT, Nat.reduceAdd, Nat.reduceEqDiff, reduceIte, Nat.reduceMul, Nat.reduceSub, reduceCtorEq, Int.reduceNe, Int.reduceEq, ne_eq, Nat.reduceLeDiff, Nat.reduceMod, Nat.reduceDiv]; exact rfl)))
                  · intro h; try exact absurd h (by decide)
                    all_goals
                      apply VC.regt ΦR9_ok [5]; intro K' hK; dsimp only [List.take, List.drop, List.map, strip, stripG]; simp -implicitDefEqProofs only [go_sem, Nat.reduceLT, Nat.reduceAdd, Nat.reduceEqDiff, reduceIte, Nat.reduceMul, Nat.reduceSub, reduceCtorEq, Int.reduceNe, Int.reduceEq, ne_eq, Nat.reduceLeDiff, Nat.reduceMod, Nat.reduceDiv]
                      (repeat' first | (refine hK _ ?_; clear hK K') | ((first | with_reducible refine runA_id ?_ | with_reducible refine goA_id ?_); (first | (simp only [nat_succ_toNat]; try simp -implicitDefEqProofs (disch := omega) only [strsD_at, i64_in]) | simp -implicitDefEqProofs (disch := omega) only [strsD_at, i64_in]); simp -implicitDefEqProofs only [go_sem, Nat.reduceLT, Nat.reduceAdd, Nat.reduceEqDiff, reduceIte, Nat.reduceMul, Nat.reduceSub, reduceCtorEq, Int.reduceNe, Int.reduceEq, ne_eq, Nat.reduceLeDiff, Nat.reduceMod, Nat.reduceDiv]) | with_reducible apply And.intro | (simp -implicitDefEqProofs (disch := omega) only [strsD_at, i64_in, List.length_cons, List.length_nil, Nat.reduceAdd]; done) | (simp only [maxLen]; omega) | omega | (simp only [strsD_len]; omega) | (simp -implicitDefEqProofs (disch := omega) only [i64_in]; omega) | exact Nat.le_trans (knownL_at _) (by decide) | exact Nat.le_trans (parseR_len _) (by decide))
                      all_goals
                        apply VC.at
                        · simp -implicitDefEqProofs only [go_sem, Nat.reduceLT, Nat.reduceAdd, Nat.reduceEqDiff, reduceIte, Nat.reduceMul, Nat.reduceSub, reduceCtorEq, Int.reduceNe, Int.reduceEq, ne_eq, Nat.reduceLeDiff, Nat.reduceMod, Nat.reduceDiv]; (try simp (disch := omega) only [i64_in, tmodn, tdivn]); exact rfl
                        apply VC.regt ΦR9_ok [7]; intro K' hK; dsimp only [List.take, List.drop, List.map, strip, stripG]; simp -implicitDefEqProofs only [go_sem, Nat.reduceLT, Nat.reduceAdd, Nat.reduceEqDiff, reduceIte, Nat.reduceMul, Nat.reduceSub, reduceCtorEq, Int.reduceNe, Int.reduceEq, ne_eq, Nat.reduceLeDiff, Nat.reduceMod, Nat.reduceDiv]
                        (repeat' first | (refine hK _ ?_; clear hK K') | ((first | with_reducible refine runA_id ?_ | with_reducible refine goA_id ?_); (first | (simp only [nat_succ_toNat]; try simp -implicitDefEqProofs (disch := omega) only [strsD_at, i64_in]) | simp -implicitDefEqProofs (disch := omega) only [strsD_at, i64_in]); simp -implicitDefEqProofs only [go_sem, Nat.reduceLT, Nat.reduceAdd, Nat.reduceEqDiff, reduceIte, Nat.reduceMul, Nat.reduceSub, reduceCtorEq, Int.reduceNe, Int.reduceEq, ne_eq, Nat.reduceLeDiff, Nat.reduceMod, Nat.reduceDiv]) | with_reducible apply And.intro | (simp -implicitDefEqProofs (disch := omega) only [strsD_at, i64_in, List.length_cons, List.length_nil, Nat.reduceAdd]; done) | (simp only [maxLen]; omega) | omega | (simp only [strsD_len]; omega) | (simp -implicitDefEqProofs (disch := omega) only [i64_in]; omega) | exact Nat.le_trans (knownL_at _) (by decide) | exact Nat.le_trans (parseR_len _) (by decide))
                        all_goals
                          apply VC.at
                          · simp -implicitDefEqProofs only [go_sem, Nat.reduceLT, Nat.reduceAdd, Nat.reduceEqDiff, reduceIte, Nat.reduceMul, Nat.reduceSub, reduceCtorEq, Int.reduceNe, Int.reduceEq, ne_eq, Nat.reduceLeDiff, Nat.reduceMod, Nat.reduceDiv]; (try simp (disch := omega) only [i64_in, tmodn, tdivn]); exact rfl
                          apply VC.regt ΦR9_ok [2]; intro K' hK; dsimp only [List.take, List.drop, List.map, strip, stripG]; simp -implicitDefEqProofs only [go_sem, Nat.reduceLT, Nat.reduceAdd, Nat.reduceEqDiff, reduceIte, Nat.reduceMul, Nat.reduceSub, reduceCtorEq, Int.reduceNe, Int.reduceEq, ne_eq, Nat.reduceLeDiff, Nat.reduceMod, Nat.reduceDiv]
                          (repeat' first | (refine hK _ ?_; clear hK K') | with_reducible apply And.intro | (simp -implicitDefEqProofs (disch := omega) only [strsD_at, i64_in, List.length_cons, List.length_nil, Nat.reduceAdd]; done) | (simp only [maxLen]; omega) | omega | (simp only [strsD_len]; omega) | (simp -implicitDefEqProofs (disch := omega) only [i64_in]; omega) | exact Nat.le_trans (knownL_at _) (by decide) | exact Nat.le_trans (parseR_len _) (by decide))
                          all_goals
                            apply VC.at
                            · simp -implicitDefEqProofs only [go_sem, Nat.reduceLT, Nat.reduceAdd, Nat.reduceEqDiff, reduceIte, Nat.reduceMul, Nat.reduceSub, reduceCtorEq, Int.reduceNe, Int.reduceEq, ne_eq, Nat.reduceLeDiff, Nat.reduceMod, Nat.reduceDiv]; (try simp (disch := omega) only [i64_in, tmodn, tdivn]); exact rfl
                            apply VC.ret
                            refine blockK_r ?_
                            refine thenK_r ?_
                            refine thenK_r ?_
                            refine blockK_r ?_
                            refine thenK_r ?_
                            simp -implicitDefEqProofs only [go_sem, Nat.reduceLT, Nat.reduceAdd, Nat.reduceEqDiff, reduceIte, Nat.reduceMul, Nat.reduceSub, reduceCtorEq, Int.reduceNe, Int.reduceEq, ne_eq, Nat.reduceLeDiff, Nat.reduceMod, Nat.reduceDiv]
                            all_goals (first | (rw [← hc, namedL_hit knownL (2 * j) name (by omega) h]; rfl) | (rw [← hc, show 2 * j = 52 by omega]; first | done | rfl))
                  · intro h; try exact absurd h (by decide)
                    all_goals
                      apply VC.skip
                      refine blockK_n ?_
                      refine thenK_n ?_
                      apply VC.regLast ΦR9_ok; intro K' hK; dsimp only [List.take, List.drop, List.map, strip, stripG]; simp -implicitDefEqProofs only [go_sem, Nat.reduceLT, Nat.reduceAdd, Nat.reduceEqDiff, reduceIte, Nat.reduceMul, Nat.reduceSub, reduceCtorEq, Int.reduceNe, Int.reduceEq, ne_eq, Nat.reduceLeDiff, Nat.reduceMod, Nat.reduceDiv]
                      (repeat' first | (refine hK _ ?_; clear hK K') | with_reducible apply And.intro | (simp -implicitDefEqProofs (disch := omega) only [strsD_at, i64_in, List.length_cons, List.length_nil, Nat.reduceAdd]; done) | (simp only [maxLen]; omega) | omega | (simp only [strsD_len]; omega) | (simp -implicitDefEqProofs (disch := omega) only [i64_in]; omega) | exact Nat.le_trans (knownL_at _) (by decide) | exact Nat.le_trans (parseR_len _) (by decide))
                      all_goals
                        refine thenK_n ?_
                        refine ⟨(j + 1), ?_, Ent.to rfl rfl rfl ?_ ?_, ?_⟩
                        · exact ⟨by omega, by rw [show 2 * (j + 1) = 2 * j + 2 by omega, namedL_next knownL (2 * j) name (by omega) h]; exact hc⟩
                        · simp -implicitDefEqProofs only [go_sem, Nat.reduceLT, Nat.reduceAdd, Nat.reduceEqDiff, reduceIte, Nat.reduceMul, Nat.reduceSub, reduceCtorEq, Int.reduceNe, Int.reduceEq, ne_eq, Nat.reduceLeDiff, Nat.reduceMod, Nat.reduceDiv]; (try simp (disch := omega) only [i64_in, tmodn, tdivn]); (try simp only [D.dat.injEq, Vm.Data.int.injEq, true_and, and_true, and_self, eq_self]); (try omega); (try ((repeat' apply And.intro) <;> first | omega | rfl))
                        · simp -implicitDefEqProofs only [go_sem, Nat.reduceLT, Nat.reduceAdd, Nat.reduceEqDiff, reduceIte, Nat.reduceMul, Nat.reduceSub, reduceCtorEq, Int.reduceNe, Int.reduceEq, ne_eq, Nat.reduceLeDiff, Nat.reduceMod, Nat.reduceDiv]; (try simp (disch := omega) only [i64_in, tmodn, tdivn]); (try simp only [D.dat.injEq, Vm.Data.int.injEq, true_and, and_true, and_self, eq_self]); (try omega); (try ((repeat' apply And.intro) <;> first | omega | rfl))
                        · omega
            · intro h; try exact absurd h (by decide)
              all_goals
                apply VC.exit
                refine thenK_e ?_
                refine thenK_e ?_
                refine blockK_e ?_
                refine thenK_n ?_
                apply VC.regt ΦR9_ok [2]; intro K' hK; dsimp only [List.take, List.drop, List.map, strip, stripG]; simp -implicitDefEqProofs only [go_sem, Nat.reduceLT, Nat.reduceAdd, Nat.reduceEqDiff, reduceIte, Nat.reduceMul, Nat.reduceSub, reduceCtorEq, Int.reduceNe, Int.reduceEq, ne_eq, Nat.reduceLeDiff, Nat.reduceMod, Nat.reduceDiv]
                (repeat' first | (refine hK _ ?_; clear hK K') | with_reducible apply And.intro | (simp -implicitDefEqProofs (disch := omega) only [strsD_at, i64_in, List.length_cons, List.length_nil, Nat.reduceAdd]; done) | (simp only [maxLen]; omega) | omega | (simp only [strsD_len]; omega) | (simp -implicitDefEqProofs (disch := omega) only [i64_in]; omega) | exact Nat.le_trans (knownL_at _) (by decide) | exact Nat.le_trans (parseR_len _) (by decide))
                all_goals
                  apply VC.at
                  · simp -implicitDefEqProofs only [go_sem, Nat.reduceLT, Nat.reduceAdd, Nat.reduceEqDiff, reduceIte, Nat.reduceMul, Nat.reduceSub, reduceCtorEq, Int.reduceNe, Int.reduceEq, ne_eq, Nat.reduceLeDiff, Nat.reduceMod, Nat.reduceDiv]; (try simp (disch := omega) only [i64_in, tmodn, tdivn]); exact rfl
                  apply VC.ret
                  simp -implicitDefEqProofs only [go_sem, Nat.reduceLT, Nat.reduceAdd, Nat.reduceEqDiff, reduceIte, Nat.reduceMul, Nat.reduceSub, reduceCtorEq, Int.reduceNe, Int.reduceEq, ne_eq, Nat.reduceLeDiff, Nat.reduceMod, Nat.reduceDiv]
                  all_goals (first | (rw [← hc, namedL_hit knownL (2 * j) name (by omega) h]; rfl) | (rw [← hc, show 2 * j = 52 by omega]; first | done | rfl))
noncomputable def ΦR9b : Fns := tab [(37, rknownF), (23, rnamedF)]
theorem ΦR9b_ok : Sound E ΦR9b := sound_cons (by kernel_rfl) rknown_ok (sound_cons (by kernel_rfl) rnamed_ok (sound_nil))
@[go_sem] theorem ΦR9b_37 : ΦR9b 37 = some rknownF := rfl
@[go_sem] theorem ΦR9b_23 : ΦR9b 23 = some rnamedF := rfl
def rnameA (b : List UInt8) : List Vm.Data := [.lst (bytesD b)]
noncomputable def rnameF : PFn := PFn.of rnameA (fun b => True) (fun b => [.str (nameL knownL b)])
theorem rname_inj (x y : List UInt8) (h : rnameA x = rnameA y) : x = y := by
  simpa [rnameA, Prod.ext_iff, numsD_inj, bytesD_inj, Vm.Data.lst.injEq, Int.natCast_inj] using h
@[go_sem] theorem rname_pre (b : List UInt8) : rnameF.pre [.lst (bytesD b)] = (True) := PFn.of_pre rname_inj b
@[go_sem] theorem rname_res (b : List UInt8) : rnameF.res [.lst (bytesD b)] = [.str (nameL knownL b)] := PFn.of_res rname_inj b
theorem rname_ok : Pure E 21 rnameF := by
  apply Pure.of_body (rs := [.tmp 2]) (n := 27) Tryd.func21 rfl rfl rfl
  intro ds hds
  obtain ⟨b, rfl, hds⟩ := hds
  (try dsimp only at hds)
  rw [show rnameF.res (rnameA b) = [.str (nameL knownL b)] from rname_res b]
  skip
  refine ⟨Nat.le_of_ble_eq_true rfl, ?_⟩
  show VC E none _ (pureSt 27 [.lst (bytesD b)]) _
  apply VC.regt ΦR9b_ok [0]; intro K' hK; dsimp only [List.take, List.drop, List.map, strip, stripG]; simp -implicitDefEqProofs only [go_sem, Nat.reduceLT, Nat.reduceAdd, Nat.reduceEqDiff, reduceIte, Nat.reduceMul, Nat.reduceSub, reduceCtorEq, Int.reduceNe, Int.reduceEq, ne_eq, Nat.reduceLeDiff, Nat.reduceMod, Nat.reduceDiv]
  (repeat' first | (refine hK _ ?_; clear hK K') | with_reducible apply And.intro | (simp -implicitDefEqProofs (disch := omega) only [strsD_at, i64_in, List.length_cons, List.length_nil, Nat.reduceAdd]; done) | (simp only [maxLen]; omega) | omega | (simp only [strsD_len]; omega) | (simp -implicitDefEqProofs (disch := omega) only [i64_in]; omega) | exact Nat.le_trans (knownL_at _) (by decide) | exact Nat.le_trans (parseR_len _) (by decide))
  all_goals
    apply VC.at
    · simp -implicitDefEqProofs only [go_sem, Nat.reduceLT, Nat.reduceAdd, Nat.reduceEqDiff, reduceIte, Nat.reduceMul, Nat.reduceSub, reduceCtorEq, Int.reduceNe, Int.reduceEq, ne_eq, Nat.reduceLeDiff, Nat.reduceMod, Nat.reduceDiv]; (try simp (disch := omega) only [i64_in, tmodn, tdivn]); exact rfl
    apply VC.regt ΦR9b_ok [0, 3]; intro K' hK; dsimp only [List.take, List.drop, List.map, strip, stripG]; simp -implicitDefEqProofs only [go_sem, Nat.reduceLT, Nat.reduceAdd, Nat.reduceEqDiff, reduceIte, Nat.reduceMul, Nat.reduceSub, reduceCtorEq, Int.reduceNe, Int.reduceEq, ne_eq, Nat.reduceLeDiff, Nat.reduceMod, Nat.reduceDiv]
    (repeat' first | (refine hK _ ?_; clear hK K') | ((first | with_reducible refine runA_id ?_ | with_reducible refine goA_id ?_); (first | (simp only [nat_succ_toNat]; try simp -implicitDefEqProofs (disch := omega) only [strsD_at, i64_in]) | simp -implicitDefEqProofs (disch := omega) only [strsD_at, i64_in]); simp -implicitDefEqProofs only [go_sem, Nat.reduceLT, Nat.reduceAdd, Nat.reduceEqDiff, reduceIte, Nat.reduceMul, Nat.reduceSub, reduceCtorEq, Int.reduceNe, Int.reduceEq, ne_eq, Nat.reduceLeDiff, Nat.reduceMod, Nat.reduceDiv]) | with_reducible apply And.intro | (simp -implicitDefEqProofs (disch := omega) only [strsD_at, i64_in, List.length_cons, List.length_nil, Nat.reduceAdd]; done) | (simp only [maxLen]; omega) | omega | (simp only [strsD_len]; omega) | (simp -implicitDefEqProofs (disch := omega) only [i64_in]; omega) | exact Nat.le_trans (knownL_at _) (by decide) | exact Nat.le_trans (parseR_len _) (by decide))
    all_goals
      apply VC.at
      · simp -implicitDefEqProofs only [go_sem, Nat.reduceLT, Nat.reduceAdd, Nat.reduceEqDiff, reduceIte, Nat.reduceMul, Nat.reduceSub, reduceCtorEq, Int.reduceNe, Int.reduceEq, ne_eq, Nat.reduceLeDiff, Nat.reduceMod, Nat.reduceDiv]; (try simp (disch := omega) only [i64_in, tmodn, tdivn]); exact rfl
      apply VC.seq
      apply VC.regt ΦR9b_ok [0, 3, 4]; intro K' hK; dsimp only [List.take, List.drop, List.map, strip, stripG]; simp -implicitDefEqProofs only [go_sem, Nat.reduceLT, Nat.reduceAdd, Nat.reduceEqDiff, reduceIte, Nat.reduceMul, Nat.reduceSub, reduceCtorEq, Int.reduceNe, Int.reduceEq, ne_eq, Nat.reduceLeDiff, Nat.reduceMod, Nat.reduceDiv]
      (repeat' first | (refine hK _ ?_; clear hK K') | with_reducible apply And.intro | (simp -implicitDefEqProofs (disch := omega) only [strsD_at, i64_in, List.length_cons, List.length_nil, Nat.reduceAdd]; done) | (simp only [maxLen]; omega) | omega | (simp only [strsD_len]; omega) | (simp -implicitDefEqProofs (disch := omega) only [i64_in]; omega) | exact Nat.le_trans (knownL_at _) (by decide) | exact Nat.le_trans (parseR_len _) (by decide))
      all_goals
        apply VC.at
        · simp -implicitDefEqProofs only [go_sem, Nat.reduceLT, Nat.reduceAdd, Nat.reduceEqDiff, reduceIte, Nat.reduceMul, Nat.reduceSub, reduceCtorEq, Int.reduceNe, Int.reduceEq, ne_eq, Nat.reduceLeDiff, Nat.reduceMod, Nat.reduceDiv]; (try simp (disch := omega) only [i64_in, tmodn, tdivn]); exact rfl
        apply VC.block
        refine VC.loopP (ι := Nat) [0, 3] (fun i => [(4, .dat (.int .i64 ((2 * i : Nat) : Int)))]) (fun _ => []) (fun i => i ≤ 26 ∧ nameL (knownL.drop (2 * i)) b = nameL knownL b) (fun i => 26 - i) 0 ?_ ?_ ?_
        · exact ⟨Nat.zero_le _, rfl⟩
        · refine Ent.to rfl rfl rfl ?_ ?_ <;> (simp -implicitDefEqProofs only [go_sem, Nat.reduceLT, Nat.reduceAdd, Nat.reduceEqDiff, reduceIte, Nat.reduceMul, Nat.reduceSub, reduceCtorEq, Int.reduceNe, Int.reduceEq, ne_eq, Nat.reduceLeDiff, Nat.reduceMod, Nat.reduceDiv]; (try simp only [D.dat.injEq, Vm.Data.int.injEq, true_and, and_true, and_self, eq_self]); (try omega); (try ((repeat' apply And.intro) <;> first | omega | rfl)))
        · rintro j hp; (try dsimp only at hp); obtain ⟨hj, hc⟩ := hp; have hkl := knownL_len; have hka := knownL_at (2 * j + 1)
          apply VC.at
          · simp -implicitDefEqProofs only [go_sem, Nat.reduceLT, Nat.reduceAdd, Nat.reduceEqDiff, reduceIte, Nat.reduceMul, Nat.reduceSub, reduceCtorEq, Int.reduceNe, Int.reduceEq, ne_eq, Nat.reduceLeDiff, Nat.reduceMod, Nat.reduceDiv]; (try simp (disch := omega) only [i64_in, tmodn, tdivn]); exact rfl
          apply VC.seq
          apply VC.regt ΦR9b_ok [0, 3, 4, 10]; intro K' hK; dsimp only [List.take, List.drop, List.map, strip, stripG]; simp -implicitDefEqProofs only [go_sem, Nat.reduceLT, Nat.reduceAdd, Nat.reduceEqDiff, reduceIte, Nat.reduceMul, Nat.reduceSub, reduceCtorEq, Int.reduceNe, Int.reduceEq, ne_eq, Nat.reduceLeDiff, Nat.reduceMod, Nat.reduceDiv]
          (repeat' first | (refine hK _ ?_; clear hK K') | with_reducible apply And.intro | (simp -implicitDefEqProofs (disch := omega) only [strsD_at, i64_in, List.length_cons, List.length_nil, Nat.reduceAdd]; done) | (simp only [maxLen]; omega) | omega | (simp only [strsD_len]; omega) | (simp -implicitDefEqProofs (disch := omega) only [i64_in]; omega) | exact Nat.le_trans (knownL_at _) (by decide) | exact Nat.le_trans (parseR_len _) (by decide))
          all_goals
            apply VC.at
            · simp -implicitDefEqProofs only [go_sem, Nat.reduceLT, Nat.reduceAdd, Nat.reduceEqDiff, reduceIte, Nat.reduceMul, Nat.reduceSub, reduceCtorEq, Int.reduceNe, Int.reduceEq, ne_eq, Nat.reduceLeDiff, Nat.reduceMod, Nat.reduceDiv]; (try simp (disch := omega) only [i64_in, tmodn, tdivn]); exact rfl
            first | (apply VC.condd; (focus (simp -implicitDefEqProofs only [go_sem, Nat.reduceLT, Nat.reduceAdd, Nat.reduceEqDiff, reduceIte, Nat.reduceMul, Nat.reduceSub, reduceCtorEq, Int.reduceNe, Int.reduceEq, ne_eq, Nat.reduceLeDiff, Nat.reduceMod, Nat.reduceDiv]; with_reducible exact rfl))) | (apply VC.condn; (focus (simp -implicitDefEqProofs only [go_sem, Nat.reduceLT, Nat.reduceAdd, Nat.reduceEqDiff, reduceIte, Nat.reduceMul, Nat.reduceSub, reduceCtorEq, Int.reduceNe, Int.reduceEq, ne_eq, Nat.reduceLeDiff, Nat.reduceMod, Nat.reduceDiv]; with_reducible exact rfl))) | (apply VC.condt; (focus (simp -implicitDefEqProofs only [go_sem, Nat.reduceLT, Nat.reduceAdd, Nat.reduceEqDiff, reduceIte, Nat.reduceMul, Nat.reduceSub, reduceCtorEq, Int.reduceNe, Int.reduceEq, ne_eq, Nat.reduceLeDiff, Nat.reduceMod, Nat.reduceDiv]; with_reducible exact rfl))) | (apply VC.condb; (focus (simp -implicitDefEqProofs only [go_sem, Nat.reduceLT, Nat.reduceAdd, Nat.reduceEqDiff, reduceIte, Nat.reduceMul, Nat.reduceSub, reduceCtorEq, Int.reduceNe, Int.reduceEq, ne_eq, Nat.reduceLeDiff, Nat.reduceMod, Nat.reduceDiv]; exact rfl)))
            · intro h; try exact absurd h (by decide)
              all_goals
                apply VC.skip
                refine thenK_n ?_
                apply VC.seq
                apply VC.block
                apply VC.regt ΦR9b_ok [0, 3, 4, 5]; intro K' hK; dsimp only [List.take, List.drop, List.map, strip, stripG]; simp -implicitDefEqProofs only [go_sem, Nat.reduceLT, Nat.reduceAdd, Nat.reduceEqDiff, reduceIte, Nat.reduceMul, Nat.reduceSub, reduceCtorEq, Int.reduceNe, Int.reduceEq, ne_eq, Nat.reduceLeDiff, Nat.reduceMod, Nat.reduceDiv]
                (repeat' first | (refine hK _ ?_; clear hK K') | ((first | with_reducible refine runA_id ?_ | with_reducible refine goA_id ?_); (first | (simp only [nat_succ_toNat]; try simp -implicitDefEqProofs (disch := omega) only [strsD_at, i64_in]) | simp -implicitDefEqProofs (disch := omega) only [strsD_at, i64_in]); simp -implicitDefEqProofs only [go_sem, Nat.reduceLT, Nat.reduceAdd, Nat.reduceEqDiff, reduceIte, Nat.reduceMul, Nat.reduceSub, reduceCtorEq, Int.reduceNe, Int.reduceEq, ne_eq, Nat.reduceLeDiff, Nat.reduceMod, Nat.reduceDiv]) | with_reducible apply And.intro | (simp -implicitDefEqProofs (disch := omega) only [strsD_at, i64_in, List.length_cons, List.length_nil, Nat.reduceAdd]; done) | (simp only [maxLen]; omega) | omega | (simp only [strsD_len]; omega) | (simp -implicitDefEqProofs (disch := omega) only [i64_in]; omega) | exact Nat.le_trans (knownL_at _) (by decide) | exact Nat.le_trans (parseR_len _) (by decide))
                all_goals
                  apply VC.at
                  · simp -implicitDefEqProofs only [go_sem, Nat.reduceLT, Nat.reduceAdd, Nat.reduceEqDiff, reduceIte, Nat.reduceMul, Nat.reduceSub, reduceCtorEq, Int.reduceNe, Int.reduceEq, ne_eq, Nat.reduceLeDiff, Nat.reduceMod, Nat.reduceDiv]; (try simp (disch := omega) only [i64_in, tmodn, tdivn]); exact rfl
                  apply VC.regt ΦR9b_ok [0, 3, 4, 22]; intro K' hK; dsimp only [List.take, List.drop, List.map, strip, stripG]; simp -implicitDefEqProofs only [go_sem, Nat.reduceLT, Nat.reduceAdd, Nat.reduceEqDiff, reduceIte, Nat.reduceMul, Nat.reduceSub, reduceCtorEq, Int.reduceNe, Int.reduceEq, ne_eq, Nat.reduceLeDiff, Nat.reduceMod, Nat.reduceDiv]
                  (repeat' first | (refine hK _ ?_; clear hK K') | with_reducible apply And.intro | (simp -implicitDefEqProofs (disch := omega) only [strsD_at, i64_in, List.length_cons, List.length_nil, Nat.reduceAdd]; done) | (simp only [maxLen]; omega) | omega | (simp only [strsD_len]; omega) | (simp -implicitDefEqProofs (disch := omega) only [i64_in]; omega) | exact Nat.le_trans (knownL_at _) (by decide) | exact Nat.le_trans (parseR_len _) (by decide))
                  all_goals
                    apply VC.at
                    · simp -implicitDefEqProofs only [go_sem, Nat.reduceLT, Nat.reduceAdd, Nat.reduceEqDiff, reduceIte, Nat.reduceMul, Nat.reduceSub, reduceCtorEq, Int.reduceNe, Int.reduceEq, ne_eq, Nat.reduceLeDiff, Nat.reduceMod, Nat.reduceDiv]; (try simp (disch := omega) only [i64_in, tmodn, tdivn]); exact rfl
                    first | (apply VC.condd; (focus (simp -implicitDefEqProofs only [go_sem, Nat.reduceLT, Nat.reduceAdd, Nat.reduceEqDiff, reduceIte, Nat.reduceMul, Nat.reduceSub, reduceCtorEq, Int.reduceNe, Int.reduceEq, ne_eq, Nat.reduceLeDiff, Nat.reduceMod, Nat.reduceDiv]; with_reducible exact rfl))) | (apply VC.condn; (focus (simp -implicitDefEqProofs only [go_sem, Nat.reduceLT, Nat.reduceAdd, Nat.reduceEqDiff, reduceIte, Nat.reduceMul, Nat.reduceSub, reduceCtorEq, Int.reduceNe, Int.reduceEq, ne_eq, Nat.reduceLeDiff, Nat.reduceMod, Nat.reduceDiv]; with_reducible exact rfl))) | (apply VC.condt; (focus (simp -implicitDefEqProofs only [go_sem, Nat.reduceLT, Nat.reduceAdd, Nat.reduceEqDiff, reduceIte, Nat.reduceMul, Nat.reduceSub, reduceCtorEq, Int.reduceNe, Int.reduceEq, ne_eq, Nat.reduceLeDiff, Nat.reduceMod, Nat.reduceDiv]; with_reducible exact rfl))) | (apply VC.condb; (focus (simp -implicitDefEqProofs only [go_sem, Nat.reduceLT, Nat.reduceAdd, Nat.reduceEqDiff, reduceIte, Nat.reduceMul, Nat.reduceSub, reduceCtorEq, Int.reduceNe, Int.reduceEq, ne_eq, Nat.reduceLeDiff, Nat.reduceMod, Nat.reduceDiv]; exact rfl)))
                    · intro h; try exact absurd h (by decide)
                      all_goals
                        apply VC.regt ΦR9b_ok [2]; intro K' hK; dsimp only [List.take, List.drop, List.map, strip, stripG]; simp -implicitDefEqProofs only [go_sem, Nat.reduceLT, Nat.reduceAdd, Nat.reduceEqDiff, reduceIte, Nat.reduceMul, Nat.reduceSub, reduceCtorEq, Int.reduceNe, Int.reduceEq, ne_eq, Nat.reduceLeDiff, Nat.reduceMod, Nat.reduceDiv]
                        (repeat' first | (refine hK _ ?_; clear hK K') | ((first | with_reducible refine runA_id ?_ | with_reducible refine goA_id ?_); (first | (simp only [nat_succ_toNat]; try simp -implicitDefEqProofs (disch := omega) only [strsD_at, i64_in]) | simp -implicitDefEqProofs (disch := omega) only [strsD_at, i64_in]); simp -implicitDefEqProofs only [go_sem, Nat.reduceLT, Nat.reduceAdd, Nat.reduceEqDiff, reduceIte, Nat.reduceMul, Nat.reduceSub, reduceCtorEq, Int.reduceNe, Int.reduceEq, ne_eq, Nat.reduceLeDiff, Nat.reduceMod, Nat.reduceDiv]) | with_reducible apply And.intro | (simp -implicitDefEqProofs (disch := omega) only [strsD_at, i64_in, List.length_cons, List.length_nil, Nat.reduceAdd]; done) | (simp only [maxLen]; omega) | omega | (simp only [strsD_len]; omega) | (simp -implicitDefEqProofs (disch := omega) only [i64_in]; omega) | exact Nat.le_trans (knownL_at _) (by decide) | exact Nat.le_trans (parseR_len _) (by decide))
                        all_goals
                          apply VC.at
                          · simp -implicitDefEqProofs only [go_sem, Nat.reduceLT, Nat.reduceAdd, Nat.reduceEqDiff, reduceIte, Nat.reduceMul, Nat.reduceSub, reduceCtorEq, Int.reduceNe, Int.reduceEq, ne_eq, Nat.reduceLeDiff, Nat.reduceMod, Nat.reduceDiv]; (try simp (disch := omega) only [i64_in, tmodn, tdivn]); exact rfl
                          apply VC.ret
                          refine blockK_r ?_
                          refine thenK_r ?_
                          refine thenK_r ?_
                          refine blockK_r ?_
                          refine thenK_r ?_
                          simp -implicitDefEqProofs only [go_sem, Nat.reduceLT, Nat.reduceAdd, Nat.reduceEqDiff, reduceIte, Nat.reduceMul, Nat.reduceSub, reduceCtorEq, Int.reduceNe, Int.reduceEq, ne_eq, Nat.reduceLeDiff, Nat.reduceMod, Nat.reduceDiv]
                          all_goals (first | (rw [← hc, nameL_hit knownL (2 * j) b (by omega) h]; done) | (rw [← hc, show 2 * j = 52 by omega]; first | done | rfl))
                    · intro h; try exact absurd h (by decide)
                      all_goals
                        apply VC.skip
                        refine blockK_n ?_
                        refine thenK_n ?_
                        apply VC.regLast ΦR9b_ok; intro K' hK; dsimp only [List.take, List.drop, List.map, strip, stripG]; simp -implicitDefEqProofs only [go_sem, Nat.reduceLT, Nat.reduceAdd, Nat.reduceEqDiff, reduceIte, Nat.reduceMul, Nat.reduceSub, reduceCtorEq, Int.reduceNe, Int.reduceEq, ne_eq, Nat.reduceLeDiff, Nat.reduceMod, Nat.reduceDiv]
                        (repeat' first | (refine hK _ ?_; clear hK K') | with_reducible apply And.intro | (simp -implicitDefEqProofs (disch := omega) only [strsD_at, i64_in, List.length_cons, List.length_nil, Nat.reduceAdd]; done) | (simp only [maxLen]; omega) | omega | (simp only [strsD_len]; omega) | (simp -implicitDefEqProofs (disch := omega) only [i64_in]; omega) | exact Nat.le_trans (knownL_at _) (by decide) | exact Nat.le_trans (parseR_len _) (by decide))
                        all_goals
                          refine thenK_n ?_
                          refine ⟨(j + 1), ?_, Ent.to rfl rfl rfl ?_ ?_, ?_⟩
                          · exact ⟨by omega, by rw [show 2 * (j + 1) = 2 * j + 2 by omega, nameL_next knownL (2 * j) b (by omega) h]; exact hc⟩
                          · simp -implicitDefEqProofs only [go_sem, Nat.reduceLT, Nat.reduceAdd, Nat.reduceEqDiff, reduceIte, Nat.reduceMul, Nat.reduceSub, reduceCtorEq, Int.reduceNe, Int.reduceEq, ne_eq, Nat.reduceLeDiff, Nat.reduceMod, Nat.reduceDiv]; (try simp (disch := omega) only [i64_in, tmodn, tdivn]); (try simp only [D.dat.injEq, Vm.Data.int.injEq, true_and, and_true, and_self, eq_self]); (try omega); (try ((repeat' apply And.intro) <;> first | omega | rfl))
                          · simp -implicitDefEqProofs only [go_sem, Nat.reduceLT, Nat.reduceAdd, Nat.reduceEqDiff, reduceIte, Nat.reduceMul, Nat.reduceSub, reduceCtorEq, Int.reduceNe, Int.reduceEq, ne_eq, Nat.reduceLeDiff, Nat.reduceMod, Nat.reduceDiv]; (try simp (disch := omega) only [i64_in, tmodn, tdivn]); (try simp only [D.dat.injEq, Vm.Data.int.injEq, true_and, and_true, and_self, eq_self]); (try omega); (try ((repeat' apply And.intro) <;> first | omega | rfl))
                          · omega
            · intro h; try exact absurd h (by decide)
              all_goals
                apply VC.exit
                refine thenK_e ?_
                refine thenK_e ?_
                refine blockK_e ?_
                refine thenK_n ?_
                apply VC.regt ΦR9b_ok [2]; intro K' hK; dsimp only [List.take, List.drop, List.map, strip, stripG]; simp -implicitDefEqProofs only [go_sem, Nat.reduceLT, Nat.reduceAdd, Nat.reduceEqDiff, reduceIte, Nat.reduceMul, Nat.reduceSub, reduceCtorEq, Int.reduceNe, Int.reduceEq, ne_eq, Nat.reduceLeDiff, Nat.reduceMod, Nat.reduceDiv]
                (repeat' first | (refine hK _ ?_; clear hK K') | with_reducible apply And.intro | (simp -implicitDefEqProofs (disch := omega) only [strsD_at, i64_in, List.length_cons, List.length_nil, Nat.reduceAdd]; done) | (simp only [maxLen]; omega) | omega | (simp only [strsD_len]; omega) | (simp -implicitDefEqProofs (disch := omega) only [i64_in]; omega) | exact Nat.le_trans (knownL_at _) (by decide) | exact Nat.le_trans (parseR_len _) (by decide))
                all_goals
                  apply VC.at
                  · simp -implicitDefEqProofs only [go_sem, Nat.reduceLT, Nat.reduceAdd, Nat.reduceEqDiff, reduceIte, Nat.reduceMul, Nat.reduceSub, reduceCtorEq, Int.reduceNe, Int.reduceEq, ne_eq, Nat.reduceLeDiff, Nat.reduceMod, Nat.reduceDiv]; (try simp (disch := omega) only [i64_in, tmodn, tdivn]); exact rfl
                  apply VC.ret
                  simp -implicitDefEqProofs only [go_sem, Nat.reduceLT, Nat.reduceAdd, Nat.reduceEqDiff, reduceIte, Nat.reduceMul, Nat.reduceSub, reduceCtorEq, Int.reduceNe, Int.reduceEq, ne_eq, Nat.reduceLeDiff, Nat.reduceMod, Nat.reduceDiv]
                  all_goals (first | (rw [← hc, nameL_hit knownL (2 * j) b (by omega) h]; done) | (rw [← hc, show 2 * j = 52 by omega]; first | done | rfl))
end Go.Proofs.YtgfadocohpinmaaDoor.Oa

