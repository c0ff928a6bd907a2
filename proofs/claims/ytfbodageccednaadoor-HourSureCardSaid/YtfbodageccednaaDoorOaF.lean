/- What the document's functions compute: their contracts. No condition. -/
import Derived.Test.YtfbodageccednaaDoorOaD
import Derived.Test.YtfbodageccednaaDoorOaC
set_option linter.unusedVariables false
set_option linter.unusedSimpArgs false
namespace Go.Proofs.YtfbodageccednaaDoor.Oa
open Go Go.RowKit Go.Proofs.YtfbodageccednaaDoor.Vm Go.IntWalk
set_option maxRecDepth 100000
set_option maxHeartbeats 4000000
def dgts : Nat → Nat → List UInt8 → List UInt8
  | 0, _, s => s
  | f + 1, n, s => dgts f (n / 10) (UInt8.ofNat (48 + n % 10) :: s)
/-- A number's lowest digits, so many. -/
def rdg (n q : Int) : List UInt8 := dgts q.toNat n.toNat []
theorem dgts_len : ∀ (f n : Nat) (s : List UInt8), (dgts f n s).length = f + s.length
  | 0, n, s => by simp [dgts]
  | f + 1, n, s => by rw [dgts, dgts_len f]; simp only [List.length_cons]; omega
theorem rdg_len (n q : Int) : (rdg n q).length = q.toNat := by unfold rdg; rw [dgts_len]; simp
theorem dig_i8 (m : Nat) : IntKind.u8.wrap (IntKind.i64.wrap (48 + (m : Int).tmod 10)) = ((48 + m % 10 : Nat) : Int) := by
  rw [tmodn (by omega), i64_in _ (by omega), IntKind.wrap_u8]; omega
theorem dig_i8' (m : Nat) : IntKind.u8.wrap (IntKind.i64.wrap (48 + (m : Int) % 10)) = ((48 + m % 10 : Nat) : Int) := by
  rw [i64_in _ (by omega), IntKind.wrap_u8]; omega
theorem dig_i8'' (m : Nat) : IntKind.u8.wrap (48 + (m : Int) % 10) = ((48 + m % 10 : Nat) : Int) := by
  rw [IntKind.wrap_u8]; omega
theorem div10 (m : Nat) : ((m : Int) / 10) = ((m / 10 : Nat) : Int) := by omega
@[go_sem] theorem k78 : kindT Tryd.prog 78 = .slice 5 := by kernel_rfl
@[go_sem] theorem s78 : szT Tryd.prog 78 = 1 := by kernel_rfl
@[go_sem] theorem p78 : posT Tryd.prog 78 = true := by kernel_rfl
@[go_sem] theorem b78 : bytesT Tryd.prog 78 = 24 := by kernel_rfl
@[go_sem] theorem z78 : zeroT Tryd.prog 78 = some [.nilsl] := by kernel_rfl
@[go_sem] theorem z5 : zeroT Tryd.prog 5 = some [.dat (.int .u8 0)] := by kernel_rfl
@[go_sem] theorem e78 : elemT Tryd.prog 78 = some (5, 1) := by kernel_rfl
def rdigitsA (x : Int × Int) : List Vm.Data := let (n, q) := x; [.int .i64 n, .int .i64 q]
noncomputable def rdigitsF : PFn := PFn.of rdigitsA (fun (n, q) => 0 ≤ n ∧ n ≤ 1000000000000 ∧ 0 ≤ q ∧ q ≤ 20) (fun (n, q) => [.str (rdg n q)])
theorem rdigits_inj (x y : Int × Int) (h : rdigitsA x = rdigitsA y) : x = y := by
  simpa [rdigitsA, Prod.ext_iff, numsD_inj, bytesD_inj, Vm.Data.lst.injEq, Int.natCast_inj] using h
@[go_sem] theorem rdigits_pre (n : Int) (q : Int) : rdigitsF.pre [.int .i64 n, .int .i64 q] = (0 ≤ n ∧ n ≤ 1000000000000 ∧ 0 ≤ q ∧ q ≤ 20) := PFn.of_pre rdigits_inj (n, q)
@[go_sem] theorem rdigits_res (n : Int) (q : Int) : rdigitsF.res [.int .i64 n, .int .i64 q] = [.str (rdg n q)] := PFn.of_res rdigits_inj (n, q)
theorem rdigits_ok : Pure E 29 rdigitsF := by
  apply Pure.of_body (rs := [.tmp 4]) (n := 23) Tryd.func29 rfl rfl rfl
  intro ds hds
  obtain ⟨⟨n, q⟩, rfl, hds⟩ := hds
  (try dsimp only at hds)
  rw [show rdigitsF.res (rdigitsA (n, q)) = [.str (rdg n q)] from rdigits_res n q]
  obtain ⟨hn0, hn, hq0, hm⟩ := hds; obtain ⟨c, ek⟩ : ∃ k : Nat, n = (k : Int) := ⟨n.toNat, by omega⟩; obtain ⟨m, em⟩ : ∃ m : Nat, q = (m : Int) := ⟨q.toNat, by omega⟩
  have ed : rdg n q = dgts m c [] := by unfold rdg; rw [ek, em, Int.toNat_natCast, Int.toNat_natCast]
  rw [ed]
  refine ⟨Nat.le_of_ble_eq_true rfl, ?_⟩
  show VC E none _ (pureSt 23 [.int .i64 n, .int .i64 q]) _
  subst ek em
  apply VC.regt sound_nil [0, 1]; intro K' hK; dsimp only [List.take, List.drop, List.map, strip, stripG]; simp -implicitDefEqProofs only [go_sem, Nat.reduceLT, Nat.reduceAdd, Nat.reduceEqDiff, reduceIte, Nat.reduceMul, Nat.reduceSub, reduceCtorEq, Int.reduceNe, Int.reduceEq, ne_eq, Nat.reduceLeDiff, Nat.reduceMod, Nat.reduceDiv]
  (repeat' first | (refine hK _ ?_; clear hK K') | with_reducible apply And.intro | (simp -implicitDefEqProofs (disch := omega) only [i64_in, tdivn, tmodn, List.length_cons, List.length_nil, Nat.reduceAdd]; done) | (simp only [maxLen]; omega) | omega | (simp only [List.length_cons, List.length_nil]; omega) | fail)
  all_goals
    apply VC.at
    · simp -implicitDefEqProofs only [go_sem, Nat.reduceLT, Nat.reduceAdd, Nat.reduceEqDiff, reduceIte, Nat.reduceMul, Nat.reduceSub, reduceCtorEq, Int.reduceNe, Int.reduceEq, ne_eq, Nat.reduceLeDiff, Nat.reduceMod, Nat.reduceDiv]; (try simp (disch := omega) only [i64_in, tmodn, tdivn]); exact rfl
    apply VC.regt sound_nil [0, 1, 5]; intro K' hK; dsimp only [List.take, List.drop, List.map, strip, stripG]; simp -implicitDefEqProofs only [go_sem, Nat.reduceLT, Nat.reduceAdd, Nat.reduceEqDiff, reduceIte, Nat.reduceMul, Nat.reduceSub, reduceCtorEq, Int.reduceNe, Int.reduceEq, ne_eq, Nat.reduceLeDiff, Nat.reduceMod, Nat.reduceDiv]
    (repeat' first | (refine hK _ ?_; clear hK K') | with_reducible apply And.intro | (simp -implicitDefEqProofs (disch := omega) only [i64_in, tdivn, tmodn, List.length_cons, List.length_nil, Nat.reduceAdd]; done) | (simp only [maxLen]; omega) | omega | (simp only [List.length_cons, List.length_nil]; omega) | fail)
    all_goals
      apply VC.at
      · simp -implicitDefEqProofs only [go_sem, Nat.reduceLT, Nat.reduceAdd, Nat.reduceEqDiff, reduceIte, Nat.reduceMul, Nat.reduceSub, reduceCtorEq, Int.reduceNe, Int.reduceEq, ne_eq, Nat.reduceLeDiff, Nat.reduceMod, Nat.reduceDiv]; (try simp (disch := omega) only [i64_in, tmodn, tdivn]); exact rfl
      apply VC.seq
      apply VC.regt sound_nil [0, 1, 5, 6]; intro K' hK; dsimp only [List.take, List.drop, List.map, strip, stripG]; simp -implicitDefEqProofs only [go_sem, Nat.reduceLT, Nat.reduceAdd, Nat.reduceEqDiff, reduceIte, Nat.reduceMul, Nat.reduceSub, reduceCtorEq, Int.reduceNe, Int.reduceEq, ne_eq, Nat.reduceLeDiff, Nat.reduceMod, Nat.reduceDiv]
      (repeat' first | (refine hK _ ?_; clear hK K') | with_reducible apply And.intro | (simp -implicitDefEqProofs (disch := omega) only [i64_in, tdivn, tmodn, List.length_cons, List.length_nil, Nat.reduceAdd]; done) | (simp only [maxLen]; omega) | omega | (simp only [List.length_cons, List.length_nil]; omega) | fail)
      all_goals
        apply VC.at
        · simp -implicitDefEqProofs only [go_sem, Nat.reduceLT, Nat.reduceAdd, Nat.reduceEqDiff, reduceIte, Nat.reduceMul, Nat.reduceSub, reduceCtorEq, Int.reduceNe, Int.reduceEq, ne_eq, Nat.reduceLeDiff, Nat.reduceMod, Nat.reduceDiv]; (try simp (disch := omega) only [i64_in, tmodn, tdivn]); exact rfl
        apply VC.block
        refine VC.loopP (ι := Nat × Nat × List UInt8) [1] (fun i => [(6, .dat (.int .i64 (i.1 : Int))), (0, .dat (.int .i64 (i.2.1 : Int))), (5, .dat (.str i.2.2))]) (fun _ => []) (fun i => i.1 ≤ m ∧ i.2.2.length ≤ i.1 ∧ i.2.1 ≤ 1000000000000 ∧ dgts (m - i.1) i.2.1 i.2.2 = dgts m c []) (fun i => m - i.1) (0, c, []) ?_ ?_ ?_
        · exact ⟨Nat.zero_le _, Nat.le_refl _, by dsimp only; omega, rfl⟩
        · refine Ent.to rfl rfl rfl ?_ ?_ <;> (simp -implicitDefEqProofs only [go_sem, Nat.reduceLT, Nat.reduceAdd, Nat.reduceEqDiff, reduceIte, Nat.reduceMul, Nat.reduceSub, reduceCtorEq, Int.reduceNe, Int.reduceEq, ne_eq, Nat.reduceLeDiff, Nat.reduceMod, Nat.reduceDiv]; (try simp only [D.dat.injEq, Vm.Data.int.injEq, true_and, and_true, and_self, eq_self]); (try omega); (try ((repeat' apply And.intro) <;> first | omega | rfl)))
        · rintro ⟨k, z, s⟩ hp; (try dsimp only at hp); obtain ⟨hk, hs, hz, hc⟩ := hp
          apply VC.at
          · simp -implicitDefEqProofs only [go_sem, Nat.reduceLT, Nat.reduceAdd, Nat.reduceEqDiff, reduceIte, Nat.reduceMul, Nat.reduceSub, reduceCtorEq, Int.reduceNe, Int.reduceEq, ne_eq, Nat.reduceLeDiff, Nat.reduceMod, Nat.reduceDiv]; (try simp (disch := omega) only [i64_in, tmodn, tdivn]); exact rfl
          apply VC.seq
          apply VC.regt sound_nil [0, 1, 5, 6, 9]; intro K' hK; dsimp only [List.take, List.drop, List.map, strip, stripG]; simp -implicitDefEqProofs only [go_sem, Nat.reduceLT, Nat.reduceAdd, Nat.reduceEqDiff, reduceIte, Nat.reduceMul, Nat.reduceSub, reduceCtorEq, Int.reduceNe, Int.reduceEq, ne_eq, Nat.reduceLeDiff, Nat.reduceMod, Nat.reduceDiv]
          (repeat' first | (refine hK _ ?_; clear hK K') | with_reducible apply And.intro | (simp -implicitDefEqProofs (disch := omega) only [i64_in, tdivn, tmodn, List.length_cons, List.length_nil, Nat.reduceAdd]; done) | (simp only [maxLen]; omega) | omega | (simp only [List.length_cons, List.length_nil]; omega) | fail)
          all_goals
            apply VC.at
            · simp -implicitDefEqProofs only [go_sem, Nat.reduceLT, Nat.reduceAdd, Nat.reduceEqDiff, reduceIte, Nat.reduceMul, Nat.reduceSub, reduceCtorEq, Int.reduceNe, Int.reduceEq, ne_eq, Nat.reduceLeDiff, Nat.reduceMod, Nat.reduceDiv]; (try simp (disch := omega) only [i64_in, tmodn, tdivn]); exact rfl
            first | (apply VC.condd; (focus (simp -implicitDefEqProofs only [go_sem, Nat.reduceLT, Nat.reduceAdd, Nat.reduceEqDiff, reduceIte, Nat.reduceMul, Nat.reduceSub, reduceCtorEq, Int.reduceNe, Int.reduceEq, ne_eq, Nat.reduceLeDiff, Nat.reduceMod, Nat.reduceDiv]; with_reducible exact rfl))) | (apply VC.condn; (focus (simp -implicitDefEqProofs only [go_sem, Nat.reduceLT, Nat.reduceAdd, Nat.reduceEqDiff, reduceIte, Nat.reduceMul, Nat.reduceSub, reduceCtorEq, Int.reduceNe, Int.reduceEq, ne_eq, Nat.reduceLeDiff, Nat.reduceMod, Nat.reduceDiv]; with_reducible exact rfl))) | (apply VC.condt; (focus (simp -implicitDefEqProofs only [go_sem, Nat.reduceLT, Nat.reduceAdd, Nat.reduceEqDiff, reduceIte, Nat.reduceMul, Nat.reduceSub, reduceCtorEq, Int.reduceNe, Int.reduceEq, ne_eq, Nat.reduceLeDiff, Nat.reduceMod, Nat.reduceDiv]; with_reducible exact rfl))) | (apply VC.condb; (focus (simp -implicitDefEqProofs only [go_sem, Nat.reduceLT, Nat.reduceAdd, Nat.reduceEqDiff, reduceIte, Nat.reduceMul, Nat.reduceSub, reduceCtorEq, Int.reduceNe, Int.reduceEq, ne_eq, Nat.reduceLeDiff, Nat.reduceMod, Nat.reduceDiv]; exact rfl)))
            · intro h; try exact absurd h (by decide)
              all_goals
                apply VC.skip
                refine thenK_n ?_
                apply VC.seq
                apply VC.block
                apply VC.regt sound_nil [0, 1, 5, 6]; intro K' hK; dsimp only [List.take, List.drop, List.map, strip, stripG]; simp -implicitDefEqProofs only [go_sem, Nat.reduceLT, Nat.reduceAdd, Nat.reduceEqDiff, reduceIte, Nat.reduceMul, Nat.reduceSub, reduceCtorEq, Int.reduceNe, Int.reduceEq, ne_eq, Nat.reduceLeDiff, Nat.reduceMod, Nat.reduceDiv]
                (repeat' first | (refine hK _ ?_; clear hK K') | with_reducible apply And.intro | (simp -implicitDefEqProofs (disch := omega) only [i64_in, tdivn, tmodn, List.length_cons, List.length_nil, Nat.reduceAdd]; done) | (simp only [maxLen]; omega) | omega | (simp only [List.length_cons, List.length_nil]; omega) | fail)
                all_goals
                  apply VC.at
                  · simp -implicitDefEqProofs only [go_sem, Nat.reduceLT, Nat.reduceAdd, Nat.reduceEqDiff, reduceIte, Nat.reduceMul, Nat.reduceSub, reduceCtorEq, Int.reduceNe, Int.reduceEq, ne_eq, Nat.reduceLeDiff, Nat.reduceMod, Nat.reduceDiv]; (try simp (disch := omega) only [i64_in, tmodn, tdivn]); (try simp only [dig_i8, dig_i8', dig_i8'']); exact rfl
                  apply VC.regLast sound_nil; intro K' hK; dsimp only [List.take, List.drop, List.map, strip, stripG]; simp -implicitDefEqProofs only [go_sem, Nat.reduceLT, Nat.reduceAdd, Nat.reduceEqDiff, reduceIte, Nat.reduceMul, Nat.reduceSub, reduceCtorEq, Int.reduceNe, Int.reduceEq, ne_eq, Nat.reduceLeDiff, Nat.reduceMod, Nat.reduceDiv]
                  (repeat' first | (refine hK _ ?_; clear hK K') | with_reducible apply And.intro | (simp -implicitDefEqProofs (disch := omega) only [i64_in, tdivn, tmodn, List.length_cons, List.length_nil, Nat.reduceAdd]; done) | (simp only [maxLen]; omega) | omega | (simp only [List.length_cons, List.length_nil]; omega) | fail)
                  all_goals
                    refine blockK_n ?_
                    refine thenK_n ?_
                    apply VC.regLast sound_nil; intro K' hK; dsimp only [List.take, List.drop, List.map, strip, stripG]; simp -implicitDefEqProofs only [go_sem, Nat.reduceLT, Nat.reduceAdd, Nat.reduceEqDiff, reduceIte, Nat.reduceMul, Nat.reduceSub, reduceCtorEq, Int.reduceNe, Int.reduceEq, ne_eq, Nat.reduceLeDiff, Nat.reduceMod, Nat.reduceDiv]
                    (repeat' first | (refine hK _ ?_; clear hK K') | with_reducible apply And.intro | (simp -implicitDefEqProofs (disch := omega) only [i64_in, tdivn, tmodn, List.length_cons, List.length_nil, Nat.reduceAdd]; done) | (simp only [maxLen]; omega) | omega | (simp only [List.length_cons, List.length_nil]; omega) | fail)
                    all_goals
                      refine thenK_n ?_
                      refine ⟨(k + 1, z / 10, UInt8.ofNat (48 + z % 10) :: s), ?_, Ent.to rfl rfl rfl ?_ ?_, ?_⟩
                      · dsimp only; exact ⟨by omega, by simp only [List.length_cons]; omega, by omega, by rw [← hc, show m - k = (m - (k + 1)) + 1 by omega]; rfl⟩
                      · simp -implicitDefEqProofs only [go_sem, Nat.reduceLT, Nat.reduceAdd, Nat.reduceEqDiff, reduceIte, Nat.reduceMul, Nat.reduceSub, reduceCtorEq, Int.reduceNe, Int.reduceEq, ne_eq, Nat.reduceLeDiff, Nat.reduceMod, Nat.reduceDiv]; (try simp (disch := omega) only [i64_in, tmodn, tdivn]); (try simp (disch := omega) only [dig_i8, dig_i8', dig_i8'', i64_in]); (try simp -implicitDefEqProofs only [go_sem, Nat.reduceLT, Nat.reduceAdd, Nat.reduceEqDiff, reduceIte, Nat.reduceMul, Nat.reduceSub, reduceCtorEq, Int.reduceNe, Int.reduceEq, ne_eq, Nat.reduceLeDiff, Nat.reduceMod, Nat.reduceDiv]); (try simp only [D.dat.injEq, Vm.Data.int.injEq, Vm.Data.str.injEq, true_and, and_true, and_self, eq_self]); first | omega | (refine ⟨?_, ?_⟩ <;> first | omega | rfl)
                      · simp -implicitDefEqProofs only [go_sem, Nat.reduceLT, Nat.reduceAdd, Nat.reduceEqDiff, reduceIte, Nat.reduceMul, Nat.reduceSub, reduceCtorEq, Int.reduceNe, Int.reduceEq, ne_eq, Nat.reduceLeDiff, Nat.reduceMod, Nat.reduceDiv]; (try simp (disch := omega) only [i64_in, tmodn, tdivn]); (try simp only [D.dat.injEq, Vm.Data.int.injEq, true_and, and_true, and_self, eq_self]); (try omega); (try ((repeat' apply And.intro) <;> first | omega | rfl))
                      · dsimp only; omega
            · intro h; try exact absurd h (by decide)
              all_goals
                apply VC.exit
                refine thenK_e ?_
                refine thenK_e ?_
                refine blockK_e ?_
                refine thenK_n ?_
                apply VC.regt sound_nil [4]; intro K' hK; dsimp only [List.take, List.drop, List.map, strip, stripG]; simp -implicitDefEqProofs only [go_sem, Nat.reduceLT, Nat.reduceAdd, Nat.reduceEqDiff, reduceIte, Nat.reduceMul, Nat.reduceSub, reduceCtorEq, Int.reduceNe, Int.reduceEq, ne_eq, Nat.reduceLeDiff, Nat.reduceMod, Nat.reduceDiv]
                (repeat' first | (refine hK _ ?_; clear hK K') | with_reducible apply And.intro | (simp -implicitDefEqProofs (disch := omega) only [i64_in, tdivn, tmodn, List.length_cons, List.length_nil, Nat.reduceAdd]; done) | (simp only [maxLen]; omega) | omega | (simp only [List.length_cons, List.length_nil]; omega) | fail)
                all_goals
                  apply VC.at
                  · simp -implicitDefEqProofs only [go_sem, Nat.reduceLT, Nat.reduceAdd, Nat.reduceEqDiff, reduceIte, Nat.reduceMul, Nat.reduceSub, reduceCtorEq, Int.reduceNe, Int.reduceEq, ne_eq, Nat.reduceLeDiff, Nat.reduceMod, Nat.reduceDiv]; (try simp (disch := omega) only [i64_in, tmodn, tdivn]); exact rfl
                  apply VC.ret
                  simp -implicitDefEqProofs only [go_sem, Nat.reduceLT, Nat.reduceAdd, Nat.reduceEqDiff, reduceIte, Nat.reduceMul, Nat.reduceSub, reduceCtorEq, Int.reduceNe, Int.reduceEq, ne_eq, Nat.reduceLeDiff, Nat.reduceMod, Nat.reduceDiv]
                  all_goals (first | (rw [← hc, show m - k = 0 by omega]; rfl))
end Go.Proofs.YtfbodageccednaaDoor.Oa
namespace Go.Proofs.YtfbodageccednaaDoor.Oa
open Go Go.RowKit Go.Proofs.YtfbodageccednaaDoor.Vm Go.IntWalk
set_option maxRecDepth 100000
set_option maxHeartbeats 4000000
noncomputable def ΦR3 : Fns := tab [(28, rdateF), (29, rdigitsF)]
theorem ΦR3_ok : Sound E ΦR3 := sound_cons (by kernel_rfl) rdate_ok (sound_cons (by kernel_rfl) rdigits_ok (sound_nil))
@[go_sem] theorem ΦR3_28 : ΦR3 28 = some rdateF := rfl
@[go_sem] theorem ΦR3_29 : ΦR3 29 = some rdigitsF := rfl
@[go_sem] theorem s34 : szT Tryd.prog 34 = 1 := by kernel_rfl
@[go_sem] theorem p34 : posT Tryd.prog 34 = true := by kernel_rfl
@[go_sem] theorem b34 : bytesT Tryd.prog 34 = 0 := by kernel_rfl
@[go_sem] theorem s55 : szT Tryd.prog 55 = 1 := by kernel_rfl
@[go_sem] theorem p55 : posT Tryd.prog 55 = true := by kernel_rfl
@[go_sem] theorem b55 : bytesT Tryd.prog 55 = 0 := by kernel_rfl
theorem rdg_l1 (n : Int) : (rdg n 1).length = 1 := rdg_len n 1
theorem rdg_l2 (n : Int) : (rdg n 2).length = 2 := rdg_len n 2
theorem rdg_l3 (n : Int) : (rdg n 3).length = 3 := rdg_len n 3
theorem rdg_l4 (n : Int) : (rdg n 4).length = 4 := rdg_len n 4
def fracS (x : Int) : List UInt8 := if x = 0 then [] else if x % 100 = 0 then 46 :: rdg (x / 100) 1 else if x % 10 = 0 then 46 :: rdg (x / 10) 2 else 46 :: rdg x 3
def rheadS (t : Int) : List UInt8 := rdg (Cal.atY (t / 86400000)) 4 ++ rdg (Cal.atM (t / 86400000)) 2 ++ rdg (Cal.atD (t / 86400000)) 2 ++ rdg (t % 86400000 / 3600000) 2 ++ rdg (t % 86400000 / 60000 % 60) 2 ++ rdg (t % 86400000 / 1000 % 60) 2
/-- A time's general text, as the document writes it. -/
def rgenS (t : Int) : List UInt8 := rheadS t ++ fracS (t % 86400000 % 1000) ++ [90]
def rgenO (t : Int) : List UInt8 := if tIn t then rgenS t else []
theorem rgenO_yes {t : Int} (h0 : 0 ≤ t) (h1 : t ≤ 253402300799999) : rgenO t = rgenS t := if_pos (tIn_yes h0 h1)
theorem rgenO_no {t : Int} (h : t < 0 ∨ 253402300799999 < t) : rgenO t = [] := by unfold rgenO; rw [tIn_no h]; rfl
theorem date_y {n : Int} (h0 : 0 ≤ n) (h1 : n ≤ 2932896) : dateY n = Cal.atY n := by unfold dateY dateIn; rw [decide_eq_true ⟨h0, h1⟩]; rfl
theorem date_m {n : Int} (h0 : 0 ≤ n) (h1 : n ≤ 2932896) : dateM n = Cal.atM n := by unfold dateM dateIn; rw [decide_eq_true ⟨h0, h1⟩]; rfl
theorem date_d {n : Int} (h0 : 0 ≤ n) (h1 : n ≤ 2932896) : dateD n = Cal.atD n := by unfold dateD dateIn; rw [decide_eq_true ⟨h0, h1⟩]; rfl
theorem frac0 {x : Int} (h : x = 0) : fracS x = [] := if_pos h
theorem frac1 {x : Int} (h0 : ¬ x = 0) (h : x % 100 = 0) : fracS x = 46 :: rdg (x / 100) 1 := by unfold fracS; rw [if_neg h0, if_pos h]
theorem frac2 {x : Int} (h0 : ¬ x = 0) (h1 : ¬ x % 100 = 0) (h : x % 10 = 0) : fracS x = 46 :: rdg (x / 10) 2 := by unfold fracS; rw [if_neg h0, if_neg h1, if_pos h]
theorem frac3 {x : Int} (h0 : ¬ x = 0) (h1 : ¬ x % 100 = 0) (h : ¬ x % 10 = 0) : fracS x = 46 :: rdg x 3 := by unfold fracS; rw [if_neg h0, if_neg h1, if_neg h]
def rgeneralA (t : Int) : List Vm.Data := [.int .i64 t]
noncomputable def rgeneralF : PFn := PFn.of rgeneralA (fun t => True) (fun t => [.str (rgenO t), .int .i64 (if tIn t then 0 else 150)])
theorem rgeneral_inj (x y : Int) (h : rgeneralA x = rgeneralA y) : x = y := by
  simpa [rgeneralA, Prod.ext_iff, numsD_inj, bytesD_inj, Vm.Data.lst.injEq, Int.natCast_inj] using h
@[go_sem] theorem rgeneral_pre (t : Int) : rgeneralF.pre [.int .i64 t] = (True) := PFn.of_pre rgeneral_inj t
@[go_sem] theorem rgeneral_res (t : Int) : rgeneralF.res [.int .i64 t] = [.str (rgenO t), .int .i64 (if tIn t then 0 else 150)] := PFn.of_res rgeneral_inj t
theorem rgeneral_ok : Pure E 13 rgeneralF := by
  apply Pure.of_body (rs := [.tmp 2, .tmp 3]) (n := 80) Tryd.func13 rfl rfl rfl
  intro ds hds
  obtain ⟨t, rfl, hds⟩ := hds
  (try dsimp only at hds)
  rw [show rgeneralF.res (rgeneralA t) = [.str (rgenO t), .int .i64 (if tIn t then 0 else 150)] from rgeneral_res t]
  skip
  refine ⟨Nat.le_of_ble_eq_true rfl, ?_⟩
  show VC E none _ (pureSt 80 [.int .i64 t]) _
  apply VC.regt ΦR3_ok [0]; intro K' hK; dsimp only [List.take, List.drop, List.map, strip, stripG]; simp -implicitDefEqProofs only [go_sem, Nat.reduceLT, Nat.reduceAdd, Nat.reduceEqDiff, reduceIte, Nat.reduceMul, Nat.reduceSub, reduceCtorEq, Int.reduceNe, Int.reduceEq, ne_eq, Nat.reduceLeDiff, Nat.reduceMod, Nat.reduceDiv]
  (repeat' first | (refine hK _ ?_; clear hK K') | with_reducible apply And.intro | (simp -implicitDefEqProofs (disch := omega) only [i64_in, tdivn, tmodn, List.length_cons, List.length_nil, Nat.reduceAdd]; done) | omega | (simp only [List.length_append, rdg_l1, rdg_l2, rdg_l3, rdg_l4, List.length_cons, List.length_nil]; omega) | (simp -implicitDefEqProofs (disch := omega) only [tdivn, tmodn, i64_in]; omega) | decide | fail)
  all_goals
    apply VC.at
    · simp -implicitDefEqProofs only [go_sem, Nat.reduceLT, Nat.reduceAdd, Nat.reduceEqDiff, reduceIte, Nat.reduceMul, Nat.reduceSub, reduceCtorEq, Int.reduceNe, Int.reduceEq, ne_eq, Nat.reduceLeDiff, Nat.reduceMod, Nat.reduceDiv]; (try simp (disch := omega) only [i64_in, tmodn, tdivn]); exact rfl
    apply VC.seq
    apply VC.regt ΦR3_ok [0, 15]; intro K' hK; dsimp only [List.take, List.drop, List.map, strip, stripG]; simp only [gtmp, List.getElem?_toArray, List.getElem?_cons_succ, List.getElem?_cons_zero, Option.bind_some]; simp -implicitDefEqProofs only [go_sem, Nat.reduceLT, Nat.reduceAdd, Nat.reduceEqDiff, reduceIte, Nat.reduceMul, Nat.reduceSub, reduceCtorEq, Int.reduceNe, Int.reduceEq, ne_eq, Nat.reduceLeDiff, Nat.reduceMod, Nat.reduceDiv]
    (repeat' first | (refine hK _ ?_; clear hK K') | (first | apply goB_splitD | apply goA_splitD | apply goB_split | apply goA_split | apply goA_all) <;> intro _ <;> simp -implicitDefEqProofs only [go_sem, Nat.reduceLT, Nat.reduceAdd, Nat.reduceEqDiff, reduceIte, Nat.reduceMul, Nat.reduceSub, reduceCtorEq, Int.reduceNe, Int.reduceEq, ne_eq, Nat.reduceLeDiff, Nat.reduceMod, Nat.reduceDiv] | with_reducible apply And.intro | (simp -implicitDefEqProofs (disch := omega) only [i64_in, tdivn, tmodn, List.length_cons, List.length_nil, Nat.reduceAdd]; done) | omega | (simp only [List.length_append, rdg_l1, rdg_l2, rdg_l3, rdg_l4, List.length_cons, List.length_nil]; omega) | (simp -implicitDefEqProofs (disch := omega) only [tdivn, tmodn, i64_in]; omega) | decide | fail)
    all_goals
      apply VC.at
      · simp -implicitDefEqProofs only [go_sem, Nat.reduceLT, Nat.reduceAdd, Nat.reduceEqDiff, reduceIte, Nat.reduceMul, Nat.reduceSub, reduceCtorEq, Int.reduceNe, Int.reduceEq, ne_eq, Nat.reduceLeDiff, Nat.reduceMod, Nat.reduceDiv]; (try simp (disch := omega) only [i64_in, tmodn, tdivn]); exact rfl
      first | (apply VC.condd; (focus (simp -implicitDefEqProofs only [go_sem, Nat.reduceLT, Nat.reduceAdd, Nat.reduceEqDiff, reduceIte, Nat.reduceMul, Nat.reduceSub, reduceCtorEq, Int.reduceNe, Int.reduceEq, ne_eq, Nat.reduceLeDiff, Nat.reduceMod, Nat.reduceDiv]; with_reducible exact rfl))) | (apply VC.condn; (focus (simp -implicitDefEqProofs only [go_sem, Nat.reduceLT, Nat.reduceAdd, Nat.reduceEqDiff, reduceIte, Nat.reduceMul, Nat.reduceSub, reduceCtorEq, Int.reduceNe, Int.reduceEq, ne_eq, Nat.reduceLeDiff, Nat.reduceMod, Nat.reduceDiv]; with_reducible exact rfl))) | (apply VC.condt; (focus (simp -implicitDefEqProofs only [go_sem, Nat.reduceLT, Nat.reduceAdd, Nat.reduceEqDiff, reduceIte, Nat.reduceMul, Nat.reduceSub, reduceCtorEq, Int.reduceNe, Int.reduceEq, ne_eq, Nat.reduceLeDiff, Nat.reduceMod, Nat.reduceDiv]; with_reducible exact rfl))) | (apply VC.condb; (focus (simp -implicitDefEqProofs only [go_sem, Nat.reduceLT, Nat.reduceAdd, Nat.reduceEqDiff, reduceIte, Nat.reduceMul, Nat.reduceSub, reduceCtorEq, Int.reduceNe, Int.reduceEq, ne_eq, Nat.reduceLeDiff, Nat.reduceMod, Nat.reduceDiv]; exact rfl)))
      · intro h; try exact absurd h (by decide)
        all_goals
          apply VC.regt ΦR3_ok [2, 3]; intro K' hK; dsimp only [List.take, List.drop, List.map, strip, stripG]; simp -implicitDefEqProofs only [go_sem, Nat.reduceLT, Nat.reduceAdd, Nat.reduceEqDiff, reduceIte, Nat.reduceMul, Nat.reduceSub, reduceCtorEq, Int.reduceNe, Int.reduceEq, ne_eq, Nat.reduceLeDiff, Nat.reduceMod, Nat.reduceDiv]
          (repeat' first | (refine hK _ ?_; clear hK K') | with_reducible apply And.intro | (simp -implicitDefEqProofs (disch := omega) only [i64_in, tdivn, tmodn, List.length_cons, List.length_nil, Nat.reduceAdd]; done) | omega | (simp only [List.length_append, rdg_l1, rdg_l2, rdg_l3, rdg_l4, List.length_cons, List.length_nil]; omega) | (simp -implicitDefEqProofs (disch := omega) only [tdivn, tmodn, i64_in]; omega) | decide | fail)
          all_goals
            apply VC.at
            · simp -implicitDefEqProofs only [go_sem, Nat.reduceLT, Nat.reduceAdd, Nat.reduceEqDiff, reduceIte, Nat.reduceMul, Nat.reduceSub, reduceCtorEq, Int.reduceNe, Int.reduceEq, ne_eq, Nat.reduceLeDiff, Nat.reduceMod, Nat.reduceDiv]; (try simp (disch := omega) only [i64_in, tmodn, tdivn]); exact rfl
            apply VC.ret
            refine thenK_r ?_
            simp -implicitDefEqProofs only [go_sem, Nat.reduceLT, Nat.reduceAdd, Nat.reduceEqDiff, reduceIte, Nat.reduceMul, Nat.reduceSub, reduceCtorEq, Int.reduceNe, Int.reduceEq, ne_eq, Nat.reduceLeDiff, Nat.reduceMod, Nat.reduceDiv]
            all_goals (first | (rw [rgenO_no (by omega), tIn_no (by omega)]; rfl) | (rw [rgenO_yes (by omega) (by omega), tIn_yes (by omega) (by omega)]; unfold rgenS rheadS; first | (rw [frac0 (by omega)]; simp; done) | (rw [frac1 (by omega) (by omega)]; simp; done) | (rw [frac2 (by omega) (by omega) (by omega)]; simp; done) | (rw [frac3 (by omega) (by omega) (by omega)]; simp; done)))
      · intro h; try exact absurd h (by decide)
        all_goals
          apply VC.skip
          refine thenK_n ?_
          have ht0 : 0 ≤ t := by omega
          have ht1 : t ≤ 253402300799999 := by omega
          have eY := date_y (n := t / 86400000) (by omega) (by omega)
          have eM := date_m (n := t / 86400000) (by omega) (by omega)
          have eD := date_d (n := t / 86400000) (by omega) (by omega)
          obtain ⟨c1, c2, c3, c4, c5⟩ := Cal.at_ok (t / 86400000) (by omega) (by omega)
          have cy := at_year (t / 86400000) (by omega) (by omega)
          have cl := long_le (Cal.atY (t / 86400000)) (Cal.atM (t / 86400000))
          apply VC.regt ΦR3_ok [0, 4, 5, 6]; intro K' hK; dsimp only [List.take, List.drop, List.map, strip, stripG]; simp -implicitDefEqProofs only [go_sem, Nat.reduceLT, Nat.reduceAdd, Nat.reduceEqDiff, reduceIte, Nat.reduceMul, Nat.reduceSub, reduceCtorEq, Int.reduceNe, Int.reduceEq, ne_eq, Nat.reduceLeDiff, Nat.reduceMod, Nat.reduceDiv]
          (repeat' first | (refine hK _ ?_; clear hK K') | ((first | with_reducible refine runA_id ?_ | with_reducible refine goA_id ?_); simp -implicitDefEqProofs (disch := omega) only [i64_in, tdivn, tmodn]; simp -implicitDefEqProofs only [go_sem, Nat.reduceLT, Nat.reduceAdd, Nat.reduceEqDiff, reduceIte, Nat.reduceMul, Nat.reduceSub, reduceCtorEq, Int.reduceNe, Int.reduceEq, ne_eq, Nat.reduceLeDiff, Nat.reduceMod, Nat.reduceDiv]) | with_reducible apply And.intro | (simp -implicitDefEqProofs (disch := omega) only [i64_in, tdivn, tmodn, List.length_cons, List.length_nil, Nat.reduceAdd]; done) | omega | (simp only [List.length_append, rdg_l1, rdg_l2, rdg_l3, rdg_l4, List.length_cons, List.length_nil]; omega) | (simp -implicitDefEqProofs (disch := omega) only [tdivn, tmodn, i64_in]; omega) | decide | fail)
          all_goals
            apply VC.at
            · simp -implicitDefEqProofs only [go_sem, Nat.reduceLT, Nat.reduceAdd, Nat.reduceEqDiff, reduceIte, Nat.reduceMul, Nat.reduceSub, reduceCtorEq, Int.reduceNe, Int.reduceEq, ne_eq, Nat.reduceLeDiff, Nat.reduceMod, Nat.reduceDiv]; (try simp (disch := omega) only [i64_in, tmodn, tdivn]); (try simp only [eY, eM, eD]); exact rfl
            apply VC.regt ΦR3_ok [4, 5, 6, 8]; intro K' hK; dsimp only [List.take, List.drop, List.map, strip, stripG]; simp -implicitDefEqProofs only [go_sem, Nat.reduceLT, Nat.reduceAdd, Nat.reduceEqDiff, reduceIte, Nat.reduceMul, Nat.reduceSub, reduceCtorEq, Int.reduceNe, Int.reduceEq, ne_eq, Nat.reduceLeDiff, Nat.reduceMod, Nat.reduceDiv]
            (repeat' first | (refine hK _ ?_; clear hK K') | with_reducible apply And.intro | (simp -implicitDefEqProofs (disch := omega) only [i64_in, tdivn, tmodn, List.length_cons, List.length_nil, Nat.reduceAdd]; done) | omega | (simp only [List.length_append, rdg_l1, rdg_l2, rdg_l3, rdg_l4, List.length_cons, List.length_nil]; omega) | (simp -implicitDefEqProofs (disch := omega) only [tdivn, tmodn, i64_in]; omega) | decide | fail)
            all_goals
              apply VC.at
              · simp -implicitDefEqProofs only [go_sem, Nat.reduceLT, Nat.reduceAdd, Nat.reduceEqDiff, reduceIte, Nat.reduceMul, Nat.reduceSub, reduceCtorEq, Int.reduceNe, Int.reduceEq, ne_eq, Nat.reduceLeDiff, Nat.reduceMod, Nat.reduceDiv]; (try simp (disch := omega) only [i64_in, tmodn, tdivn]); exact rfl
              apply VC.regt ΦR3_ok [8, 9]; intro K' hK; dsimp only [List.take, List.drop, List.map, strip, stripG]; simp -implicitDefEqProofs only [go_sem, Nat.reduceLT, Nat.reduceAdd, Nat.reduceEqDiff, reduceIte, Nat.reduceMul, Nat.reduceSub, reduceCtorEq, Int.reduceNe, Int.reduceEq, ne_eq, Nat.reduceLeDiff, Nat.reduceMod, Nat.reduceDiv]
              (repeat' first | (refine hK _ ?_; clear hK K') | ((first | with_reducible refine runA_id ?_ | with_reducible refine goA_id ?_); simp -implicitDefEqProofs (disch := omega) only [i64_in, tdivn, tmodn]; simp -implicitDefEqProofs only [go_sem, Nat.reduceLT, Nat.reduceAdd, Nat.reduceEqDiff, reduceIte, Nat.reduceMul, Nat.reduceSub, reduceCtorEq, Int.reduceNe, Int.reduceEq, ne_eq, Nat.reduceLeDiff, Nat.reduceMod, Nat.reduceDiv]) | with_reducible apply And.intro | (simp -implicitDefEqProofs (disch := omega) only [i64_in, tdivn, tmodn, List.length_cons, List.length_nil, Nat.reduceAdd]; done) | omega | (simp only [List.length_append, rdg_l1, rdg_l2, rdg_l3, rdg_l4, List.length_cons, List.length_nil]; omega) | (simp -implicitDefEqProofs (disch := omega) only [tdivn, tmodn, i64_in]; omega) | decide | fail)
              all_goals
                apply VC.at
                · simp -implicitDefEqProofs only [go_sem, Nat.reduceLT, Nat.reduceAdd, Nat.reduceEqDiff, reduceIte, Nat.reduceMul, Nat.reduceSub, reduceCtorEq, Int.reduceNe, Int.reduceEq, ne_eq, Nat.reduceLeDiff, Nat.reduceMod, Nat.reduceDiv]; (try simp (disch := omega) only [i64_in, tmodn, tdivn]); exact rfl
                apply VC.regt ΦR3_ok [8, 9]; intro K' hK; dsimp only [List.take, List.drop, List.map, strip, stripG]; simp -implicitDefEqProofs only [go_sem, Nat.reduceLT, Nat.reduceAdd, Nat.reduceEqDiff, reduceIte, Nat.reduceMul, Nat.reduceSub, reduceCtorEq, Int.reduceNe, Int.reduceEq, ne_eq, Nat.reduceLeDiff, Nat.reduceMod, Nat.reduceDiv]
                (repeat' first | (refine hK _ ?_; clear hK K') | with_reducible apply And.intro | (simp -implicitDefEqProofs (disch := omega) only [i64_in, tdivn, tmodn, List.length_cons, List.length_nil, Nat.reduceAdd]; done) | omega | (simp only [List.length_append, rdg_l1, rdg_l2, rdg_l3, rdg_l4, List.length_cons, List.length_nil]; omega) | (simp -implicitDefEqProofs (disch := omega) only [tdivn, tmodn, i64_in]; omega) | decide | fail)
                all_goals
                  apply VC.at
                  · simp -implicitDefEqProofs only [go_sem, Nat.reduceLT, Nat.reduceAdd, Nat.reduceEqDiff, reduceIte, Nat.reduceMul, Nat.reduceSub, reduceCtorEq, Int.reduceNe, Int.reduceEq, ne_eq, Nat.reduceLeDiff, Nat.reduceMod, Nat.reduceDiv]; (try simp (disch := omega) only [i64_in, tmodn, tdivn]); exact rfl
                  apply VC.seq
                  apply VC.block
                  apply VC.regt ΦR3_ok [8, 9, 55]; intro K' hK; dsimp only [List.take, List.drop, List.map, strip, stripG]; simp -implicitDefEqProofs only [go_sem, Nat.reduceLT, Nat.reduceAdd, Nat.reduceEqDiff, reduceIte, Nat.reduceMul, Nat.reduceSub, reduceCtorEq, Int.reduceNe, Int.reduceEq, ne_eq, Nat.reduceLeDiff, Nat.reduceMod, Nat.reduceDiv]
                  (repeat' first | (refine hK _ ?_; clear hK K') | with_reducible apply And.intro | (simp -implicitDefEqProofs (disch := omega) only [i64_in, tdivn, tmodn, List.length_cons, List.length_nil, Nat.reduceAdd]; done) | omega | (simp only [List.length_append, rdg_l1, rdg_l2, rdg_l3, rdg_l4, List.length_cons, List.length_nil]; omega) | (simp -implicitDefEqProofs (disch := omega) only [tdivn, tmodn, i64_in]; omega) | decide | fail)
                  all_goals
                    apply VC.at
                    · simp -implicitDefEqProofs only [go_sem, Nat.reduceLT, Nat.reduceAdd, Nat.reduceEqDiff, reduceIte, Nat.reduceMul, Nat.reduceSub, reduceCtorEq, Int.reduceNe, Int.reduceEq, ne_eq, Nat.reduceLeDiff, Nat.reduceMod, Nat.reduceDiv]; (try simp (disch := omega) only [i64_in, tmodn, tdivn]); exact rfl
                    first | (apply VC.condd; (focus (simp -implicitDefEqProofs only [go_sem, Nat.reduceLT, Nat.reduceAdd, Nat.reduceEqDiff, reduceIte, Nat.reduceMul, Nat.reduceSub, reduceCtorEq, Int.reduceNe, Int.reduceEq, ne_eq, Nat.reduceLeDiff, Nat.reduceMod, Nat.reduceDiv]; with_reducible exact rfl))) | (apply VC.condn; (focus (simp -implicitDefEqProofs only [go_sem, Nat.reduceLT, Nat.reduceAdd, Nat.reduceEqDiff, reduceIte, Nat.reduceMul, Nat.reduceSub, reduceCtorEq, Int.reduceNe, Int.reduceEq, ne_eq, Nat.reduceLeDiff, Nat.reduceMod, Nat.reduceDiv]; with_reducible exact rfl))) | (apply VC.condt; (focus (simp -implicitDefEqProofs only [go_sem, Nat.reduceLT, Nat.reduceAdd, Nat.reduceEqDiff, reduceIte, Nat.reduceMul, Nat.reduceSub, reduceCtorEq, Int.reduceNe, Int.reduceEq, ne_eq, Nat.reduceLeDiff, Nat.reduceMod, Nat.reduceDiv]; with_reducible exact rfl))) | (apply VC.condb; (focus (simp -implicitDefEqProofs only [go_sem, Nat.reduceLT, Nat.reduceAdd, Nat.reduceEqDiff, reduceIte, Nat.reduceMul, Nat.reduceSub, reduceCtorEq, Int.reduceNe, Int.reduceEq, ne_eq, Nat.reduceLeDiff, Nat.reduceMod, Nat.reduceDiv]; exact rfl)))
                    · intro h; try exact absurd h (by decide)
                      all_goals
                        apply VC.skip
                        refine blockK_n ?_
                        refine thenK_n ?_
                        apply VC.regt ΦR3_ok [2, 3]; intro K' hK; dsimp only [List.take, List.drop, List.map, strip, stripG]; simp -implicitDefEqProofs only [go_sem, Nat.reduceLT, Nat.reduceAdd, Nat.reduceEqDiff, reduceIte, Nat.reduceMul, Nat.reduceSub, reduceCtorEq, Int.reduceNe, Int.reduceEq, ne_eq, Nat.reduceLeDiff, Nat.reduceMod, Nat.reduceDiv]
                        (repeat' first | (refine hK _ ?_; clear hK K') | with_reducible apply And.intro | (simp -implicitDefEqProofs (disch := omega) only [i64_in, tdivn, tmodn, List.length_cons, List.length_nil, Nat.reduceAdd]; done) | omega | (simp only [List.length_append, rdg_l1, rdg_l2, rdg_l3, rdg_l4, List.length_cons, List.length_nil]; omega) | (simp -implicitDefEqProofs (disch := omega) only [tdivn, tmodn, i64_in]; omega) | decide | fail)
                        all_goals
                          apply VC.at
                          · simp -implicitDefEqProofs only [go_sem, Nat.reduceLT, Nat.reduceAdd, Nat.reduceEqDiff, reduceIte, Nat.reduceMul, Nat.reduceSub, reduceCtorEq, Int.reduceNe, Int.reduceEq, ne_eq, Nat.reduceLeDiff, Nat.reduceMod, Nat.reduceDiv]; (try simp (disch := omega) only [i64_in, tmodn, tdivn]); exact rfl
                          apply VC.ret
                          simp -implicitDefEqProofs only [go_sem, Nat.reduceLT, Nat.reduceAdd, Nat.reduceEqDiff, reduceIte, Nat.reduceMul, Nat.reduceSub, reduceCtorEq, Int.reduceNe, Int.reduceEq, ne_eq, Nat.reduceLeDiff, Nat.reduceMod, Nat.reduceDiv]
                          all_goals (first | (rw [rgenO_no (by omega), tIn_no (by omega)]; rfl) | (rw [rgenO_yes (by omega) (by omega), tIn_yes (by omega) (by omega)]; unfold rgenS rheadS; first | (rw [frac0 (by omega)]; simp; done) | (rw [frac1 (by omega) (by omega)]; simp; done) | (rw [frac2 (by omega) (by omega) (by omega)]; simp; done) | (rw [frac3 (by omega) (by omega) (by omega)]; simp; done)))
                    · intro h; try exact absurd h (by decide)
                      all_goals
                        apply VC.regt ΦR3_ok [8, 9, 58]; intro K' hK; dsimp only [List.take, List.drop, List.map, strip, stripG]; simp -implicitDefEqProofs only [go_sem, Nat.reduceLT, Nat.reduceAdd, Nat.reduceEqDiff, reduceIte, Nat.reduceMul, Nat.reduceSub, reduceCtorEq, Int.reduceNe, Int.reduceEq, ne_eq, Nat.reduceLeDiff, Nat.reduceMod, Nat.reduceDiv]
                        (repeat' first | (refine hK _ ?_; clear hK K') | with_reducible apply And.intro | (simp -implicitDefEqProofs (disch := omega) only [i64_in, tdivn, tmodn, List.length_cons, List.length_nil, Nat.reduceAdd]; done) | omega | (simp only [List.length_append, rdg_l1, rdg_l2, rdg_l3, rdg_l4, List.length_cons, List.length_nil]; omega) | (simp -implicitDefEqProofs (disch := omega) only [tdivn, tmodn, i64_in]; omega) | decide | fail)
                        all_goals
                          apply VC.at
                          · simp -implicitDefEqProofs only [go_sem, Nat.reduceLT, Nat.reduceAdd, Nat.reduceEqDiff, reduceIte, Nat.reduceMul, Nat.reduceSub, reduceCtorEq, Int.reduceNe, Int.reduceEq, ne_eq, Nat.reduceLeDiff, Nat.reduceMod, Nat.reduceDiv]; (try simp (disch := omega) only [i64_in, tmodn, tdivn]); exact rfl
                          first | (apply VC.condd; (focus (simp -implicitDefEqProofs only [go_sem, Nat.reduceLT, Nat.reduceAdd, Nat.reduceEqDiff, reduceIte, Nat.reduceMul, Nat.reduceSub, reduceCtorEq, Int.reduceNe, Int.reduceEq, ne_eq, Nat.reduceLeDiff, Nat.reduceMod, Nat.reduceDiv]; with_reducible exact rfl))) | (apply VC.condn; (focus (simp -implicitDefEqProofs only [go_sem, Nat.reduceLT, Nat.reduceAdd, Nat.reduceEqDiff, reduceIte, Nat.reduceMul, Nat.reduceSub, reduceCtorEq, Int.reduceNe, Int.reduceEq, ne_eq, Nat.reduceLeDiff, Nat.reduceMod, Nat.reduceDiv]; with_reducible exact rfl))) | (apply VC.condt; (focus (simp -implicitDefEqProofs only [go_sem, Nat.reduceLT, Nat.reduceAdd, Nat.reduceEqDiff, reduceIte, Nat.reduceMul, Nat.reduceSub, reduceCtorEq, Int.reduceNe, Int.reduceEq, ne_eq, Nat.reduceLeDiff, Nat.reduceMod, Nat.reduceDiv]; with_reducible exact rfl))) | (apply VC.condb; (focus (simp -implicitDefEqProofs only [go_sem, Nat.reduceLT, Nat.reduceAdd, Nat.reduceEqDiff, reduceIte, Nat.reduceMul, Nat.reduceSub, reduceCtorEq, Int.reduceNe, Int.reduceEq, ne_eq, Nat.reduceLeDiff, Nat.reduceMod, Nat.reduceDiv]; exact rfl)))
                          · intro h; try exact absurd h (by decide)
                            all_goals
                              apply VC.regLast ΦR3_ok; intro K' hK; dsimp only [List.take, List.drop, List.map, strip, stripG]; simp -implicitDefEqProofs only [go_sem, Nat.reduceLT, Nat.reduceAdd, Nat.reduceEqDiff, reduceIte, Nat.reduceMul, Nat.reduceSub, reduceCtorEq, Int.reduceNe, Int.reduceEq, ne_eq, Nat.reduceLeDiff, Nat.reduceMod, Nat.reduceDiv]
                              (repeat' first | (refine hK _ ?_; clear hK K') | ((first | with_reducible refine runA_id ?_ | with_reducible refine goA_id ?_); simp -implicitDefEqProofs (disch := omega) only [i64_in, tdivn, tmodn]; simp -implicitDefEqProofs only [go_sem, Nat.reduceLT, Nat.reduceAdd, Nat.reduceEqDiff, reduceIte, Nat.reduceMul, Nat.reduceSub, reduceCtorEq, Int.reduceNe, Int.reduceEq, ne_eq, Nat.reduceLeDiff, Nat.reduceMod, Nat.reduceDiv]) | with_reducible apply And.intro | (simp -implicitDefEqProofs (disch := omega) only [i64_in, tdivn, tmodn, List.length_cons, List.length_nil, Nat.reduceAdd]; done) | omega | (simp only [List.length_append, rdg_l1, rdg_l2, rdg_l3, rdg_l4, List.length_cons, List.length_nil]; omega) | (simp -implicitDefEqProofs (disch := omega) only [tdivn, tmodn, i64_in]; omega) | decide | fail)
                              all_goals
                                refine blockK_n ?_
                                refine thenK_n ?_
                                apply VC.regt ΦR3_ok [2, 3]; intro K' hK; dsimp only [List.take, List.drop, List.map, strip, stripG]; simp -implicitDefEqProofs only [go_sem, Nat.reduceLT, Nat.reduceAdd, Nat.reduceEqDiff, reduceIte, Nat.reduceMul, Nat.reduceSub, reduceCtorEq, Int.reduceNe, Int.reduceEq, ne_eq, Nat.reduceLeDiff, Nat.reduceMod, Nat.reduceDiv]
                                (repeat' first | (refine hK _ ?_; clear hK K') | with_reducible apply And.intro | (simp -implicitDefEqProofs (disch := omega) only [i64_in, tdivn, tmodn, List.length_cons, List.length_nil, Nat.reduceAdd]; done) | omega | (simp only [List.length_append, rdg_l1, rdg_l2, rdg_l3, rdg_l4, List.length_cons, List.length_nil]; omega) | (simp -implicitDefEqProofs (disch := omega) only [tdivn, tmodn, i64_in]; omega) | decide | fail)
                                all_goals
                                  apply VC.at
                                  · simp -implicitDefEqProofs only [go_sem, Nat.reduceLT, Nat.reduceAdd, Nat.reduceEqDiff, reduceIte, Nat.reduceMul, Nat.reduceSub, reduceCtorEq, Int.reduceNe, Int.reduceEq, ne_eq, Nat.reduceLeDiff, Nat.reduceMod, Nat.reduceDiv]; (try simp (disch := omega) only [i64_in, tmodn, tdivn]); exact rfl
                                  apply VC.ret
                                  simp -implicitDefEqProofs only [go_sem, Nat.reduceLT, Nat.reduceAdd, Nat.reduceEqDiff, reduceIte, Nat.reduceMul, Nat.reduceSub, reduceCtorEq, Int.reduceNe, Int.reduceEq, ne_eq, Nat.reduceLeDiff, Nat.reduceMod, Nat.reduceDiv]
                                  all_goals (first | (rw [rgenO_no (by omega), tIn_no (by omega)]; rfl) | (rw [rgenO_yes (by omega) (by omega), tIn_yes (by omega) (by omega)]; unfold rgenS rheadS; first | (rw [frac0 (by omega)]; simp; done) | (rw [frac1 (by omega) (by omega)]; simp; done) | (rw [frac2 (by omega) (by omega) (by omega)]; simp; done) | (rw [frac3 (by omega) (by omega) (by omega)]; simp; done)))
                          · intro h; try exact absurd h (by decide)
                            all_goals
                              apply VC.regt ΦR3_ok [8, 9, 68]; intro K' hK; dsimp only [List.take, List.drop, List.map, strip, stripG]; simp -implicitDefEqProofs only [go_sem, Nat.reduceLT, Nat.reduceAdd, Nat.reduceEqDiff, reduceIte, Nat.reduceMul, Nat.reduceSub, reduceCtorEq, Int.reduceNe, Int.reduceEq, ne_eq, Nat.reduceLeDiff, Nat.reduceMod, Nat.reduceDiv]
                              (repeat' first | (refine hK _ ?_; clear hK K') | with_reducible apply And.intro | (simp -implicitDefEqProofs (disch := omega) only [i64_in, tdivn, tmodn, List.length_cons, List.length_nil, Nat.reduceAdd]; done) | omega | (simp only [List.length_append, rdg_l1, rdg_l2, rdg_l3, rdg_l4, List.length_cons, List.length_nil]; omega) | (simp -implicitDefEqProofs (disch := omega) only [tdivn, tmodn, i64_in]; omega) | decide | fail)
                              all_goals
                                apply VC.at
                                · simp -implicitDefEqProofs only [go_sem, Nat.reduceLT, Nat.reduceAdd, Nat.reduceEqDiff, reduceIte, Nat.reduceMul, Nat.reduceSub, reduceCtorEq, Int.reduceNe, Int.reduceEq, ne_eq, Nat.reduceLeDiff, Nat.reduceMod, Nat.reduceDiv]; (try simp (disch := omega) only [i64_in, tmodn, tdivn]); exact rfl
                                first | (apply VC.condd; (focus (simp -implicitDefEqProofs only [go_sem, Nat.reduceLT, Nat.reduceAdd, Nat.reduceEqDiff, reduceIte, Nat.reduceMul, Nat.reduceSub, reduceCtorEq, Int.reduceNe, Int.reduceEq, ne_eq, Nat.reduceLeDiff, Nat.reduceMod, Nat.reduceDiv]; with_reducible exact rfl))) | (apply VC.condn; (focus (simp -implicitDefEqProofs only [go_sem, Nat.reduceLT, Nat.reduceAdd, Nat.reduceEqDiff, reduceIte, Nat.reduceMul, Nat.reduceSub, reduceCtorEq, Int.reduceNe, Int.reduceEq, ne_eq, Nat.reduceLeDiff, Nat.reduceMod, Nat.reduceDiv]; with_reducible exact rfl))) | (apply VC.condt; (focus (simp -implicitDefEqProofs only [go_sem, Nat.reduceLT, Nat.reduceAdd, Nat.reduceEqDiff, reduceIte, Nat.reduceMul, Nat.reduceSub, reduceCtorEq, Int.reduceNe, Int.reduceEq, ne_eq, Nat.reduceLeDiff, Nat.reduceMod, Nat.reduceDiv]; with_reducible exact rfl))) | (apply VC.condb; (focus (simp -implicitDefEqProofs only [go_sem, Nat.reduceLT, Nat.reduceAdd, Nat.reduceEqDiff, reduceIte, Nat.reduceMul, Nat.reduceSub, reduceCtorEq, Int.reduceNe, Int.reduceEq, ne_eq, Nat.reduceLeDiff, Nat.reduceMod, Nat.reduceDiv]; exact rfl)))
                                · intro h; try exact absurd h (by decide)
                                  all_goals
                                    apply VC.regLast ΦR3_ok; intro K' hK; dsimp only [List.take, List.drop, List.map, strip, stripG]; simp -implicitDefEqProofs only [go_sem, Nat.reduceLT, Nat.reduceAdd, Nat.reduceEqDiff, reduceIte, Nat.reduceMul, Nat.reduceSub, reduceCtorEq, Int.reduceNe, Int.reduceEq, ne_eq, Nat.reduceLeDiff, Nat.reduceMod, Nat.reduceDiv]
                                    (repeat' first | (refine hK _ ?_; clear hK K') | ((first | with_reducible refine runA_id ?_ | with_reducible refine goA_id ?_); simp -implicitDefEqProofs (disch := omega) only [i64_in, tdivn, tmodn]; simp -implicitDefEqProofs only [go_sem, Nat.reduceLT, Nat.reduceAdd, Nat.reduceEqDiff, reduceIte, Nat.reduceMul, Nat.reduceSub, reduceCtorEq, Int.reduceNe, Int.reduceEq, ne_eq, Nat.reduceLeDiff, Nat.reduceMod, Nat.reduceDiv]) | with_reducible apply And.intro | (simp -implicitDefEqProofs (disch := omega) only [i64_in, tdivn, tmodn, List.length_cons, List.length_nil, Nat.reduceAdd]; done) | omega | (simp only [List.length_append, rdg_l1, rdg_l2, rdg_l3, rdg_l4, List.length_cons, List.length_nil]; omega) | (simp -implicitDefEqProofs (disch := omega) only [tdivn, tmodn, i64_in]; omega) | decide | fail)
                                    all_goals
                                      refine blockK_n ?_
                                      refine thenK_n ?_
                                      apply VC.regt ΦR3_ok [2, 3]; intro K' hK; dsimp only [List.take, List.drop, List.map, strip, stripG]; simp -implicitDefEqProofs only [go_sem, Nat.reduceLT, Nat.reduceAdd, Nat.reduceEqDiff, reduceIte, Nat.reduceMul, Nat.reduceSub, reduceCtorEq, Int.reduceNe, Int.reduceEq, ne_eq, Nat.reduceLeDiff, Nat.reduceMod, Nat.reduceDiv]
                                      (repeat' first | (refine hK _ ?_; clear hK K') | with_reducible apply And.intro | (simp -implicitDefEqProofs (disch := omega) only [i64_in, tdivn, tmodn, List.length_cons, List.length_nil, Nat.reduceAdd]; done) | omega | (simp only [List.length_append, rdg_l1, rdg_l2, rdg_l3, rdg_l4, List.length_cons, List.length_nil]; omega) | (simp -implicitDefEqProofs (disch := omega) only [tdivn, tmodn, i64_in]; omega) | decide | fail)
                                      all_goals
                                        apply VC.at
                                        · simp -implicitDefEqProofs only [go_sem, Nat.reduceLT, Nat.reduceAdd, Nat.reduceEqDiff, reduceIte, Nat.reduceMul, Nat.reduceSub, reduceCtorEq, Int.reduceNe, Int.reduceEq, ne_eq, Nat.reduceLeDiff, Nat.reduceMod, Nat.reduceDiv]; (try simp (disch := omega) only [i64_in, tmodn, tdivn]); exact rfl
                                        apply VC.ret
                                        simp -implicitDefEqProofs only [go_sem, Nat.reduceLT, Nat.reduceAdd, Nat.reduceEqDiff, reduceIte, Nat.reduceMul, Nat.reduceSub, reduceCtorEq, Int.reduceNe, Int.reduceEq, ne_eq, Nat.reduceLeDiff, Nat.reduceMod, Nat.reduceDiv]
                                        all_goals (first | (rw [rgenO_no (by omega), tIn_no (by omega)]; rfl) | (rw [rgenO_yes (by omega) (by omega), tIn_yes (by omega) (by omega)]; unfold rgenS rheadS; first | (rw [frac0 (by omega)]; simp; done) | (rw [frac1 (by omega) (by omega)]; simp; done) | (rw [frac2 (by omega) (by omega) (by omega)]; simp; done) | (rw [frac3 (by omega) (by omega) (by omega)]; simp; done)))
                                · intro h; try exact absurd h (by decide)
                                  all_goals
                                    apply VC.regLast ΦR3_ok; intro K' hK; dsimp only [List.take, List.drop, List.map, strip, stripG]; simp -implicitDefEqProofs only [go_sem, Nat.reduceLT, Nat.reduceAdd, Nat.reduceEqDiff, reduceIte, Nat.reduceMul, Nat.reduceSub, reduceCtorEq, Int.reduceNe, Int.reduceEq, ne_eq, Nat.reduceLeDiff, Nat.reduceMod, Nat.reduceDiv]
                                    (repeat' first | (refine hK _ ?_; clear hK K') | ((first | with_reducible refine runA_id ?_ | with_reducible refine goA_id ?_); simp -implicitDefEqProofs (disch := omega) only [i64_in, tdivn, tmodn]; simp -implicitDefEqProofs only [go_sem, Nat.reduceLT, Nat.reduceAdd, Nat.reduceEqDiff, reduceIte, Nat.reduceMul, Nat.reduceSub, reduceCtorEq, Int.reduceNe, Int.reduceEq, ne_eq, Nat.reduceLeDiff, Nat.reduceMod, Nat.reduceDiv]) | with_reducible apply And.intro | (simp -implicitDefEqProofs (disch := omega) only [i64_in, tdivn, tmodn, List.length_cons, List.length_nil, Nat.reduceAdd]; done) | omega | (simp only [List.length_append, rdg_l1, rdg_l2, rdg_l3, rdg_l4, List.length_cons, List.length_nil]; omega) | (simp -implicitDefEqProofs (disch := omega) only [tdivn, tmodn, i64_in]; omega) | decide | fail)
                                    all_goals
                                      refine blockK_n ?_
                                      refine thenK_n ?_
                                      apply VC.regt ΦR3_ok [2, 3]; intro K' hK; dsimp only [List.take, List.drop, List.map, strip, stripG]; simp -implicitDefEqProofs only [go_sem, Nat.reduceLT, Nat.reduceAdd, Nat.reduceEqDiff, reduceIte, Nat.reduceMul, Nat.reduceSub, reduceCtorEq, Int.reduceNe, Int.reduceEq, ne_eq, Nat.reduceLeDiff, Nat.reduceMod, Nat.reduceDiv]
                                      (repeat' first | (refine hK _ ?_; clear hK K') | with_reducible apply And.intro | (simp -implicitDefEqProofs (disch := omega) only [i64_in, tdivn, tmodn, List.length_cons, List.length_nil, Nat.reduceAdd]; done) | omega | (simp only [List.length_append, rdg_l1, rdg_l2, rdg_l3, rdg_l4, List.length_cons, List.length_nil]; omega) | (simp -implicitDefEqProofs (disch := omega) only [tdivn, tmodn, i64_in]; omega) | decide | fail)
                                      all_goals
                                        apply VC.at
                                        · simp -implicitDefEqProofs only [go_sem, Nat.reduceLT, Nat.reduceAdd, Nat.reduceEqDiff, reduceIte, Nat.reduceMul, Nat.reduceSub, reduceCtorEq, Int.reduceNe, Int.reduceEq, ne_eq, Nat.reduceLeDiff, Nat.reduceMod, Nat.reduceDiv]; (try simp (disch := omega) only [i64_in, tmodn, tdivn]); exact rfl
                                        apply VC.ret
                                        simp -implicitDefEqProofs only [go_sem, Nat.reduceLT, Nat.reduceAdd, Nat.reduceEqDiff, reduceIte, Nat.reduceMul, Nat.reduceSub, reduceCtorEq, Int.reduceNe, Int.reduceEq, ne_eq, Nat.reduceLeDiff, Nat.reduceMod, Nat.reduceDiv]
                                        all_goals (first | (rw [rgenO_no (by omega), tIn_no (by omega)]; rfl) | (rw [rgenO_yes (by omega) (by omega), tIn_yes (by omega) (by omega)]; unfold rgenS rheadS; first | (rw [frac0 (by omega)]; simp; done) | (rw [frac1 (by omega) (by omega)]; simp; done) | (rw [frac2 (by omega) (by omega) (by omega)]; simp; done) | (rw [frac3 (by omega) (by omega) (by omega)]; simp; done)))
end Go.Proofs.YtfbodageccednaaDoor.Oa
namespace Go.Proofs.YtfbodageccednaaDoor.Oa
open Go Go.RowKit Go.Proofs.YtfbodageccednaaDoor.Vm Go.IntWalk
set_option maxRecDepth 100000
set_option maxHeartbeats 4000000
/-- The number of digits; -1: it is none. -/
def numA : Nat → List UInt8 → Int
  | acc, [] => acc
  | acc, c :: w => if c.toNat < 48 ∨ 57 < c.toNat then -1 else numA (10 * acc + (c.toNat - 48)) w
def numR (s : List UInt8) : Int := numA 0 s
theorem drop_at {s : List UInt8} {k : Nat} (h : k < s.length) : s.drop k = s.getD k 0 :: s.drop (k + 1) := by
  rw [List.getD_eq_getElem?_getD, List.getElem?_eq_getElem h]; exact List.drop_eq_getElem_cons h
theorem numA_bad {s : List UInt8} {k a : Nat} (h : k < s.length) (hc : (s.getD k 0).toNat < 48 ∨ 57 < (s.getD k 0).toNat) : numA a (s.drop k) = -1 := by
  rw [drop_at h, numA, if_pos hc]
theorem numA_step {s : List UInt8} {k a : Nat} (h : k < s.length) (hc : ¬ ((s.getD k 0).toNat < 48 ∨ 57 < (s.getD k 0).toNat)) : numA (10 * a + ((s.getD k 0).toNat - 48)) (s.drop (k + 1)) = numA a (s.drop k) := by
  rw [drop_at h, numA, if_neg hc]
theorem numA_end {s : List UInt8} {k a : Nat} (h : s.length ≤ k) : numA a (s.drop k) = a := by rw [List.drop_of_length_le h, numA]
theorem numA_le : ∀ (s : List UInt8) (a : Nat), -1 ≤ numA a s ∧ numA a s < (((a + 1) * 10 ^ s.length : Nat) : Int)
  | [], a => by rw [numA, List.length_nil, Nat.pow_zero]; omega
  | c :: w, a => by
    rw [numA]
    split
    · have : 0 < (a + 1) * 10 ^ (c :: w).length := Nat.mul_pos (by omega) (Nat.pow_pos (by decide))
      omega
    · have ih := numA_le w (10 * a + (c.toNat - 48))
      have h1 : (10 * a + (c.toNat - 48) + 1) * 10 ^ w.length ≤ (a + 1) * 10 ^ (c :: w).length := by
        rw [List.length_cons, Nat.pow_succ, Nat.mul_comm (10 ^ w.length) 10, ← Nat.mul_assoc]
        exact Nat.mul_le_mul_right _ (by omega)
      omega
theorem str_at {s : List UInt8} {k : Nat} (h : k < s.length) : s[k]? = some (s.getD k 0) := by rw [List.getD_eq_getElem?_getD, List.getElem?_eq_getElem h]; rfl
theorem dig_val (c : Nat) (h1 : ¬ c < 48) (h2 : c ≤ 57) : IntKind.u8.wrap ((c : Int) - 48) = ((c - 48 : Nat) : Int) := by rw [IntKind.wrap_u8]; omega
def numberA (s : List UInt8) : List Vm.Data := [.str s]
noncomputable def numberF : PFn := PFn.of numberA (fun s => s.length ≤ 15) (fun s => [.int .i64 (numR s)])
theorem number_inj (x y : List UInt8) (h : numberA x = numberA y) : x = y := by
  simpa [numberA, Prod.ext_iff, numsD_inj, bytesD_inj, Vm.Data.lst.injEq, Int.natCast_inj] using h
@[go_sem] theorem number_pre (s : List UInt8) : numberF.pre [.str s] = (s.length ≤ 15) := PFn.of_pre number_inj s
@[go_sem] theorem number_res (s : List UInt8) : numberF.res [.str s] = [.int .i64 (numR s)] := PFn.of_res number_inj s
theorem number_ok : Pure E 34 numberF := by
  apply Pure.of_body (rs := [.tmp 2]) (n := 30) Tryd.func34 rfl rfl rfl
  intro ds hds
  obtain ⟨s, rfl, hds⟩ := hds
  (try dsimp only at hds)
  rw [show numberF.res (numberA s) = [.int .i64 (numR s)] from number_res s]
  skip
  refine ⟨Nat.le_of_ble_eq_true rfl, ?_⟩
  show VC E none _ (pureSt 30 [.str s]) _
  apply VC.regt sound_nil [0]; intro K' hK; dsimp only [List.take, List.drop, List.map, strip, stripG]; simp -implicitDefEqProofs only [go_sem, Nat.reduceLT, Nat.reduceAdd, Nat.reduceEqDiff, reduceIte, Nat.reduceMul, Nat.reduceSub, reduceCtorEq, Int.reduceNe, Int.reduceEq, ne_eq, Nat.reduceLeDiff, Nat.reduceMod, Nat.reduceDiv]
  (repeat' first | (refine hK _ ?_; clear hK K') | with_reducible apply And.intro | (simp -implicitDefEqProofs (disch := omega) only [i64_in, str_at, List.length_cons, List.length_nil, Nat.reduceAdd]; done) | (simp only [maxLen]; omega) | omega | fail)
  all_goals
    apply VC.at
    · simp -implicitDefEqProofs only [go_sem, Nat.reduceLT, Nat.reduceAdd, Nat.reduceEqDiff, reduceIte, Nat.reduceMul, Nat.reduceSub, reduceCtorEq, Int.reduceNe, Int.reduceEq, ne_eq, Nat.reduceLeDiff, Nat.reduceMod, Nat.reduceDiv]; (try simp (disch := omega) only [i64_in, tmodn, tdivn]); exact rfl
    apply VC.regt sound_nil [0, 3]; intro K' hK; dsimp only [List.take, List.drop, List.map, strip, stripG]; simp -implicitDefEqProofs only [go_sem, Nat.reduceLT, Nat.reduceAdd, Nat.reduceEqDiff, reduceIte, Nat.reduceMul, Nat.reduceSub, reduceCtorEq, Int.reduceNe, Int.reduceEq, ne_eq, Nat.reduceLeDiff, Nat.reduceMod, Nat.reduceDiv]
    (repeat' first | (refine hK _ ?_; clear hK K') | with_reducible apply And.intro | (simp -implicitDefEqProofs (disch := omega) only [i64_in, str_at, List.length_cons, List.length_nil, Nat.reduceAdd]; done) | (simp only [maxLen]; omega) | omega | fail)
    all_goals
      apply VC.at
      · simp -implicitDefEqProofs only [go_sem, Nat.reduceLT, Nat.reduceAdd, Nat.reduceEqDiff, reduceIte, Nat.reduceMul, Nat.reduceSub, reduceCtorEq, Int.reduceNe, Int.reduceEq, ne_eq, Nat.reduceLeDiff, Nat.reduceMod, Nat.reduceDiv]; (try simp (disch := omega) only [i64_in, tmodn, tdivn]); exact rfl
      apply VC.seq
      apply VC.regt sound_nil [0, 3, 4]; intro K' hK; dsimp only [List.take, List.drop, List.map, strip, stripG]; simp -implicitDefEqProofs only [go_sem, Nat.reduceLT, Nat.reduceAdd, Nat.reduceEqDiff, reduceIte, Nat.reduceMul, Nat.reduceSub, reduceCtorEq, Int.reduceNe, Int.reduceEq, ne_eq, Nat.reduceLeDiff, Nat.reduceMod, Nat.reduceDiv]
      (repeat' first | (refine hK _ ?_; clear hK K') | with_reducible apply And.intro | (simp -implicitDefEqProofs (disch := omega) only [i64_in, str_at, List.length_cons, List.length_nil, Nat.reduceAdd]; done) | (simp only [maxLen]; omega) | omega | fail)
      all_goals
        apply VC.at
        · simp -implicitDefEqProofs only [go_sem, Nat.reduceLT, Nat.reduceAdd, Nat.reduceEqDiff, reduceIte, Nat.reduceMul, Nat.reduceSub, reduceCtorEq, Int.reduceNe, Int.reduceEq, ne_eq, Nat.reduceLeDiff, Nat.reduceMod, Nat.reduceDiv]; (try simp (disch := omega) only [i64_in, tmodn, tdivn]); exact rfl
        apply VC.block
        refine VC.loopP (ι := Nat × Nat) [0] (fun i => [(3, .dat (.int .i64 (i.2 : Int))), (4, .dat (.int .i64 (i.1 : Int)))]) (fun _ => []) (fun i => i.1 ≤ s.length ∧ i.2 < 10 ^ i.1 ∧ numA i.2 (s.drop i.1) = numR s) (fun i => s.length - i.1) (0, 0) ?_ ?_ ?_
        · exact ⟨Nat.zero_le _, by decide, rfl⟩
        · refine Ent.to rfl rfl rfl ?_ ?_ <;> (simp -implicitDefEqProofs only [go_sem, Nat.reduceLT, Nat.reduceAdd, Nat.reduceEqDiff, reduceIte, Nat.reduceMul, Nat.reduceSub, reduceCtorEq, Int.reduceNe, Int.reduceEq, ne_eq, Nat.reduceLeDiff, Nat.reduceMod, Nat.reduceDiv]; (try simp only [D.dat.injEq, Vm.Data.int.injEq, true_and, and_true, and_self, eq_self]); (try omega); (try ((repeat' apply And.intro) <;> first | omega | rfl)))
        · rintro ⟨k, a⟩ hp; (try dsimp only at hp); obtain ⟨hk, ha, hc⟩ := hp; have hp15 : 10 ^ k ≤ 10 ^ 15 := Nat.pow_le_pow_right (by decide) (by omega); have hpk : 10 ^ (k + 1) = 10 ^ k * 10 := Nat.pow_succ ..; have hc8 := (s.getD k 0).toNat_lt
          apply VC.at
          · simp -implicitDefEqProofs only [go_sem, Nat.reduceLT, Nat.reduceAdd, Nat.reduceEqDiff, reduceIte, Nat.reduceMul, Nat.reduceSub, reduceCtorEq, Int.reduceNe, Int.reduceEq, ne_eq, Nat.reduceLeDiff, Nat.reduceMod, Nat.reduceDiv]; (try simp (disch := omega) only [i64_in, tmodn, tdivn]); exact rfl
          apply VC.seq
          apply VC.regt sound_nil [0, 3, 4, 8]; intro K' hK; dsimp only [List.take, List.drop, List.map, strip, stripG]; simp -implicitDefEqProofs only [go_sem, Nat.reduceLT, Nat.reduceAdd, Nat.reduceEqDiff, reduceIte, Nat.reduceMul, Nat.reduceSub, reduceCtorEq, Int.reduceNe, Int.reduceEq, ne_eq, Nat.reduceLeDiff, Nat.reduceMod, Nat.reduceDiv]
          (repeat' first | (refine hK _ ?_; clear hK K') | with_reducible apply And.intro | (simp -implicitDefEqProofs (disch := omega) only [i64_in, str_at, List.length_cons, List.length_nil, Nat.reduceAdd]; done) | (simp only [maxLen]; omega) | omega | fail)
          all_goals
            apply VC.at
            · simp -implicitDefEqProofs only [go_sem, Nat.reduceLT, Nat.reduceAdd, Nat.reduceEqDiff, reduceIte, Nat.reduceMul, Nat.reduceSub, reduceCtorEq, Int.reduceNe, Int.reduceEq, ne_eq, Nat.reduceLeDiff, Nat.reduceMod, Nat.reduceDiv]; (try simp (disch := omega) only [i64_in, tmodn, tdivn]); exact rfl
            first | (apply VC.condd; (focus (simp -implicitDefEqProofs only [go_sem, Nat.reduceLT, Nat.reduceAdd, Nat.reduceEqDiff, reduceIte, Nat.reduceMul, Nat.reduceSub, reduceCtorEq, Int.reduceNe, Int.reduceEq, ne_eq, Nat.reduceLeDiff, Nat.reduceMod, Nat.reduceDiv]; with_reducible exact rfl))) | (apply VC.condn; (focus (simp -implicitDefEqProofs only [go_sem, Nat.reduceLT, Nat.reduceAdd, Nat.reduceEqDiff, reduceIte, Nat.reduceMul, Nat.reduceSub, reduceCtorEq, Int.reduceNe, Int.reduceEq, ne_eq, Nat.reduceLeDiff, Nat.reduceMod, Nat.reduceDiv]; with_reducible exact rfl))) | (apply VC.condt; (focus (simp -implicitDefEqProofs only [go_sem, Nat.reduceLT, Nat.reduceAdd, Nat.reduceEqDiff, reduceIte, Nat.reduceMul, Nat.reduceSub, reduceCtorEq, Int.reduceNe, Int.reduceEq, ne_eq, Nat.reduceLeDiff, Nat.reduceMod, Nat.reduceDiv]; with_reducible exact rfl))) | (apply VC.condb; (focus (simp -implicitDefEqProofs only [go_sem, Nat.reduceLT, Nat.reduceAdd, Nat.reduceEqDiff, reduceIte, Nat.reduceMul, Nat.reduceSub, reduceCtorEq, Int.reduceNe, Int.reduceEq, ne_eq, Nat.reduceLeDiff, Nat.reduceMod, Nat.reduceDiv]; exact rfl)))
            · intro h; try exact absurd h (by decide)
              all_goals
                apply VC.skip
                refine thenK_n ?_
                apply VC.seq
                apply VC.block
                apply VC.seq
                apply VC.regt sound_nil [0, 3, 4, 20]; intro K' hK; dsimp only [List.take, List.drop, List.map, strip, stripG]; simp only [gtmp, List.getElem?_toArray, List.getElem?_cons_succ, List.getElem?_cons_zero, Option.bind_some]; simp -implicitDefEqProofs only [go_sem, Nat.reduceLT, Nat.reduceAdd, Nat.reduceEqDiff, reduceIte, Nat.reduceMul, Nat.reduceSub, reduceCtorEq, Int.reduceNe, Int.reduceEq, ne_eq, Nat.reduceLeDiff, Nat.reduceMod, Nat.reduceDiv]
                (repeat' first | (refine hK _ ?_; clear hK K') | (first | apply goB_splitD | apply goA_splitD | apply goB_split | apply goA_split | apply goA_all) <;> intro _ <;> simp -implicitDefEqProofs only [go_sem, Nat.reduceLT, Nat.reduceAdd, Nat.reduceEqDiff, reduceIte, Nat.reduceMul, Nat.reduceSub, reduceCtorEq, Int.reduceNe, Int.reduceEq, ne_eq, Nat.reduceLeDiff, Nat.reduceMod, Nat.reduceDiv] | ((first | with_reducible refine runA_id ?_ | with_reducible refine goA_id ?_); simp -implicitDefEqProofs (disch := omega) only [i64_in, str_at]; simp -implicitDefEqProofs only [go_sem, Nat.reduceLT, Nat.reduceAdd, Nat.reduceEqDiff, reduceIte, Nat.reduceMul, Nat.reduceSub, reduceCtorEq, Int.reduceNe, Int.reduceEq, ne_eq, Nat.reduceLeDiff, Nat.reduceMod, Nat.reduceDiv]) | with_reducible apply And.intro | (simp -implicitDefEqProofs (disch := omega) only [i64_in, str_at, List.length_cons, List.length_nil, Nat.reduceAdd]; done) | (simp only [maxLen]; omega) | omega | fail)
                all_goals
                  apply VC.at
                  · simp -implicitDefEqProofs only [go_sem, Nat.reduceLT, Nat.reduceAdd, Nat.reduceEqDiff, reduceIte, Nat.reduceMul, Nat.reduceSub, reduceCtorEq, Int.reduceNe, Int.reduceEq, ne_eq, Nat.reduceLeDiff, Nat.reduceMod, Nat.reduceDiv]; (try simp (disch := omega) only [i64_in, tmodn, tdivn]); exact rfl
                  first | (apply VC.condd; (focus (simp -implicitDefEqProofs only [go_sem, Nat.reduceLT, Nat.reduceAdd, Nat.reduceEqDiff, reduceIte, Nat.reduceMul, Nat.reduceSub, reduceCtorEq, Int.reduceNe, Int.reduceEq, ne_eq, Nat.reduceLeDiff, Nat.reduceMod, Nat.reduceDiv]; with_reducible exact rfl))) | (apply VC.condn; (focus (simp -implicitDefEqProofs only [go_sem, Nat.reduceLT, Nat.reduceAdd, Nat.reduceEqDiff, reduceIte, Nat.reduceMul, Nat.reduceSub, reduceCtorEq, Int.reduceNe, Int.reduceEq, ne_eq, Nat.reduceLeDiff, Nat.reduceMod, Nat.reduceDiv]; with_reducible exact rfl))) | (apply VC.condt; (focus (simp -implicitDefEqProofs only [go_sem, Nat.reduceLT, Nat.reduceAdd, Nat.reduceEqDiff, reduceIte, Nat.reduceMul, Nat.reduceSub, reduceCtorEq, Int.reduceNe, Int.reduceEq, ne_eq, Nat.reduceLeDiff, Nat.reduceMod, Nat.reduceDiv]; with_reducible exact rfl))) | (apply VC.condb; (focus (simp -implicitDefEqProofs only [go_sem, Nat.reduceLT, Nat.reduceAdd, Nat.reduceEqDiff, reduceIte, Nat.reduceMul, Nat.reduceSub, reduceCtorEq, Int.reduceNe, Int.reduceEq, ne_eq, Nat.reduceLeDiff, Nat.reduceMod, Nat.reduceDiv]; exact rfl)))
                  · intro h; try exact absurd h (by decide)
                    all_goals
                      apply VC.regt sound_nil [2]; intro K' hK; dsimp only [List.take, List.drop, List.map, strip, stripG]; simp -implicitDefEqProofs only [go_sem, Nat.reduceLT, Nat.reduceAdd, Nat.reduceEqDiff, reduceIte, Nat.reduceMul, Nat.reduceSub, reduceCtorEq, Int.reduceNe, Int.reduceEq, ne_eq, Nat.reduceLeDiff, Nat.reduceMod, Nat.reduceDiv]
                      (repeat' first | (refine hK _ ?_; clear hK K') | with_reducible apply And.intro | (simp -implicitDefEqProofs (disch := omega) only [i64_in, str_at, List.length_cons, List.length_nil, Nat.reduceAdd]; done) | (simp only [maxLen]; omega) | omega | fail)
                      all_goals
                        apply VC.at
                        · simp -implicitDefEqProofs only [go_sem, Nat.reduceLT, Nat.reduceAdd, Nat.reduceEqDiff, reduceIte, Nat.reduceMul, Nat.reduceSub, reduceCtorEq, Int.reduceNe, Int.reduceEq, ne_eq, Nat.reduceLeDiff, Nat.reduceMod, Nat.reduceDiv]; (try simp (disch := omega) only [i64_in, tmodn, tdivn]); exact rfl
                        apply VC.ret
                        refine thenK_r ?_
                        refine blockK_r ?_
                        refine thenK_r ?_
                        refine thenK_r ?_
                        refine blockK_r ?_
                        refine thenK_r ?_
                        simp -implicitDefEqProofs only [go_sem, Nat.reduceLT, Nat.reduceAdd, Nat.reduceEqDiff, reduceIte, Nat.reduceMul, Nat.reduceSub, reduceCtorEq, Int.reduceNe, Int.reduceEq, ne_eq, Nat.reduceLeDiff, Nat.reduceMod, Nat.reduceDiv]
                        all_goals (first | (rw [← hc, numA_end (by omega)]; done) | (rw [← hc, numA_bad (by omega) (by omega)]; done))
                  · intro h; try exact absurd h (by decide)
                    all_goals
                      apply VC.skip
                      refine thenK_n ?_
                      apply VC.regLast sound_nil; intro K' hK; dsimp only [List.take, List.drop, List.map, strip, stripG]; simp -implicitDefEqProofs only [go_sem, Nat.reduceLT, Nat.reduceAdd, Nat.reduceEqDiff, reduceIte, Nat.reduceMul, Nat.reduceSub, reduceCtorEq, Int.reduceNe, Int.reduceEq, ne_eq, Nat.reduceLeDiff, Nat.reduceMod, Nat.reduceDiv]
                      (repeat' first | (refine hK _ ?_; clear hK K') | ((first | with_reducible refine runA_id ?_ | with_reducible refine goA_id ?_); simp -implicitDefEqProofs (disch := omega) only [i64_in, str_at]; simp -implicitDefEqProofs only [go_sem, Nat.reduceLT, Nat.reduceAdd, Nat.reduceEqDiff, reduceIte, Nat.reduceMul, Nat.reduceSub, reduceCtorEq, Int.reduceNe, Int.reduceEq, ne_eq, Nat.reduceLeDiff, Nat.reduceMod, Nat.reduceDiv]) | with_reducible apply And.intro | (simp -implicitDefEqProofs (disch := omega) only [i64_in, str_at, List.length_cons, List.length_nil, Nat.reduceAdd]; done) | (simp only [maxLen]; omega) | omega | fail)
                      all_goals
                        refine blockK_n ?_
                        refine thenK_n ?_
                        apply VC.regLast sound_nil; intro K' hK; dsimp only [List.take, List.drop, List.map, strip, stripG]; simp -implicitDefEqProofs only [go_sem, Nat.reduceLT, Nat.reduceAdd, Nat.reduceEqDiff, reduceIte, Nat.reduceMul, Nat.reduceSub, reduceCtorEq, Int.reduceNe, Int.reduceEq, ne_eq, Nat.reduceLeDiff, Nat.reduceMod, Nat.reduceDiv]
                        (repeat' first | (refine hK _ ?_; clear hK K') | with_reducible apply And.intro | (simp -implicitDefEqProofs (disch := omega) only [i64_in, str_at, List.length_cons, List.length_nil, Nat.reduceAdd]; done) | (simp only [maxLen]; omega) | omega | fail)
                        all_goals
                          refine thenK_n ?_
                          refine ⟨(k + 1, 10 * a + ((s.getD k 0).toNat - 48)), ?_, Ent.to rfl rfl rfl ?_ ?_, ?_⟩
                          · dsimp only; exact ⟨by omega, by omega, by rw [numA_step (by omega) (by omega)]; exact hc⟩
                          · simp -implicitDefEqProofs only [go_sem, Nat.reduceLT, Nat.reduceAdd, Nat.reduceEqDiff, reduceIte, Nat.reduceMul, Nat.reduceSub, reduceCtorEq, Int.reduceNe, Int.reduceEq, ne_eq, Nat.reduceLeDiff, Nat.reduceMod, Nat.reduceDiv]; (try simp (disch := omega) only [dig_val]); (try simp (disch := omega) only [i64_in, tmodn, tdivn]); (try simp only [D.dat.injEq, Vm.Data.int.injEq, true_and, and_true, and_self, eq_self]); (try omega); (try ((repeat' apply And.intro) <;> first | omega | rfl))
                          · simp -implicitDefEqProofs only [go_sem, Nat.reduceLT, Nat.reduceAdd, Nat.reduceEqDiff, reduceIte, Nat.reduceMul, Nat.reduceSub, reduceCtorEq, Int.reduceNe, Int.reduceEq, ne_eq, Nat.reduceLeDiff, Nat.reduceMod, Nat.reduceDiv]; (try simp (disch := omega) only [i64_in, tmodn, tdivn]); (try simp only [D.dat.injEq, Vm.Data.int.injEq, true_and, and_true, and_self, eq_self]); (try omega); (try ((repeat' apply And.intro) <;> first | omega | rfl))
                          · dsimp only; omega
            · intro h; try exact absurd h (by decide)
              all_goals
                apply VC.exit
                refine thenK_e ?_
                refine thenK_e ?_
                refine blockK_e ?_
                refine thenK_n ?_
                apply VC.regt sound_nil [2]; intro K' hK; dsimp only [List.take, List.drop, List.map, strip, stripG]; simp -implicitDefEqProofs only [go_sem, Nat.reduceLT, Nat.reduceAdd, Nat.reduceEqDiff, reduceIte, Nat.reduceMul, Nat.reduceSub, reduceCtorEq, Int.reduceNe, Int.reduceEq, ne_eq, Nat.reduceLeDiff, Nat.reduceMod, Nat.reduceDiv]
                (repeat' first | (refine hK _ ?_; clear hK K') | with_reducible apply And.intro | (simp -implicitDefEqProofs (disch := omega) only [i64_in, str_at, List.length_cons, List.length_nil, Nat.reduceAdd]; done) | (simp only [maxLen]; omega) | omega | fail)
                all_goals
                  apply VC.at
                  · simp -implicitDefEqProofs only [go_sem, Nat.reduceLT, Nat.reduceAdd, Nat.reduceEqDiff, reduceIte, Nat.reduceMul, Nat.reduceSub, reduceCtorEq, Int.reduceNe, Int.reduceEq, ne_eq, Nat.reduceLeDiff, Nat.reduceMod, Nat.reduceDiv]; (try simp (disch := omega) only [i64_in, tmodn, tdivn]); exact rfl
                  apply VC.ret
                  simp -implicitDefEqProofs only [go_sem, Nat.reduceLT, Nat.reduceAdd, Nat.reduceEqDiff, reduceIte, Nat.reduceMul, Nat.reduceSub, reduceCtorEq, Int.reduceNe, Int.reduceEq, ne_eq, Nat.reduceLeDiff, Nat.reduceMod, Nat.reduceDiv]
                  all_goals (first | (rw [← hc, numA_end (by omega)]; done) | (rw [← hc, numA_bad (by omega) (by omega)]; done))
end Go.Proofs.YtfbodageccednaaDoor.Oa
namespace Go.Proofs.YtfbodageccednaaDoor.Oa
open Go Go.RowKit Go.Proofs.YtfbodageccednaaDoor.Vm Go.IntWalk
set_option maxRecDepth 100000
set_option maxHeartbeats 4000000
noncomputable def ΦR5 : Fns := tab [(34, numberF), (35, rdaysF)]
theorem ΦR5_ok : Sound E ΦR5 := sound_cons (by kernel_rfl) number_ok (sound_cons (by kernel_rfl) rdays_ok (sound_nil))
@[go_sem] theorem ΦR5_34 : ΦR5 34 = some numberF := rfl
@[go_sem] theorem ΦR5_35 : ΦR5 35 = some rdaysF := rfl
@[go_sem] theorem s38 : szT Tryd.prog 38 = 1 := by kernel_rfl
@[go_sem] theorem p38 : posT Tryd.prog 38 = true := by kernel_rfl
@[go_sem] theorem b38 : bytesT Tryd.prog 38 = 0 := by kernel_rfl
@[go_sem] theorem s65 : szT Tryd.prog 65 = 1 := by kernel_rfl
@[go_sem] theorem p65 : posT Tryd.prog 65 = true := by kernel_rfl
@[go_sem] theorem b65 : bytesT Tryd.prog 65 = 0 := by kernel_rfl
def fracT (s : List UInt8) : List UInt8 := (s.drop 15).take (s.length - 16)
def mil (l : Nat) (n : Int) : Int := if l = 1 then 100 * n else if l = 2 then 10 * n else n
def allN (s : List UInt8) : Int := numR (s.take 14)
def badL (s : List UInt8) : Bool := decide (s.length < 15 ∨ 19 < s.length ∨ s.length = 16 ∨ (byteAt s ((s.length : Int) - 1)).toNat ≠ 90 ∨ allN s < 0)
def badT (n : Int) : Bool := decide (daysE (n / 10000000000) (n / 100000000 % 100) (n / 1000000 % 100) ≠ 0 ∨ 23 < n / 10000 % 100 ∨ 59 < n / 100 % 100 ∨ 59 < n % 100)
def badF (s : List UInt8) : Bool := decide (15 < s.length ∧ ((byteAt s 14).toNat ≠ 46 ∨ numR (fracT s) < 0 ∨ numR (fracT s) % 10 = 0))
def timeN (n m : Int) : Int := daysA (n / 10000000000) (n / 100000000 % 100) (n / 1000000 % 100) * 86400000 + (3600 * (n / 10000 % 100) + 60 * (n / 100 % 100) + n % 100) * 1000 + m
/-- The document's answer: a general text's time. -/
def rread (s : List UInt8) : Option Int :=
  if badL s then none else if badT (allN s) then none else if badF s then none else
    some (timeN (allN s) (if 15 < s.length then mil (s.length - 16) (numR (fracT s)) else 0))
theorem rread_L {s : List UInt8} (h : s.length < 15 ∨ 19 < s.length ∨ s.length = 16 ∨ (byteAt s ((s.length : Int) - 1)).toNat ≠ 90 ∨ allN s < 0) : rread s = none := by
  unfold rread; rw [if_pos (show badL s = true from decide_eq_true h)]
theorem rread_T {s : List UInt8} (h : daysE (allN s / 10000000000) (allN s / 100000000 % 100) (allN s / 1000000 % 100) ≠ 0 ∨ 23 < allN s / 10000 % 100 ∨ 59 < allN s / 100 % 100 ∨ 59 < allN s % 100) : rread s = none := by
  unfold rread
  rw [if_pos (show badT (allN s) = true from decide_eq_true h)]
  split <;> rfl
theorem rread_F {s : List UInt8} (h : 15 < s.length ∧ ((byteAt s 14).toNat ≠ 46 ∨ numR (fracT s) < 0 ∨ numR (fracT s) % 10 = 0)) : rread s = none := by
  unfold rread
  rw [if_pos (show badF s = true from decide_eq_true h)]
  split
  · rfl
  · split <;> rfl
theorem rreadQ_ok {s : List UInt8} (h1 : ¬ (s.length < 15 ∨ 19 < s.length ∨ s.length = 16 ∨ (byteAt s ((s.length : Int) - 1)).toNat ≠ 90 ∨ allN s < 0))
    (h2 : ¬ (daysE (allN s / 10000000000) (allN s / 100000000 % 100) (allN s / 1000000 % 100) ≠ 0 ∨ 23 < allN s / 10000 % 100 ∨ 59 < allN s / 100 % 100 ∨ 59 < allN s % 100))
    (h3 : ¬ (15 < s.length ∧ ((byteAt s 14).toNat ≠ 46 ∨ numR (fracT s) < 0 ∨ numR (fracT s) % 10 = 0))) :
    rread s = some (timeN (allN s) (if 15 < s.length then mil (s.length - 16) (numR (fracT s)) else 0)) := by
  unfold rread
  rw [if_neg (by rw [show badL s = false from decide_eq_false h1]; decide), if_neg (by rw [show badT (allN s) = false from decide_eq_false h2]; decide), if_neg (by rw [show badF s = false from decide_eq_false h3]; decide)]
theorem frac_fold {s : List UInt8} (h : 16 ≤ s.length) : List.take ((s.length : Int) - 1 - 15).toNat (List.drop 15 s) = fracT s := by
  unfold fracT; congr 1; omega
theorem frac_len {s : List UInt8} (h : 16 ≤ s.length) : (fracT s).length = s.length - 16 := by
  unfold fracT; rw [List.length_take, List.length_drop]; omega
theorem last_nat {s : List UInt8} (h : 1 ≤ s.length) : ((s.length : Int) - 1).toNat = s.length - 1 := by omega
theorem all_rng (s : List UInt8) : -1 ≤ allN s ∧ allN s < 100000000000000 := by
  have h := numA_le (s.take 14) 0
  have hl : (s.take 14).length ≤ 14 := by rw [List.length_take]; omega
  have : 10 ^ (s.take 14).length ≤ 10 ^ 14 := Nat.pow_le_pow_right (by decide) hl
  unfold allN numR
  omega
theorem frac_rng {s : List UInt8} (h : s.length ≤ 19) : -1 ≤ numR (fracT s) ∧ numR (fracT s) ≤ 999 := by
  have h1 := numA_le (fracT s) 0
  have hl : (fracT s).length ≤ 3 := by unfold fracT; rw [List.length_take]; omega
  have : 10 ^ (fracT s).length ≤ 10 ^ 3 := Nat.pow_le_pow_right (by decide) hl
  unfold numR
  omega
theorem dr_rng (y m d : Int) : 0 ≤ daysA y m d ∧ daysA y m d ≤ 2932896 := by
  unfold daysA
  split
  · rename_i h
    have h' := of_decide_eq_true h
    exact Cal.num_range y m d h'.1 h'.2.1 h'.2.2.1 h'.2.2.2.1 h'.2.2.2.2.1 h'.2.2.2.2.2
  · omega
theorem allN_fold (s : List UInt8) : numR (List.take 14 s) = allN s := rfl
theorem t14 : Int.toNat 14 = 14 := rfl
theorem t15 : Int.toNat 15 = 15 := rfl
theorem mil_rng (l : Nat) (n : Int) (h : 0 ≤ n) (h' : n ≤ 999) : 0 ≤ mil l n ∧ mil l n ≤ 99900 := by unfold mil; split <;> (try split) <;> omega
theorem mil_step {k : Nat} {x : Int} (h : 1 ≤ k) (h' : k < 3) : mil (k + 1) (10 * x) = mil k x := by unfold mil; split <;> (try split) <;> (try split) <;> (try split) <;> omega
theorem mil_end {k : Nat} {x : Int} (h : 3 ≤ k) : mil k x = x := by unfold mil; rw [if_neg (by omega), if_neg (by omega)]
theorem mil_back {k : Nat} {x : Int} (h : 0 ≤ mil k x) (h' : mil k x ≤ 99900) : 0 ≤ x ∧ x ≤ 99900 := by unfold mil at h h'; split at h <;> (try split at h) <;> (try split at h') <;> omega
def rreadA (s : List UInt8) : List Vm.Data := [.str s]
noncomputable def rreadF : PFn := PFn.of rreadA (fun s => s.length ≤ 100000) (fun s => [.int .i64 ((rread s).getD 0), .int .i64 (if (rread s).isSome then 0 else 150)])
theorem rread_inj (x y : List UInt8) (h : rreadA x = rreadA y) : x = y := by
  simpa [rreadA, Prod.ext_iff, numsD_inj, bytesD_inj, Vm.Data.lst.injEq, Int.natCast_inj] using h
@[go_sem] theorem rread_pre (s : List UInt8) : rreadF.pre [.str s] = (s.length ≤ 100000) := PFn.of_pre rread_inj s
@[go_sem] theorem rread_res (s : List UInt8) : rreadF.res [.str s] = [.int .i64 ((rread s).getD 0), .int .i64 (if (rread s).isSome then 0 else 150)] := PFn.of_res rread_inj s
theorem rread_ok : Pure E 17 rreadF := by
  apply Pure.of_body (rs := [.tmp 2, .tmp 3]) (n := 118) Tryd.func17 rfl rfl rfl
  intro ds hds
  obtain ⟨s, rfl, hds⟩ := hds
  (try dsimp only at hds)
  rw [show rreadF.res (rreadA s) = [.int .i64 ((rread s).getD 0), .int .i64 (if (rread s).isSome then 0 else 150)] from rread_res s]
  have har := all_rng s
  refine ⟨Nat.le_of_ble_eq_true rfl, ?_⟩
  show VC E none _ (pureSt 118 [.str s]) _
  apply VC.regt ΦR5_ok [0]; intro K' hK; dsimp only [List.take, List.drop, List.map, strip, stripG]; simp -implicitDefEqProofs only [go_sem, Nat.reduceLT, Nat.reduceAdd, Nat.reduceEqDiff, reduceIte, Nat.reduceMul, Nat.reduceSub, reduceCtorEq, Int.reduceNe, Int.reduceEq, ne_eq, Nat.reduceLeDiff, Nat.reduceMod, Nat.reduceDiv, t14, t15, allN_fold]
  (repeat' first | (refine hK _ ?_; clear hK K') | with_reducible apply And.intro | (simp -implicitDefEqProofs (disch := omega) only [i64_in, str_at, tdivn, tmodn, last_nat, List.length_cons, List.length_nil, Nat.reduceAdd]; done) | (simp only [maxLen]; omega) | omega | (rw [List.length_take]; omega) | (simp -implicitDefEqProofs (disch := omega) only [tdivn, tmodn, i64_in]; omega) | (rw [i64_in _ (by omega)]; omega) | fail)
  all_goals
    apply VC.at
    · simp -implicitDefEqProofs only [go_sem, Nat.reduceLT, Nat.reduceAdd, Nat.reduceEqDiff, reduceIte, Nat.reduceMul, Nat.reduceSub, reduceCtorEq, Int.reduceNe, Int.reduceEq, ne_eq, Nat.reduceLeDiff, Nat.reduceMod, Nat.reduceDiv, t14, t15, allN_fold]; (try simp (disch := omega) only [i64_in, tmodn, tdivn]); exact rfl
    apply VC.seq
    apply VC.regt ΦR5_ok [0, 34]; intro K' hK; dsimp only [List.take, List.drop, List.map, strip, stripG]; simp only [gtmp, List.getElem?_toArray, List.getElem?_cons_succ, List.getElem?_cons_zero, Option.bind_some]; simp -implicitDefEqProofs only [go_sem, Nat.reduceLT, Nat.reduceAdd, Nat.reduceEqDiff, reduceIte, Nat.reduceMul, Nat.reduceSub, reduceCtorEq, Int.reduceNe, Int.reduceEq, ne_eq, Nat.reduceLeDiff, Nat.reduceMod, Nat.reduceDiv, t14, t15, allN_fold]
    (repeat' first | (refine hK _ ?_; clear hK K') | (first | apply goB_splitD | apply goA_splitD | apply goB_split | apply goA_split | apply goA_all) <;> intro _ <;> simp -implicitDefEqProofs only [go_sem, Nat.reduceLT, Nat.reduceAdd, Nat.reduceEqDiff, reduceIte, Nat.reduceMul, Nat.reduceSub, reduceCtorEq, Int.reduceNe, Int.reduceEq, ne_eq, Nat.reduceLeDiff, Nat.reduceMod, Nat.reduceDiv, t14, t15, allN_fold] | ((first | with_reducible refine runA_id ?_ | with_reducible refine goA_id ?_); simp -implicitDefEqProofs (disch := omega) only [i64_in, str_at, tdivn, tmodn, last_nat]; simp -implicitDefEqProofs only [go_sem, Nat.reduceLT, Nat.reduceAdd, Nat.reduceEqDiff, reduceIte, Nat.reduceMul, Nat.reduceSub, reduceCtorEq, Int.reduceNe, Int.reduceEq, ne_eq, Nat.reduceLeDiff, Nat.reduceMod, Nat.reduceDiv, t14, t15, allN_fold]) | with_reducible apply And.intro | (simp -implicitDefEqProofs (disch := omega) only [i64_in, str_at, tdivn, tmodn, last_nat, List.length_cons, List.length_nil, Nat.reduceAdd]; done) | (simp only [maxLen]; omega) | omega | (rw [List.length_take]; omega) | (simp -implicitDefEqProofs (disch := omega) only [tdivn, tmodn, i64_in]; omega) | (rw [i64_in _ (by omega)]; omega) | fail)
    all_goals
      apply VC.at
      · simp -implicitDefEqProofs only [go_sem, Nat.reduceLT, Nat.reduceAdd, Nat.reduceEqDiff, reduceIte, Nat.reduceMul, Nat.reduceSub, reduceCtorEq, Int.reduceNe, Int.reduceEq, ne_eq, Nat.reduceLeDiff, Nat.reduceMod, Nat.reduceDiv, t14, t15, allN_fold]; (try simp (disch := omega) only [i64_in, tmodn, tdivn]); exact rfl
      first | (apply VC.condd; (focus (simp -implicitDefEqProofs only [go_sem, Nat.reduceLT, Nat.reduceAdd, Nat.reduceEqDiff, reduceIte, Nat.reduceMul, Nat.reduceSub, reduceCtorEq, Int.reduceNe, Int.reduceEq, ne_eq, Nat.reduceLeDiff, Nat.reduceMod, Nat.reduceDiv, t14, t15, allN_fold]; with_reducible exact rfl))) | (apply VC.condn; (focus (simp -implicitDefEqProofs only [go_sem, Nat.reduceLT, Nat.reduceAdd, Nat.reduceEqDiff, reduceIte, Nat.reduceMul, Nat.reduceSub, reduceCtorEq, Int.reduceNe, Int.reduceEq, ne_eq, Nat.reduceLeDiff, Nat.reduceMod, Nat.reduceDiv, t14, t15, allN_fold]; with_reducible exact rfl))) | (apply VC.condt; (focus (simp -implicitDefEqProofs only [go_sem, Nat.reduceLT, Nat.reduceAdd, Nat.reduceEqDiff, reduceIte, Nat.reduceMul, Nat.reduceSub, reduceCtorEq, Int.reduceNe, Int.reduceEq, ne_eq, Nat.reduceLeDiff, Nat.reduceMod, Nat.reduceDiv, t14, t15, allN_fold]; with_reducible exact rfl))) | (apply VC.condb; (focus (simp -implicitDefEqProofs only [go_sem, Nat.reduceLT, Nat.reduceAdd, Nat.reduceEqDiff, reduceIte, Nat.reduceMul, Nat.reduceSub, reduceCtorEq, Int.reduceNe, Int.reduceEq, ne_eq, Nat.reduceLeDiff, Nat.reduceMod, Nat.reduceDiv, t14, t15, allN_fold]; exact rfl)))
      · intro h; try exact absurd h (by decide)
        all_goals
          apply VC.regt ΦR5_ok [2, 3]; intro K' hK; dsimp only [List.take, List.drop, List.map, strip, stripG]; simp -implicitDefEqProofs only [go_sem, Nat.reduceLT, Nat.reduceAdd, Nat.reduceEqDiff, reduceIte, Nat.reduceMul, Nat.reduceSub, reduceCtorEq, Int.reduceNe, Int.reduceEq, ne_eq, Nat.reduceLeDiff, Nat.reduceMod, Nat.reduceDiv, t14, t15, allN_fold]
          (repeat' first | (refine hK _ ?_; clear hK K') | with_reducible apply And.intro | (simp -implicitDefEqProofs (disch := omega) only [i64_in, str_at, tdivn, tmodn, last_nat, List.length_cons, List.length_nil, Nat.reduceAdd]; done) | (simp only [maxLen]; omega) | omega | (rw [List.length_take]; omega) | (simp -implicitDefEqProofs (disch := omega) only [tdivn, tmodn, i64_in]; omega) | (rw [i64_in _ (by omega)]; omega) | fail)
          all_goals
            apply VC.at
            · simp -implicitDefEqProofs only [go_sem, Nat.reduceLT, Nat.reduceAdd, Nat.reduceEqDiff, reduceIte, Nat.reduceMul, Nat.reduceSub, reduceCtorEq, Int.reduceNe, Int.reduceEq, ne_eq, Nat.reduceLeDiff, Nat.reduceMod, Nat.reduceDiv, t14, t15, allN_fold]; (try simp (disch := omega) only [i64_in, tmodn, tdivn]); exact rfl
            apply VC.ret
            refine thenK_r ?_
            simp -implicitDefEqProofs only [go_sem, Nat.reduceLT, Nat.reduceAdd, Nat.reduceEqDiff, reduceIte, Nat.reduceMul, Nat.reduceSub, reduceCtorEq, Int.reduceNe, Int.reduceEq, ne_eq, Nat.reduceLeDiff, Nat.reduceMod, Nat.reduceDiv, t14, t15, allN_fold]
            all_goals ((try simp only [Bool.not_eq_eq_eq_not, Bool.not_false, Bool.not_true, decide_eq_true_eq, decide_eq_false_iff_not] at *); first | (rw [rread_L (by omega)]; rfl) | (rw [rread_T (by omega)]; rfl) | (rw [rread_F (by omega)]; rfl) | (rw [rreadQ_ok (by omega) (by omega) (by omega), if_neg (by omega)]; unfold timeN; (try simp (disch := omega) only [i64_in]); rfl) | (rw [rreadQ_ok (by omega) (by omega) (by omega), if_pos (by omega), ← hc, mil_end (by omega)]; unfold timeN; (try simp (disch := omega) only [i64_in]); rfl))
      · intro h; try exact absurd h (by decide)
        all_goals
          apply VC.skip
          refine thenK_n ?_
          apply VC.regt ΦR5_ok [0, 4]; intro K' hK; dsimp only [List.take, List.drop, List.map, strip, stripG]; simp -implicitDefEqProofs only [go_sem, Nat.reduceLT, Nat.reduceAdd, Nat.reduceEqDiff, reduceIte, Nat.reduceMul, Nat.reduceSub, reduceCtorEq, Int.reduceNe, Int.reduceEq, ne_eq, Nat.reduceLeDiff, Nat.reduceMod, Nat.reduceDiv, t14, t15, allN_fold]
          (repeat' first | (refine hK _ ?_; clear hK K') | ((first | with_reducible refine runA_id ?_ | with_reducible refine goA_id ?_); simp -implicitDefEqProofs (disch := omega) only [i64_in, str_at, tdivn, tmodn, last_nat]; simp -implicitDefEqProofs only [go_sem, Nat.reduceLT, Nat.reduceAdd, Nat.reduceEqDiff, reduceIte, Nat.reduceMul, Nat.reduceSub, reduceCtorEq, Int.reduceNe, Int.reduceEq, ne_eq, Nat.reduceLeDiff, Nat.reduceMod, Nat.reduceDiv, t14, t15, allN_fold]) | with_reducible apply And.intro | (simp -implicitDefEqProofs (disch := omega) only [i64_in, str_at, tdivn, tmodn, last_nat, List.length_cons, List.length_nil, Nat.reduceAdd]; done) | (simp only [maxLen]; omega) | omega | (rw [List.length_take]; omega) | (simp -implicitDefEqProofs (disch := omega) only [tdivn, tmodn, i64_in]; omega) | (rw [i64_in _ (by omega)]; omega) | fail)
          all_goals
            apply VC.at
            · simp -implicitDefEqProofs only [go_sem, Nat.reduceLT, Nat.reduceAdd, Nat.reduceEqDiff, reduceIte, Nat.reduceMul, Nat.reduceSub, reduceCtorEq, Int.reduceNe, Int.reduceEq, ne_eq, Nat.reduceLeDiff, Nat.reduceMod, Nat.reduceDiv, t14, t15, allN_fold]; (try simp (disch := omega) only [i64_in, tmodn, tdivn]); exact rfl
            apply VC.seq
            apply VC.regt ΦR5_ok [0, 4, 39]; intro K' hK; dsimp only [List.take, List.drop, List.map, strip, stripG]; simp -implicitDefEqProofs only [go_sem, Nat.reduceLT, Nat.reduceAdd, Nat.reduceEqDiff, reduceIte, Nat.reduceMul, Nat.reduceSub, reduceCtorEq, Int.reduceNe, Int.reduceEq, ne_eq, Nat.reduceLeDiff, Nat.reduceMod, Nat.reduceDiv, t14, t15, allN_fold]
            (repeat' first | (refine hK _ ?_; clear hK K') | with_reducible apply And.intro | (simp -implicitDefEqProofs (disch := omega) only [i64_in, str_at, tdivn, tmodn, last_nat, List.length_cons, List.length_nil, Nat.reduceAdd]; done) | (simp only [maxLen]; omega) | omega | (rw [List.length_take]; omega) | (simp -implicitDefEqProofs (disch := omega) only [tdivn, tmodn, i64_in]; omega) | (rw [i64_in _ (by omega)]; omega) | fail)
            all_goals
              apply VC.at
              · simp -implicitDefEqProofs only [go_sem, Nat.reduceLT, Nat.reduceAdd, Nat.reduceEqDiff, reduceIte, Nat.reduceMul, Nat.reduceSub, reduceCtorEq, Int.reduceNe, Int.reduceEq, ne_eq, Nat.reduceLeDiff, Nat.reduceMod, Nat.reduceDiv, t14, t15, allN_fold]; (try simp (disch := omega) only [i64_in, tmodn, tdivn]); exact rfl
              first | (apply VC.condd; (focus (simp -implicitDefEqProofs only [go_sem, Nat.reduceLT, Nat.reduceAdd, Nat.reduceEqDiff, reduceIte, Nat.reduceMul, Nat.reduceSub, reduceCtorEq, Int.reduceNe, Int.reduceEq, ne_eq, Nat.reduceLeDiff, Nat.reduceMod, Nat.reduceDiv, t14, t15, allN_fold]; with_reducible exact rfl))) | (apply VC.condn; (focus (simp -implicitDefEqProofs only [go_sem, Nat.reduceLT, Nat.reduceAdd, Nat.reduceEqDiff, reduceIte, Nat.reduceMul, Nat.reduceSub, reduceCtorEq, Int.reduceNe, Int.reduceEq, ne_eq, Nat.reduceLeDiff, Nat.reduceMod, Nat.reduceDiv, t14, t15, allN_fold]; with_reducible exact rfl))) | (apply VC.condt; (focus (simp -implicitDefEqProofs only [go_sem, Nat.reduceLT, Nat.reduceAdd, Nat.reduceEqDiff, reduceIte, Nat.reduceMul, Nat.reduceSub, reduceCtorEq, Int.reduceNe, Int.reduceEq, ne_eq, Nat.reduceLeDiff, Nat.reduceMod, Nat.reduceDiv, t14, t15, allN_fold]; with_reducible exact rfl))) | (apply VC.condb; (focus (simp -implicitDefEqProofs only [go_sem, Nat.reduceLT, Nat.reduceAdd, Nat.reduceEqDiff, reduceIte, Nat.reduceMul, Nat.reduceSub, reduceCtorEq, Int.reduceNe, Int.reduceEq, ne_eq, Nat.reduceLeDiff, Nat.reduceMod, Nat.reduceDiv, t14, t15, allN_fold]; exact rfl)))
              · intro h; try exact absurd h (by decide)
                all_goals
                  apply VC.regt ΦR5_ok [2, 3]; intro K' hK; dsimp only [List.take, List.drop, List.map, strip, stripG]; simp -implicitDefEqProofs only [go_sem, Nat.reduceLT, Nat.reduceAdd, Nat.reduceEqDiff, reduceIte, Nat.reduceMul, Nat.reduceSub, reduceCtorEq, Int.reduceNe, Int.reduceEq, ne_eq, Nat.reduceLeDiff, Nat.reduceMod, Nat.reduceDiv, t14, t15, allN_fold]
                  (repeat' first | (refine hK _ ?_; clear hK K') | with_reducible apply And.intro | (simp -implicitDefEqProofs (disch := omega) only [i64_in, str_at, tdivn, tmodn, last_nat, List.length_cons, List.length_nil, Nat.reduceAdd]; done) | (simp only [maxLen]; omega) | omega | (rw [List.length_take]; omega) | (simp -implicitDefEqProofs (disch := omega) only [tdivn, tmodn, i64_in]; omega) | (rw [i64_in _ (by omega)]; omega) | fail)
                  all_goals
                    apply VC.at
                    · simp -implicitDefEqProofs only [go_sem, Nat.reduceLT, Nat.reduceAdd, Nat.reduceEqDiff, reduceIte, Nat.reduceMul, Nat.reduceSub, reduceCtorEq, Int.reduceNe, Int.reduceEq, ne_eq, Nat.reduceLeDiff, Nat.reduceMod, Nat.reduceDiv, t14, t15, allN_fold]; (try simp (disch := omega) only [i64_in, tmodn, tdivn]); exact rfl
                    apply VC.ret
                    refine thenK_r ?_
                    simp -implicitDefEqProofs only [go_sem, Nat.reduceLT, Nat.reduceAdd, Nat.reduceEqDiff, reduceIte, Nat.reduceMul, Nat.reduceSub, reduceCtorEq, Int.reduceNe, Int.reduceEq, ne_eq, Nat.reduceLeDiff, Nat.reduceMod, Nat.reduceDiv, t14, t15, allN_fold]
                    all_goals ((try simp only [Bool.not_eq_eq_eq_not, Bool.not_false, Bool.not_true, decide_eq_true_eq, decide_eq_false_iff_not] at *); first | (rw [rread_L (by omega)]; rfl) | (rw [rread_T (by omega)]; rfl) | (rw [rread_F (by omega)]; rfl) | (rw [rreadQ_ok (by omega) (by omega) (by omega), if_neg (by omega)]; unfold timeN; (try simp (disch := omega) only [i64_in]); rfl) | (rw [rreadQ_ok (by omega) (by omega) (by omega), if_pos (by omega), ← hc, mil_end (by omega)]; unfold timeN; (try simp (disch := omega) only [i64_in]); rfl))
              · intro h; try exact absurd h (by decide)
                all_goals
                  apply VC.skip
                  refine thenK_n ?_
                  apply VC.regt ΦR5_ok [0, 4, 5, 6]; intro K' hK; dsimp only [List.take, List.drop, List.map, strip, stripG]; simp -implicitDefEqProofs only [go_sem, Nat.reduceLT, Nat.reduceAdd, Nat.reduceEqDiff, reduceIte, Nat.reduceMul, Nat.reduceSub, reduceCtorEq, Int.reduceNe, Int.reduceEq, ne_eq, Nat.reduceLeDiff, Nat.reduceMod, Nat.reduceDiv, t14, t15, allN_fold]
                  (repeat' first | (refine hK _ ?_; clear hK K') | ((first | with_reducible refine runA_id ?_ | with_reducible refine goA_id ?_); simp -implicitDefEqProofs (disch := omega) only [i64_in, str_at, tdivn, tmodn, last_nat]; simp -implicitDefEqProofs only [go_sem, Nat.reduceLT, Nat.reduceAdd, Nat.reduceEqDiff, reduceIte, Nat.reduceMul, Nat.reduceSub, reduceCtorEq, Int.reduceNe, Int.reduceEq, ne_eq, Nat.reduceLeDiff, Nat.reduceMod, Nat.reduceDiv, t14, t15, allN_fold]) | with_reducible apply And.intro | (simp -implicitDefEqProofs (disch := omega) only [i64_in, str_at, tdivn, tmodn, last_nat, List.length_cons, List.length_nil, Nat.reduceAdd]; done) | (simp only [maxLen]; omega) | omega | (rw [List.length_take]; omega) | (simp -implicitDefEqProofs (disch := omega) only [tdivn, tmodn, i64_in]; omega) | (rw [i64_in _ (by omega)]; omega) | fail)
                  all_goals
                    apply VC.at
                    · simp -implicitDefEqProofs only [go_sem, Nat.reduceLT, Nat.reduceAdd, Nat.reduceEqDiff, reduceIte, Nat.reduceMul, Nat.reduceSub, reduceCtorEq, Int.reduceNe, Int.reduceEq, ne_eq, Nat.reduceLeDiff, Nat.reduceMod, Nat.reduceDiv, t14, t15, allN_fold]; (try simp (disch := omega) only [i64_in, tmodn, tdivn]); exact rfl
                    apply VC.regt ΦR5_ok [0, 4, 5, 6, 7]; intro K' hK; dsimp only [List.take, List.drop, List.map, strip, stripG]; simp -implicitDefEqProofs only [go_sem, Nat.reduceLT, Nat.reduceAdd, Nat.reduceEqDiff, reduceIte, Nat.reduceMul, Nat.reduceSub, reduceCtorEq, Int.reduceNe, Int.reduceEq, ne_eq, Nat.reduceLeDiff, Nat.reduceMod, Nat.reduceDiv, t14, t15, allN_fold]
                    (repeat' first | (refine hK _ ?_; clear hK K') | with_reducible apply And.intro | (simp -implicitDefEqProofs (disch := omega) only [i64_in, str_at, tdivn, tmodn, last_nat, List.length_cons, List.length_nil, Nat.reduceAdd]; done) | (simp only [maxLen]; omega) | omega | (rw [List.length_take]; omega) | (simp -implicitDefEqProofs (disch := omega) only [tdivn, tmodn, i64_in]; omega) | (rw [i64_in _ (by omega)]; omega) | fail)
                    all_goals
                      apply VC.at
                      · simp -implicitDefEqProofs only [go_sem, Nat.reduceLT, Nat.reduceAdd, Nat.reduceEqDiff, reduceIte, Nat.reduceMul, Nat.reduceSub, reduceCtorEq, Int.reduceNe, Int.reduceEq, ne_eq, Nat.reduceLeDiff, Nat.reduceMod, Nat.reduceDiv, t14, t15, allN_fold]; (try simp (disch := omega) only [i64_in, tmodn, tdivn]); exact rfl
                      apply VC.regt ΦR5_ok [0, 4, 5, 6, 7, 8]; intro K' hK; dsimp only [List.take, List.drop, List.map, strip, stripG]; simp -implicitDefEqProofs only [go_sem, Nat.reduceLT, Nat.reduceAdd, Nat.reduceEqDiff, reduceIte, Nat.reduceMul, Nat.reduceSub, reduceCtorEq, Int.reduceNe, Int.reduceEq, ne_eq, Nat.reduceLeDiff, Nat.reduceMod, Nat.reduceDiv, t14, t15, allN_fold]
                      (repeat' first | (refine hK _ ?_; clear hK K') | with_reducible apply And.intro | (simp -implicitDefEqProofs (disch := omega) only [i64_in, str_at, tdivn, tmodn, last_nat, List.length_cons, List.length_nil, Nat.reduceAdd]; done) | (simp only [maxLen]; omega) | omega | (rw [List.length_take]; omega) | (simp -implicitDefEqProofs (disch := omega) only [tdivn, tmodn, i64_in]; omega) | (rw [i64_in _ (by omega)]; omega) | fail)
                      all_goals
                        apply VC.at
                        · simp -implicitDefEqProofs only [go_sem, Nat.reduceLT, Nat.reduceAdd, Nat.reduceEqDiff, reduceIte, Nat.reduceMul, Nat.reduceSub, reduceCtorEq, Int.reduceNe, Int.reduceEq, ne_eq, Nat.reduceLeDiff, Nat.reduceMod, Nat.reduceDiv, t14, t15, allN_fold]; (try simp (disch := omega) only [i64_in, tmodn, tdivn]); exact rfl
                        apply VC.regt ΦR5_ok [0, 5, 6, 7, 8, 9]; intro K' hK; dsimp only [List.take, List.drop, List.map, strip, stripG]; simp -implicitDefEqProofs only [go_sem, Nat.reduceLT, Nat.reduceAdd, Nat.reduceEqDiff, reduceIte, Nat.reduceMul, Nat.reduceSub, reduceCtorEq, Int.reduceNe, Int.reduceEq, ne_eq, Nat.reduceLeDiff, Nat.reduceMod, Nat.reduceDiv, t14, t15, allN_fold]
                        (repeat' first | (refine hK _ ?_; clear hK K') | with_reducible apply And.intro | (simp -implicitDefEqProofs (disch := omega) only [i64_in, str_at, tdivn, tmodn, last_nat, List.length_cons, List.length_nil, Nat.reduceAdd]; done) | (simp only [maxLen]; omega) | omega | (rw [List.length_take]; omega) | (simp -implicitDefEqProofs (disch := omega) only [tdivn, tmodn, i64_in]; omega) | (rw [i64_in _ (by omega)]; omega) | fail)
                        all_goals
                          apply VC.at
                          · simp -implicitDefEqProofs only [go_sem, Nat.reduceLT, Nat.reduceAdd, Nat.reduceEqDiff, reduceIte, Nat.reduceMul, Nat.reduceSub, reduceCtorEq, Int.reduceNe, Int.reduceEq, ne_eq, Nat.reduceLeDiff, Nat.reduceMod, Nat.reduceDiv, t14, t15, allN_fold]; (try simp (disch := omega) only [i64_in, tmodn, tdivn]); exact rfl
                          apply VC.seq
                          apply VC.regt ΦR5_ok [0, 5, 7, 8, 9, 73]; intro K' hK; dsimp only [List.take, List.drop, List.map, strip, stripG]; simp only [gtmp, List.getElem?_toArray, List.getElem?_cons_succ, List.getElem?_cons_zero, Option.bind_some]; simp -implicitDefEqProofs only [go_sem, Nat.reduceLT, Nat.reduceAdd, Nat.reduceEqDiff, reduceIte, Nat.reduceMul, Nat.reduceSub, reduceCtorEq, Int.reduceNe, Int.reduceEq, ne_eq, Nat.reduceLeDiff, Nat.reduceMod, Nat.reduceDiv, t14, t15, allN_fold]
                          (repeat' first | (refine hK _ ?_; clear hK K') | (first | apply goB_splitD | apply goA_splitD | apply goB_split | apply goA_split | apply goA_all) <;> intro _ <;> simp -implicitDefEqProofs only [go_sem, Nat.reduceLT, Nat.reduceAdd, Nat.reduceEqDiff, reduceIte, Nat.reduceMul, Nat.reduceSub, reduceCtorEq, Int.reduceNe, Int.reduceEq, ne_eq, Nat.reduceLeDiff, Nat.reduceMod, Nat.reduceDiv, t14, t15, allN_fold] | with_reducible apply And.intro | (simp -implicitDefEqProofs (disch := omega) only [i64_in, str_at, tdivn, tmodn, last_nat, List.length_cons, List.length_nil, Nat.reduceAdd]; done) | (simp only [maxLen]; omega) | omega | (rw [List.length_take]; omega) | (simp -implicitDefEqProofs (disch := omega) only [tdivn, tmodn, i64_in]; omega) | (rw [i64_in _ (by omega)]; omega) | fail)
                          all_goals
                            apply VC.at
                            · simp -implicitDefEqProofs only [go_sem, Nat.reduceLT, Nat.reduceAdd, Nat.reduceEqDiff, reduceIte, Nat.reduceMul, Nat.reduceSub, reduceCtorEq, Int.reduceNe, Int.reduceEq, ne_eq, Nat.reduceLeDiff, Nat.reduceMod, Nat.reduceDiv, t14, t15, allN_fold]; (try simp (disch := omega) only [i64_in, tmodn, tdivn]); exact rfl
                            first | (apply VC.condd; (focus (simp -implicitDefEqProofs only [go_sem, Nat.reduceLT, Nat.reduceAdd, Nat.reduceEqDiff, reduceIte, Nat.reduceMul, Nat.reduceSub, reduceCtorEq, Int.reduceNe, Int.reduceEq, ne_eq, Nat.reduceLeDiff, Nat.reduceMod, Nat.reduceDiv, t14, t15, allN_fold]; with_reducible exact rfl))) | (apply VC.condn; (focus (simp -implicitDefEqProofs only [go_sem, Nat.reduceLT, Nat.reduceAdd, Nat.reduceEqDiff, reduceIte, Nat.reduceMul, Nat.reduceSub, reduceCtorEq, Int.reduceNe, Int.reduceEq, ne_eq, Nat.reduceLeDiff, Nat.reduceMod, Nat.reduceDiv, t14, t15, allN_fold]; with_reducible exact rfl))) | (apply VC.condt; (focus (simp -implicitDefEqProofs only [go_sem, Nat.reduceLT, Nat.reduceAdd, Nat.reduceEqDiff, reduceIte, Nat.reduceMul, Nat.reduceSub, reduceCtorEq, Int.reduceNe, Int.reduceEq, ne_eq, Nat.reduceLeDiff, Nat.reduceMod, Nat.reduceDiv, t14, t15, allN_fold]; with_reducible exact rfl))) | (apply VC.condb; (focus (simp -implicitDefEqProofs only [go_sem, Nat.reduceLT, Nat.reduceAdd, Nat.reduceEqDiff, reduceIte, Nat.reduceMul, Nat.reduceSub, reduceCtorEq, Int.reduceNe, Int.reduceEq, ne_eq, Nat.reduceLeDiff, Nat.reduceMod, Nat.reduceDiv, t14, t15, allN_fold]; exact rfl)))
                            · intro h; try exact absurd h (by decide)
                              all_goals
                                apply VC.regt ΦR5_ok [2, 3]; intro K' hK; dsimp only [List.take, List.drop, List.map, strip, stripG]; simp -implicitDefEqProofs only [go_sem, Nat.reduceLT, Nat.reduceAdd, Nat.reduceEqDiff, reduceIte, Nat.reduceMul, Nat.reduceSub, reduceCtorEq, Int.reduceNe, Int.reduceEq, ne_eq, Nat.reduceLeDiff, Nat.reduceMod, Nat.reduceDiv, t14, t15, allN_fold]
                                (repeat' first | (refine hK _ ?_; clear hK K') | with_reducible apply And.intro | (simp -implicitDefEqProofs (disch := omega) only [i64_in, str_at, tdivn, tmodn, last_nat, List.length_cons, List.length_nil, Nat.reduceAdd]; done) | (simp only [maxLen]; omega) | omega | (rw [List.length_take]; omega) | (simp -implicitDefEqProofs (disch := omega) only [tdivn, tmodn, i64_in]; omega) | (rw [i64_in _ (by omega)]; omega) | fail)
                                all_goals
                                  apply VC.at
                                  · simp -implicitDefEqProofs only [go_sem, Nat.reduceLT, Nat.reduceAdd, Nat.reduceEqDiff, reduceIte, Nat.reduceMul, Nat.reduceSub, reduceCtorEq, Int.reduceNe, Int.reduceEq, ne_eq, Nat.reduceLeDiff, Nat.reduceMod, Nat.reduceDiv, t14, t15, allN_fold]; (try simp (disch := omega) only [i64_in, tmodn, tdivn]); exact rfl
                                  apply VC.ret
                                  refine thenK_r ?_
                                  simp -implicitDefEqProofs only [go_sem, Nat.reduceLT, Nat.reduceAdd, Nat.reduceEqDiff, reduceIte, Nat.reduceMul, Nat.reduceSub, reduceCtorEq, Int.reduceNe, Int.reduceEq, ne_eq, Nat.reduceLeDiff, Nat.reduceMod, Nat.reduceDiv, t14, t15, allN_fold]
                                  all_goals ((try simp only [Bool.not_eq_eq_eq_not, Bool.not_false, Bool.not_true, decide_eq_true_eq, decide_eq_false_iff_not] at *); first | (rw [rread_L (by omega)]; rfl) | (rw [rread_T (by omega)]; rfl) | (rw [rread_F (by omega)]; rfl) | (rw [rreadQ_ok (by omega) (by omega) (by omega), if_neg (by omega)]; unfold timeN; (try simp (disch := omega) only [i64_in]); rfl) | (rw [rreadQ_ok (by omega) (by omega) (by omega), if_pos (by omega), ← hc, mil_end (by omega)]; unfold timeN; (try simp (disch := omega) only [i64_in]); rfl))
                            · intro h; try exact absurd h (by decide)
                              all_goals
                                apply VC.skip
                                refine thenK_n ?_
                                apply VC.regt ΦR5_ok [0, 5, 7, 8, 9, 10]; intro K' hK; dsimp only [List.take, List.drop, List.map, strip, stripG]; simp -implicitDefEqProofs only [go_sem, Nat.reduceLT, Nat.reduceAdd, Nat.reduceEqDiff, reduceIte, Nat.reduceMul, Nat.reduceSub, reduceCtorEq, Int.reduceNe, Int.reduceEq, ne_eq, Nat.reduceLeDiff, Nat.reduceMod, Nat.reduceDiv, t14, t15, allN_fold]
                                (repeat' first | (refine hK _ ?_; clear hK K') | with_reducible apply And.intro | (simp -implicitDefEqProofs (disch := omega) only [i64_in, str_at, tdivn, tmodn, last_nat, List.length_cons, List.length_nil, Nat.reduceAdd]; done) | (simp only [maxLen]; omega) | omega | (rw [List.length_take]; omega) | (simp -implicitDefEqProofs (disch := omega) only [tdivn, tmodn, i64_in]; omega) | (rw [i64_in _ (by omega)]; omega) | fail)
                                all_goals
                                  apply VC.at
                                  · simp -implicitDefEqProofs only [go_sem, Nat.reduceLT, Nat.reduceAdd, Nat.reduceEqDiff, reduceIte, Nat.reduceMul, Nat.reduceSub, reduceCtorEq, Int.reduceNe, Int.reduceEq, ne_eq, Nat.reduceLeDiff, Nat.reduceMod, Nat.reduceDiv, t14, t15, allN_fold]; (try simp (disch := omega) only [i64_in, tmodn, tdivn]); exact rfl
                                  apply VC.seq
                                  apply VC.regt ΦR5_ok [0, 5, 7, 8, 9, 10, 76]; intro K' hK; dsimp only [List.take, List.drop, List.map, strip, stripG]; simp -implicitDefEqProofs only [go_sem, Nat.reduceLT, Nat.reduceAdd, Nat.reduceEqDiff, reduceIte, Nat.reduceMul, Nat.reduceSub, reduceCtorEq, Int.reduceNe, Int.reduceEq, ne_eq, Nat.reduceLeDiff, Nat.reduceMod, Nat.reduceDiv, t14, t15, allN_fold]
                                  (repeat' first | (refine hK _ ?_; clear hK K') | with_reducible apply And.intro | (simp -implicitDefEqProofs (disch := omega) only [i64_in, str_at, tdivn, tmodn, last_nat, List.length_cons, List.length_nil, Nat.reduceAdd]; done) | (simp only [maxLen]; omega) | omega | (rw [List.length_take]; omega) | (simp -implicitDefEqProofs (disch := omega) only [tdivn, tmodn, i64_in]; omega) | (rw [i64_in _ (by omega)]; omega) | fail)
                                  all_goals
                                    apply VC.at
                                    · simp -implicitDefEqProofs only [go_sem, Nat.reduceLT, Nat.reduceAdd, Nat.reduceEqDiff, reduceIte, Nat.reduceMul, Nat.reduceSub, reduceCtorEq, Int.reduceNe, Int.reduceEq, ne_eq, Nat.reduceLeDiff, Nat.reduceMod, Nat.reduceDiv, t14, t15, allN_fold]; (try simp (disch := omega) only [i64_in, tmodn, tdivn]); exact rfl
                                    first | (apply VC.condd; (focus (simp -implicitDefEqProofs only [go_sem, Nat.reduceLT, Nat.reduceAdd, Nat.reduceEqDiff, reduceIte, Nat.reduceMul, Nat.reduceSub, reduceCtorEq, Int.reduceNe, Int.reduceEq, ne_eq, Nat.reduceLeDiff, Nat.reduceMod, Nat.reduceDiv, t14, t15, allN_fold]; with_reducible exact rfl))) | (apply VC.condn; (focus (simp -implicitDefEqProofs only [go_sem, Nat.reduceLT, Nat.reduceAdd, Nat.reduceEqDiff, reduceIte, Nat.reduceMul, Nat.reduceSub, reduceCtorEq, Int.reduceNe, Int.reduceEq, ne_eq, Nat.reduceLeDiff, Nat.reduceMod, Nat.reduceDiv, t14, t15, allN_fold]; with_reducible exact rfl))) | (apply VC.condt; (focus (simp -implicitDefEqProofs only [go_sem, Nat.reduceLT, Nat.reduceAdd, Nat.reduceEqDiff, reduceIte, Nat.reduceMul, Nat.reduceSub, reduceCtorEq, Int.reduceNe, Int.reduceEq, ne_eq, Nat.reduceLeDiff, Nat.reduceMod, Nat.reduceDiv, t14, t15, allN_fold]; with_reducible exact rfl))) | (apply VC.condb; (focus (simp -implicitDefEqProofs only [go_sem, Nat.reduceLT, Nat.reduceAdd, Nat.reduceEqDiff, reduceIte, Nat.reduceMul, Nat.reduceSub, reduceCtorEq, Int.reduceNe, Int.reduceEq, ne_eq, Nat.reduceLeDiff, Nat.reduceMod, Nat.reduceDiv, t14, t15, allN_fold]; exact rfl)))
                                    · intro h; try exact absurd h (by decide)
                                      all_goals
                                        apply VC.regt ΦR5_ok [0, 5, 7, 8, 9, 11]; intro K' hK; dsimp only [List.take, List.drop, List.map, strip, stripG]; simp -implicitDefEqProofs only [go_sem, Nat.reduceLT, Nat.reduceAdd, Nat.reduceEqDiff, reduceIte, Nat.reduceMul, Nat.reduceSub, reduceCtorEq, Int.reduceNe, Int.reduceEq, ne_eq, Nat.reduceLeDiff, Nat.reduceMod, Nat.reduceDiv, t14, t15, allN_fold]
                                        (repeat' first | (refine hK _ ?_; clear hK K') | ((first | with_reducible refine runA_id ?_ | with_reducible refine goA_id ?_); simp -implicitDefEqProofs (disch := omega) only [i64_in, str_at, tdivn, tmodn, last_nat]; simp -implicitDefEqProofs only [go_sem, Nat.reduceLT, Nat.reduceAdd, Nat.reduceEqDiff, reduceIte, Nat.reduceMul, Nat.reduceSub, reduceCtorEq, Int.reduceNe, Int.reduceEq, ne_eq, Nat.reduceLeDiff, Nat.reduceMod, Nat.reduceDiv, t14, t15, allN_fold]) | with_reducible apply And.intro | (simp -implicitDefEqProofs (disch := omega) only [i64_in, str_at, tdivn, tmodn, last_nat, List.length_cons, List.length_nil, Nat.reduceAdd]; done) | (simp only [maxLen]; omega) | omega | (rw [List.length_take]; omega) | (simp -implicitDefEqProofs (disch := omega) only [tdivn, tmodn, i64_in]; omega) | (rw [i64_in _ (by omega)]; omega) | fail)
                                        all_goals
                                          apply VC.at
                                          · simp -implicitDefEqProofs only [go_sem, Nat.reduceLT, Nat.reduceAdd, Nat.reduceEqDiff, reduceIte, Nat.reduceMul, Nat.reduceSub, reduceCtorEq, Int.reduceNe, Int.reduceEq, ne_eq, Nat.reduceLeDiff, Nat.reduceMod, Nat.reduceDiv, t14, t15, allN_fold]; (try simp (disch := omega) only [i64_in, tmodn, tdivn]); exact rfl
                                          have hfr := frac_rng (s := s) (by omega)
                                          apply VC.regt ΦR5_ok [0, 5, 7, 8, 9, 11, 12]; intro K' hK; dsimp only [List.take, List.drop, List.map, strip, stripG]; simp -implicitDefEqProofs only [go_sem, Nat.reduceLT, Nat.reduceAdd, Nat.reduceEqDiff, reduceIte, Nat.reduceMul, Nat.reduceSub, reduceCtorEq, Int.reduceNe, Int.reduceEq, ne_eq, Nat.reduceLeDiff, Nat.reduceMod, Nat.reduceDiv, t14, t15, allN_fold]
                                          (repeat' first | (refine hK _ ?_; clear hK K') | ((first | with_reducible refine runA_id ?_ | with_reducible refine goA_id ?_); simp -implicitDefEqProofs (disch := omega) only [i64_in, str_at, tdivn, tmodn, last_nat]; simp -implicitDefEqProofs only [go_sem, Nat.reduceLT, Nat.reduceAdd, Nat.reduceEqDiff, reduceIte, Nat.reduceMul, Nat.reduceSub, reduceCtorEq, Int.reduceNe, Int.reduceEq, ne_eq, Nat.reduceLeDiff, Nat.reduceMod, Nat.reduceDiv, t14, t15, allN_fold]) | with_reducible apply And.intro | (simp -implicitDefEqProofs (disch := omega) only [i64_in, str_at, tdivn, tmodn, last_nat, List.length_cons, List.length_nil, Nat.reduceAdd]; done) | (simp only [maxLen]; omega) | omega | (rw [List.length_take]; omega) | (simp -implicitDefEqProofs (disch := omega) only [tdivn, tmodn, i64_in]; omega) | (rw [i64_in _ (by omega)]; omega) | fail)
                                          all_goals
                                            apply VC.at
                                            · simp -implicitDefEqProofs only [go_sem, Nat.reduceLT, Nat.reduceAdd, Nat.reduceEqDiff, reduceIte, Nat.reduceMul, Nat.reduceSub, reduceCtorEq, Int.reduceNe, Int.reduceEq, ne_eq, Nat.reduceLeDiff, Nat.reduceMod, Nat.reduceDiv, t14, t15, allN_fold]; (try simp (disch := omega) only [i64_in, tmodn, tdivn]); (try simp (disch := omega) only [frac_fold]); exact rfl
                                            apply VC.seq
                                            apply VC.regt ΦR5_ok [5, 7, 8, 9, 11, 12, 95]; intro K' hK; dsimp only [List.take, List.drop, List.map, strip, stripG]; simp only [gtmp, List.getElem?_toArray, List.getElem?_cons_succ, List.getElem?_cons_zero, Option.bind_some]; simp -implicitDefEqProofs only [go_sem, Nat.reduceLT, Nat.reduceAdd, Nat.reduceEqDiff, reduceIte, Nat.reduceMul, Nat.reduceSub, reduceCtorEq, Int.reduceNe, Int.reduceEq, ne_eq, Nat.reduceLeDiff, Nat.reduceMod, Nat.reduceDiv, t14, t15, allN_fold]
                                            (repeat' first | (refine hK _ ?_; clear hK K') | (first | apply goB_splitD | apply goA_splitD | apply goB_split | apply goA_split | apply goA_all) <;> intro _ <;> simp -implicitDefEqProofs only [go_sem, Nat.reduceLT, Nat.reduceAdd, Nat.reduceEqDiff, reduceIte, Nat.reduceMul, Nat.reduceSub, reduceCtorEq, Int.reduceNe, Int.reduceEq, ne_eq, Nat.reduceLeDiff, Nat.reduceMod, Nat.reduceDiv, t14, t15, allN_fold] | ((first | with_reducible refine runA_id ?_ | with_reducible refine goA_id ?_); simp -implicitDefEqProofs (disch := omega) only [i64_in, str_at, tdivn, tmodn, last_nat]; simp -implicitDefEqProofs only [go_sem, Nat.reduceLT, Nat.reduceAdd, Nat.reduceEqDiff, reduceIte, Nat.reduceMul, Nat.reduceSub, reduceCtorEq, Int.reduceNe, Int.reduceEq, ne_eq, Nat.reduceLeDiff, Nat.reduceMod, Nat.reduceDiv, t14, t15, allN_fold]) | with_reducible apply And.intro | (simp -implicitDefEqProofs (disch := omega) only [i64_in, str_at, tdivn, tmodn, last_nat, List.length_cons, List.length_nil, Nat.reduceAdd]; done) | (simp only [maxLen]; omega) | omega | (rw [List.length_take]; omega) | (simp -implicitDefEqProofs (disch := omega) only [tdivn, tmodn, i64_in]; omega) | (rw [i64_in _ (by omega)]; omega) | fail)
                                            all_goals
                                              apply VC.at
                                              · simp -implicitDefEqProofs only [go_sem, Nat.reduceLT, Nat.reduceAdd, Nat.reduceEqDiff, reduceIte, Nat.reduceMul, Nat.reduceSub, reduceCtorEq, Int.reduceNe, Int.reduceEq, ne_eq, Nat.reduceLeDiff, Nat.reduceMod, Nat.reduceDiv, t14, t15, allN_fold]; (try simp (disch := omega) only [i64_in, tmodn, tdivn]); exact rfl
                                              first | (apply VC.condd; (focus (simp -implicitDefEqProofs only [go_sem, Nat.reduceLT, Nat.reduceAdd, Nat.reduceEqDiff, reduceIte, Nat.reduceMul, Nat.reduceSub, reduceCtorEq, Int.reduceNe, Int.reduceEq, ne_eq, Nat.reduceLeDiff, Nat.reduceMod, Nat.reduceDiv, t14, t15, allN_fold]; with_reducible exact rfl))) | (apply VC.condn; (focus (simp -implicitDefEqProofs only [go_sem, Nat.reduceLT, Nat.reduceAdd, Nat.reduceEqDiff, reduceIte, Nat.reduceMul, Nat.reduceSub, reduceCtorEq, Int.reduceNe, Int.reduceEq, ne_eq, Nat.reduceLeDiff, Nat.reduceMod, Nat.reduceDiv, t14, t15, allN_fold]; with_reducible exact rfl))) | (apply VC.condt; (focus (simp -implicitDefEqProofs only [go_sem, Nat.reduceLT, Nat.reduceAdd, Nat.reduceEqDiff, reduceIte, Nat.reduceMul, Nat.reduceSub, reduceCtorEq, Int.reduceNe, Int.reduceEq, ne_eq, Nat.reduceLeDiff, Nat.reduceMod, Nat.reduceDiv, t14, t15, allN_fold]; with_reducible exact rfl))) | (apply VC.condb; (focus (simp -implicitDefEqProofs only [go_sem, Nat.reduceLT, Nat.reduceAdd, Nat.reduceEqDiff, reduceIte, Nat.reduceMul, Nat.reduceSub, reduceCtorEq, Int.reduceNe, Int.reduceEq, ne_eq, Nat.reduceLeDiff, Nat.reduceMod, Nat.reduceDiv, t14, t15, allN_fold]; exact rfl)))
                                              · intro h; try exact absurd h (by decide)
                                                all_goals
                                                  apply VC.regt ΦR5_ok [2, 3]; intro K' hK; dsimp only [List.take, List.drop, List.map, strip, stripG]; simp -implicitDefEqProofs only [go_sem, Nat.reduceLT, Nat.reduceAdd, Nat.reduceEqDiff, reduceIte, Nat.reduceMul, Nat.reduceSub, reduceCtorEq, Int.reduceNe, Int.reduceEq, ne_eq, Nat.reduceLeDiff, Nat.reduceMod, Nat.reduceDiv, t14, t15, allN_fold]
                                                  (repeat' first | (refine hK _ ?_; clear hK K') | with_reducible apply And.intro | (simp -implicitDefEqProofs (disch := omega) only [i64_in, str_at, tdivn, tmodn, last_nat, List.length_cons, List.length_nil, Nat.reduceAdd]; done) | (simp only [maxLen]; omega) | omega | (rw [List.length_take]; omega) | (simp -implicitDefEqProofs (disch := omega) only [tdivn, tmodn, i64_in]; omega) | (rw [i64_in _ (by omega)]; omega) | fail)
                                                  all_goals
                                                    apply VC.at
                                                    · simp -implicitDefEqProofs only [go_sem, Nat.reduceLT, Nat.reduceAdd, Nat.reduceEqDiff, reduceIte, Nat.reduceMul, Nat.reduceSub, reduceCtorEq, Int.reduceNe, Int.reduceEq, ne_eq, Nat.reduceLeDiff, Nat.reduceMod, Nat.reduceDiv, t14, t15, allN_fold]; (try simp (disch := omega) only [i64_in, tmodn, tdivn]); exact rfl
                                                    apply VC.ret
                                                    refine thenK_r ?_
                                                    refine thenK_r ?_
                                                    simp -implicitDefEqProofs only [go_sem, Nat.reduceLT, Nat.reduceAdd, Nat.reduceEqDiff, reduceIte, Nat.reduceMul, Nat.reduceSub, reduceCtorEq, Int.reduceNe, Int.reduceEq, ne_eq, Nat.reduceLeDiff, Nat.reduceMod, Nat.reduceDiv, t14, t15, allN_fold]
                                                    all_goals ((try simp only [Bool.not_eq_eq_eq_not, Bool.not_false, Bool.not_true, decide_eq_true_eq, decide_eq_false_iff_not] at *); first | (rw [rread_L (by omega)]; rfl) | (rw [rread_T (by omega)]; rfl) | (rw [rread_F (by omega)]; rfl) | (rw [rreadQ_ok (by omega) (by omega) (by omega), if_neg (by omega)]; unfold timeN; (try simp (disch := omega) only [i64_in]); rfl) | (rw [rreadQ_ok (by omega) (by omega) (by omega), if_pos (by omega), ← hc, mil_end (by omega)]; unfold timeN; (try simp (disch := omega) only [i64_in]); rfl))
                                              · intro h; try exact absurd h (by decide)
                                                all_goals
                                                  apply VC.skip
                                                  refine thenK_n ?_
                                                  apply VC.regt ΦR5_ok [5, 7, 8, 9, 10, 11]; intro K' hK; dsimp only [List.take, List.drop, List.map, strip, stripG]; simp -implicitDefEqProofs only [go_sem, Nat.reduceLT, Nat.reduceAdd, Nat.reduceEqDiff, reduceIte, Nat.reduceMul, Nat.reduceSub, reduceCtorEq, Int.reduceNe, Int.reduceEq, ne_eq, Nat.reduceLeDiff, Nat.reduceMod, Nat.reduceDiv, t14, t15, allN_fold]
                                                  (repeat' first | (refine hK _ ?_; clear hK K') | with_reducible apply And.intro | (simp -implicitDefEqProofs (disch := omega) only [i64_in, str_at, tdivn, tmodn, last_nat, List.length_cons, List.length_nil, Nat.reduceAdd]; done) | (simp only [maxLen]; omega) | omega | (rw [List.length_take]; omega) | (simp -implicitDefEqProofs (disch := omega) only [tdivn, tmodn, i64_in]; omega) | (rw [i64_in _ (by omega)]; omega) | fail)
                                                  all_goals
                                                    apply VC.at
                                                    · simp -implicitDefEqProofs only [go_sem, Nat.reduceLT, Nat.reduceAdd, Nat.reduceEqDiff, reduceIte, Nat.reduceMul, Nat.reduceSub, reduceCtorEq, Int.reduceNe, Int.reduceEq, ne_eq, Nat.reduceLeDiff, Nat.reduceMod, Nat.reduceDiv, t14, t15, allN_fold]; (try simp (disch := omega) only [i64_in, tmodn, tdivn]); exact rfl
                                                    apply VC.regt ΦR5_ok [5, 7, 8, 9, 10, 13]; intro K' hK; dsimp only [List.take, List.drop, List.map, strip, stripG]; simp -implicitDefEqProofs only [go_sem, Nat.reduceLT, Nat.reduceAdd, Nat.reduceEqDiff, reduceIte, Nat.reduceMul, Nat.reduceSub, reduceCtorEq, Int.reduceNe, Int.reduceEq, ne_eq, Nat.reduceLeDiff, Nat.reduceMod, Nat.reduceDiv, t14, t15, allN_fold]
                                                    (repeat' first | (refine hK _ ?_; clear hK K') | with_reducible apply And.intro | (simp -implicitDefEqProofs (disch := omega) only [i64_in, str_at, tdivn, tmodn, last_nat, List.length_cons, List.length_nil, Nat.reduceAdd]; done) | (simp only [maxLen]; omega) | omega | (rw [List.length_take]; omega) | (simp -implicitDefEqProofs (disch := omega) only [tdivn, tmodn, i64_in]; omega) | (rw [i64_in _ (by omega)]; omega) | fail)
                                                    all_goals
                                                      apply VC.at
                                                      · simp -implicitDefEqProofs only [go_sem, Nat.reduceLT, Nat.reduceAdd, Nat.reduceEqDiff, reduceIte, Nat.reduceMul, Nat.reduceSub, reduceCtorEq, Int.reduceNe, Int.reduceEq, ne_eq, Nat.reduceLeDiff, Nat.reduceMod, Nat.reduceDiv, t14, t15, allN_fold]; (try simp (disch := omega) only [i64_in, tmodn, tdivn]); exact rfl
                                                      apply VC.block
                                                      refine VC.loopP (ι := Nat × Int) [0, 4, 5, 7, 8, 9, 11, 12] (fun i => [(10, .dat (.int .i64 i.2)), (13, .dat (.int .i64 (i.1 : Int)))]) (fun _ => []) (fun i => 1 ≤ i.1 ∧ i.1 ≤ 3 ∧ mil i.1 i.2 = mil (s.length - 16) (numR (fracT s))) (fun i => 3 - i.1) (s.length - 16, numR (fracT s)) ?_ ?_ ?_
                                                      · exact ⟨by dsimp only; omega, by dsimp only; omega, rfl⟩
                                                      · refine Ent.to rfl rfl rfl ?_ ?_ <;> (simp -implicitDefEqProofs only [go_sem, Nat.reduceLT, Nat.reduceAdd, Nat.reduceEqDiff, reduceIte, Nat.reduceMul, Nat.reduceSub, reduceCtorEq, Int.reduceNe, Int.reduceEq, ne_eq, Nat.reduceLeDiff, Nat.reduceMod, Nat.reduceDiv, t14, t15, allN_fold]; (try rw [frac_len (by omega)]); (try simp only [D.dat.injEq, Vm.Data.int.injEq, true_and, and_true, and_self, eq_self]); (try omega); (try ((repeat' apply And.intro) <;> first | omega | rfl)))
                                                      · rintro ⟨k, x⟩ hp; (try dsimp only at hp); obtain ⟨hk1, hk, hc⟩ := hp; have hmr := mil_rng (s.length - 16) (numR (fracT s)) (by omega) (by omega); have hmb := mil_back (k := k) (x := x) (by omega) (by omega)
                                                        apply VC.at
                                                        · simp -implicitDefEqProofs only [go_sem, Nat.reduceLT, Nat.reduceAdd, Nat.reduceEqDiff, reduceIte, Nat.reduceMul, Nat.reduceSub, reduceCtorEq, Int.reduceNe, Int.reduceEq, ne_eq, Nat.reduceLeDiff, Nat.reduceMod, Nat.reduceDiv, t14, t15, allN_fold]; (try simp (disch := omega) only [i64_in, tmodn, tdivn]); exact rfl
                                                        apply VC.seq
                                                        apply VC.regt ΦR5_ok [0, 4, 5, 7, 8, 9, 10, 11, 12, 13, 100]; intro K' hK; dsimp only [List.take, List.drop, List.map, strip, stripG]; simp -implicitDefEqProofs only [go_sem, Nat.reduceLT, Nat.reduceAdd, Nat.reduceEqDiff, reduceIte, Nat.reduceMul, Nat.reduceSub, reduceCtorEq, Int.reduceNe, Int.reduceEq, ne_eq, Nat.reduceLeDiff, Nat.reduceMod, Nat.reduceDiv, t14, t15, allN_fold]
                                                        (repeat' first | (refine hK _ ?_; clear hK K') | with_reducible apply And.intro | (simp -implicitDefEqProofs (disch := omega) only [i64_in, str_at, tdivn, tmodn, last_nat, List.length_cons, List.length_nil, Nat.reduceAdd]; done) | (simp only [maxLen]; omega) | omega | (rw [List.length_take]; omega) | (simp -implicitDefEqProofs (disch := omega) only [tdivn, tmodn, i64_in]; omega) | (rw [i64_in _ (by omega)]; omega) | fail)
                                                        all_goals
                                                          apply VC.at
                                                          · simp -implicitDefEqProofs only [go_sem, Nat.reduceLT, Nat.reduceAdd, Nat.reduceEqDiff, reduceIte, Nat.reduceMul, Nat.reduceSub, reduceCtorEq, Int.reduceNe, Int.reduceEq, ne_eq, Nat.reduceLeDiff, Nat.reduceMod, Nat.reduceDiv, t14, t15, allN_fold]; (try simp (disch := omega) only [i64_in, tmodn, tdivn]); exact rfl
                                                          first | (apply VC.condd; (focus (simp -implicitDefEqProofs only [go_sem, Nat.reduceLT, Nat.reduceAdd, Nat.reduceEqDiff, reduceIte, Nat.reduceMul, Nat.reduceSub, reduceCtorEq, Int.reduceNe, Int.reduceEq, ne_eq, Nat.reduceLeDiff, Nat.reduceMod, Nat.reduceDiv, t14, t15, allN_fold]; with_reducible exact rfl))) | (apply VC.condn; (focus (simp -implicitDefEqProofs only [go_sem, Nat.reduceLT, Nat.reduceAdd, Nat.reduceEqDiff, reduceIte, Nat.reduceMul, Nat.reduceSub, reduceCtorEq, Int.reduceNe, Int.reduceEq, ne_eq, Nat.reduceLeDiff, Nat.reduceMod, Nat.reduceDiv, t14, t15, allN_fold]; with_reducible exact rfl))) | (apply VC.condt; (focus (simp -implicitDefEqProofs only [go_sem, Nat.reduceLT, Nat.reduceAdd, Nat.reduceEqDiff, reduceIte, Nat.reduceMul, Nat.reduceSub, reduceCtorEq, Int.reduceNe, Int.reduceEq, ne_eq, Nat.reduceLeDiff, Nat.reduceMod, Nat.reduceDiv, t14, t15, allN_fold]; with_reducible exact rfl))) | (apply VC.condb; (focus (simp -implicitDefEqProofs only [go_sem, Nat.reduceLT, Nat.reduceAdd, Nat.reduceEqDiff, reduceIte, Nat.reduceMul, Nat.reduceSub, reduceCtorEq, Int.reduceNe, Int.reduceEq, ne_eq, Nat.reduceLeDiff, Nat.reduceMod, Nat.reduceDiv, t14, t15, allN_fold]; exact rfl)))
                                                          · intro h; try exact absurd h (by decide)
                                                            all_goals
                                                              apply VC.skip
                                                              refine thenK_n ?_
                                                              apply VC.seq
                                                              apply VC.block
                                                              apply VC.regLast ΦR5_ok; intro K' hK; dsimp only [List.take, List.drop, List.map, strip, stripG]; simp -implicitDefEqProofs only [go_sem, Nat.reduceLT, Nat.reduceAdd, Nat.reduceEqDiff, reduceIte, Nat.reduceMul, Nat.reduceSub, reduceCtorEq, Int.reduceNe, Int.reduceEq, ne_eq, Nat.reduceLeDiff, Nat.reduceMod, Nat.reduceDiv, t14, t15, allN_fold]
                                                              (repeat' first | (refine hK _ ?_; clear hK K') | with_reducible apply And.intro | (simp -implicitDefEqProofs (disch := omega) only [i64_in, str_at, tdivn, tmodn, last_nat, List.length_cons, List.length_nil, Nat.reduceAdd]; done) | (simp only [maxLen]; omega) | omega | (rw [List.length_take]; omega) | (simp -implicitDefEqProofs (disch := omega) only [tdivn, tmodn, i64_in]; omega) | (rw [i64_in _ (by omega)]; omega) | fail)
                                                              all_goals
                                                                refine blockK_n ?_
                                                                refine thenK_n ?_
                                                                apply VC.regLast ΦR5_ok; intro K' hK; dsimp only [List.take, List.drop, List.map, strip, stripG]; simp -implicitDefEqProofs only [go_sem, Nat.reduceLT, Nat.reduceAdd, Nat.reduceEqDiff, reduceIte, Nat.reduceMul, Nat.reduceSub, reduceCtorEq, Int.reduceNe, Int.reduceEq, ne_eq, Nat.reduceLeDiff, Nat.reduceMod, Nat.reduceDiv, t14, t15, allN_fold]
                                                                (repeat' first | (refine hK _ ?_; clear hK K') | with_reducible apply And.intro | (simp -implicitDefEqProofs (disch := omega) only [i64_in, str_at, tdivn, tmodn, last_nat, List.length_cons, List.length_nil, Nat.reduceAdd]; done) | (simp only [maxLen]; omega) | omega | (rw [List.length_take]; omega) | (simp -implicitDefEqProofs (disch := omega) only [tdivn, tmodn, i64_in]; omega) | (rw [i64_in _ (by omega)]; omega) | fail)
                                                                all_goals
                                                                  refine thenK_n ?_
                                                                  refine ⟨(k + 1, 10 * x), ?_, Ent.to rfl rfl rfl ?_ ?_, ?_⟩
                                                                  · dsimp only; exact ⟨by omega, by omega, by rw [mil_step (by omega) (by omega)]; exact hc⟩
                                                                  · simp -implicitDefEqProofs only [go_sem, Nat.reduceLT, Nat.reduceAdd, Nat.reduceEqDiff, reduceIte, Nat.reduceMul, Nat.reduceSub, reduceCtorEq, Int.reduceNe, Int.reduceEq, ne_eq, Nat.reduceLeDiff, Nat.reduceMod, Nat.reduceDiv, t14, t15, allN_fold]; (try simp (disch := omega) only [i64_in, tmodn, tdivn]); (try simp only [D.dat.injEq, Vm.Data.int.injEq, true_and, and_true, and_self, eq_self]); (try omega); (try ((repeat' apply And.intro) <;> first | omega | rfl))
                                                                  · simp -implicitDefEqProofs only [go_sem, Nat.reduceLT, Nat.reduceAdd, Nat.reduceEqDiff, reduceIte, Nat.reduceMul, Nat.reduceSub, reduceCtorEq, Int.reduceNe, Int.reduceEq, ne_eq, Nat.reduceLeDiff, Nat.reduceMod, Nat.reduceDiv, t14, t15, allN_fold]; (try simp (disch := omega) only [i64_in, tmodn, tdivn]); (try simp only [D.dat.injEq, Vm.Data.int.injEq, true_and, and_true, and_self, eq_self]); (try omega); (try ((repeat' apply And.intro) <;> first | omega | rfl))
                                                                  · dsimp only; omega
                                                          · intro h; try exact absurd h (by decide)
                                                            all_goals
                                                              apply VC.exit
                                                              refine thenK_e ?_
                                                              refine thenK_e ?_
                                                              refine blockK_e ?_
                                                              refine thenK_n ?_
                                                              have dr := dr_rng (allN s / 10000000000) (allN s / 100000000 % 100) (allN s / 1000000 % 100)
                                                              apply VC.regt ΦR5_ok [2, 3]; intro K' hK; dsimp only [List.take, List.drop, List.map, strip, stripG]; simp -implicitDefEqProofs only [go_sem, Nat.reduceLT, Nat.reduceAdd, Nat.reduceEqDiff, reduceIte, Nat.reduceMul, Nat.reduceSub, reduceCtorEq, Int.reduceNe, Int.reduceEq, ne_eq, Nat.reduceLeDiff, Nat.reduceMod, Nat.reduceDiv, t14, t15, allN_fold]
                                                              (repeat' first | (refine hK _ ?_; clear hK K') | with_reducible apply And.intro | (simp -implicitDefEqProofs (disch := omega) only [i64_in, str_at, tdivn, tmodn, last_nat, List.length_cons, List.length_nil, Nat.reduceAdd]; done) | (simp only [maxLen]; omega) | omega | (rw [List.length_take]; omega) | (simp -implicitDefEqProofs (disch := omega) only [tdivn, tmodn, i64_in]; omega) | (rw [i64_in _ (by omega)]; omega) | fail)
                                                              all_goals
                                                                apply VC.at
                                                                · simp -implicitDefEqProofs only [go_sem, Nat.reduceLT, Nat.reduceAdd, Nat.reduceEqDiff, reduceIte, Nat.reduceMul, Nat.reduceSub, reduceCtorEq, Int.reduceNe, Int.reduceEq, ne_eq, Nat.reduceLeDiff, Nat.reduceMod, Nat.reduceDiv, t14, t15, allN_fold]; (try simp (disch := omega) only [i64_in, tmodn, tdivn]); exact rfl
                                                                apply VC.ret
                                                                simp -implicitDefEqProofs only [go_sem, Nat.reduceLT, Nat.reduceAdd, Nat.reduceEqDiff, reduceIte, Nat.reduceMul, Nat.reduceSub, reduceCtorEq, Int.reduceNe, Int.reduceEq, ne_eq, Nat.reduceLeDiff, Nat.reduceMod, Nat.reduceDiv, t14, t15, allN_fold]
                                                                all_goals ((try simp only [Bool.not_eq_eq_eq_not, Bool.not_false, Bool.not_true, decide_eq_true_eq, decide_eq_false_iff_not] at *); first | (rw [rread_L (by omega)]; rfl) | (rw [rread_T (by omega)]; rfl) | (rw [rread_F (by omega)]; rfl) | (rw [rreadQ_ok (by omega) (by omega) (by omega), if_neg (by omega)]; unfold timeN; (try simp (disch := omega) only [i64_in]); rfl) | (rw [rreadQ_ok (by omega) (by omega) (by omega), if_pos (by omega), ← hc, mil_end (by omega)]; unfold timeN; (try simp (disch := omega) only [i64_in]); rfl))
                                    · intro h; try exact absurd h (by decide)
                                      all_goals
                                        apply VC.skip
                                        refine thenK_n ?_
                                        have dr := dr_rng (allN s / 10000000000) (allN s / 100000000 % 100) (allN s / 1000000 % 100)
                                        apply VC.regt ΦR5_ok [2, 3]; intro K' hK; dsimp only [List.take, List.drop, List.map, strip, stripG]; simp -implicitDefEqProofs only [go_sem, Nat.reduceLT, Nat.reduceAdd, Nat.reduceEqDiff, reduceIte, Nat.reduceMul, Nat.reduceSub, reduceCtorEq, Int.reduceNe, Int.reduceEq, ne_eq, Nat.reduceLeDiff, Nat.reduceMod, Nat.reduceDiv, t14, t15, allN_fold]
                                        (repeat' first | (refine hK _ ?_; clear hK K') | with_reducible apply And.intro | (simp -implicitDefEqProofs (disch := omega) only [i64_in, str_at, tdivn, tmodn, last_nat, List.length_cons, List.length_nil, Nat.reduceAdd]; done) | (simp only [maxLen]; omega) | omega | (rw [List.length_take]; omega) | (simp -implicitDefEqProofs (disch := omega) only [tdivn, tmodn, i64_in]; omega) | (rw [i64_in _ (by omega)]; omega) | fail)
                                        all_goals
                                          apply VC.at
                                          · simp -implicitDefEqProofs only [go_sem, Nat.reduceLT, Nat.reduceAdd, Nat.reduceEqDiff, reduceIte, Nat.reduceMul, Nat.reduceSub, reduceCtorEq, Int.reduceNe, Int.reduceEq, ne_eq, Nat.reduceLeDiff, Nat.reduceMod, Nat.reduceDiv, t14, t15, allN_fold]; (try simp (disch := omega) only [i64_in, tmodn, tdivn]); exact rfl
                                          apply VC.ret
                                          simp -implicitDefEqProofs only [go_sem, Nat.reduceLT, Nat.reduceAdd, Nat.reduceEqDiff, reduceIte, Nat.reduceMul, Nat.reduceSub, reduceCtorEq, Int.reduceNe, Int.reduceEq, ne_eq, Nat.reduceLeDiff, Nat.reduceMod, Nat.reduceDiv, t14, t15, allN_fold]
                                          all_goals ((try simp only [Bool.not_eq_eq_eq_not, Bool.not_false, Bool.not_true, decide_eq_true_eq, decide_eq_false_iff_not] at *); first | (rw [rread_L (by omega)]; rfl) | (rw [rread_T (by omega)]; rfl) | (rw [rread_F (by omega)]; rfl) | (rw [rreadQ_ok (by omega) (by omega) (by omega), if_neg (by omega)]; unfold timeN; (try simp (disch := omega) only [i64_in]); rfl) | (rw [rreadQ_ok (by omega) (by omega) (by omega), if_pos (by omega), ← hc, mil_end (by omega)]; unfold timeN; (try simp (disch := omega) only [i64_in]); rfl))
end Go.Proofs.YtfbodageccednaaDoor.Oa
namespace Go.Proofs.YtfbodageccednaaDoor.Oa
open Go Go.RowKit Go.Proofs.YtfbodageccednaaDoor.Vm Go.IntWalk
set_option maxRecDepth 100000
set_option maxHeartbeats 4000000
noncomputable def ΦR6 : Fns := tab [(13, rgeneralF), (34, numberF), (17, rreadF)]
theorem ΦR6_ok : Sound E ΦR6 := sound_cons (by kernel_rfl) rgeneral_ok (sound_cons (by kernel_rfl) number_ok (sound_cons (by kernel_rfl) rread_ok (sound_nil)))
@[go_sem] theorem ΦR6_13 : ΦR6 13 = some rgeneralF := rfl
@[go_sem] theorem ΦR6_34 : ΦR6 34 = some numberF := rfl
@[go_sem] theorem ΦR6_17 : ΦR6 17 = some rreadF := rfl
theorem rhead_four (t : Int) : 4 ≤ (rgenS t).length := by
  unfold rgenS rheadS
  simp only [List.length_append, rdg_l4]; omega
def rshortOk (t : Int) : Bool := tIn t && (decide (t.tmod 1000 = 0) && Op.bytesLess ((rgenS t).take 4) [50, 48, 53, 48])
def rshortO (t : Int) : List UInt8 := if rshortOk t then (rgenS t).drop 2 else []
theorem rshort_no {t : Int} (h : tIn t = false ∨ ¬ t.tmod 1000 = 0 ∨ Op.bytesLess ((rgenS t).take 4) [50, 48, 53, 48] = false) : rshortOk t = false := by
  unfold rshortOk
  rcases h with h | h | h
  · rw [h]; rfl
  · rw [decide_eq_false h]; simp
  · rw [h]; simp
theorem rshort_yes {t : Int} (h : tIn t = true) (h1 : t.tmod 1000 = 0) (h2 : Op.bytesLess ((rgenS t).take 4) [50, 48, 53, 48] = true) : rshortOk t = true := by
  unfold rshortOk
  rw [h, h1, h2]; rfl
theorem rtn4 : Int.toNat 4 = 4 := rfl
theorem rtn2 : Int.toNat 2 = 2 := rfl
theorem rdrop_two (s : List UInt8) (h : 2 ≤ s.length) : List.take ((s.length : Int) - 2).toNat (List.drop 2 s) = s.drop 2 := List.take_of_length_le (by rw [List.length_drop]; omega)
def rreadSh (s : List UInt8) : Option Int := if s.length = 13 then (if numR (s.take 2) < 0 ∨ (50 ≤ numR (s.take 2) ∧ numR (s.take 2) < 70) then none else if numR (s.take 2) < 50 then rread ([50, 48] ++ s) else rread ([49, 57] ++ s)) else none
def rshortA (t : Int) : List Vm.Data := [.int .i64 t]
noncomputable def rshortF : PFn := PFn.of rshortA (fun t => True) (fun t => [.str (rshortO t), .int .i64 (if rshortOk t then 0 else 150)])
theorem rshort_inj (x y : Int) (h : rshortA x = rshortA y) : x = y := by
  simpa [rshortA, Prod.ext_iff, numsD_inj, bytesD_inj, Vm.Data.lst.injEq, Int.natCast_inj] using h
@[go_sem] theorem rshort_pre (t : Int) : rshortF.pre [.int .i64 t] = (True) := PFn.of_pre rshort_inj t
@[go_sem] theorem rshort_res (t : Int) : rshortF.res [.int .i64 t] = [.str (rshortO t), .int .i64 (if rshortOk t then 0 else 150)] := PFn.of_res rshort_inj t
theorem rshort_ok : Pure E 15 rshortF := by
  apply Pure.of_body (rs := [.tmp 2, .tmp 3]) (n := 25) Tryd.func15 rfl rfl rfl
  intro ds hds
  obtain ⟨t, rfl, hds⟩ := hds
  (try dsimp only at hds)
  rw [show rshortF.res (rshortA t) = [.str (rshortO t), .int .i64 (if rshortOk t then 0 else 150)] from rshort_res t]
  rcases hb : tIn t with _ | _
  all_goals (try have ht := tIn_of hb)
  all_goals
    refine ⟨Nat.le_of_ble_eq_true rfl, ?_⟩
    show VC E none _ (pureSt 25 [.int .i64 t]) _
    apply VC.regt ΦR6_ok [0]; intro K' hK; dsimp only [List.take, List.drop, List.map, strip, stripG]; simp -implicitDefEqProofs only [go_sem, Nat.reduceLT, Nat.reduceAdd, Nat.reduceEqDiff, reduceIte, Nat.reduceMul, Nat.reduceSub, reduceCtorEq, Int.reduceNe, Int.reduceEq, ne_eq, Nat.reduceLeDiff, Nat.reduceMod, Nat.reduceDiv, hb, Bool.false_eq_true, rtn4, rtn2]
    (repeat' first | (refine hK _ ?_; clear hK K') | with_reducible apply And.intro | (simp -implicitDefEqProofs (disch := omega) only [i64_in, List.length_cons, List.length_nil, Nat.reduceAdd]; done) | omega | decide | fail)
    all_goals
      apply VC.at
      · simp -implicitDefEqProofs only [go_sem, Nat.reduceLT, Nat.reduceAdd, Nat.reduceEqDiff, reduceIte, Nat.reduceMul, Nat.reduceSub, reduceCtorEq, Int.reduceNe, Int.reduceEq, ne_eq, Nat.reduceLeDiff, Nat.reduceMod, Nat.reduceDiv, hb, Bool.false_eq_true, rtn4, rtn2]; (try simp (disch := omega) only [i64_in, tmodn, tdivn]); exact rfl
      apply VC.regt ΦR6_ok [0, 4, 5]; intro K' hK; dsimp only [List.take, List.drop, List.map, strip, stripG]; simp -implicitDefEqProofs only [go_sem, Nat.reduceLT, Nat.reduceAdd, Nat.reduceEqDiff, reduceIte, Nat.reduceMul, Nat.reduceSub, reduceCtorEq, Int.reduceNe, Int.reduceEq, ne_eq, Nat.reduceLeDiff, Nat.reduceMod, Nat.reduceDiv, hb, Bool.false_eq_true, rtn4, rtn2]
      (repeat' first | (refine hK _ ?_; clear hK K') | ((first | with_reducible refine runA_id ?_ | with_reducible refine goA_id ?_); simp -implicitDefEqProofs (disch := omega) only [i64_in]; simp -implicitDefEqProofs only [go_sem, Nat.reduceLT, Nat.reduceAdd, Nat.reduceEqDiff, reduceIte, Nat.reduceMul, Nat.reduceSub, reduceCtorEq, Int.reduceNe, Int.reduceEq, ne_eq, Nat.reduceLeDiff, Nat.reduceMod, Nat.reduceDiv, hb, Bool.false_eq_true, rtn4, rtn2]) | with_reducible apply And.intro | (simp -implicitDefEqProofs (disch := omega) only [i64_in, List.length_cons, List.length_nil, Nat.reduceAdd]; done) | omega | decide | fail)
      all_goals
        apply VC.at
        · simp -implicitDefEqProofs only [go_sem, Nat.reduceLT, Nat.reduceAdd, Nat.reduceEqDiff, reduceIte, Nat.reduceMul, Nat.reduceSub, reduceCtorEq, Int.reduceNe, Int.reduceEq, ne_eq, Nat.reduceLeDiff, Nat.reduceMod, Nat.reduceDiv, hb, Bool.false_eq_true, rtn4, rtn2]; (try simp (disch := omega) only [i64_in, tmodn, tdivn]); exact rfl
        apply VC.seq
        (try rw [rgenO_yes ht.1 ht.2])
        have hlen := rhead_four t
        apply VC.regt ΦR6_ok [4, 22]; intro K' hK; dsimp only [List.take, List.drop, List.map, strip, stripG]; simp only [gtmp, List.getElem?_toArray, List.getElem?_cons_succ, List.getElem?_cons_zero, Option.bind_some]; simp -implicitDefEqProofs only [go_sem, Nat.reduceLT, Nat.reduceAdd, Nat.reduceEqDiff, reduceIte, Nat.reduceMul, Nat.reduceSub, reduceCtorEq, Int.reduceNe, Int.reduceEq, ne_eq, Nat.reduceLeDiff, Nat.reduceMod, Nat.reduceDiv, hb, Bool.false_eq_true, rtn4, rtn2]
        (repeat' first | (refine hK _ ?_; clear hK K') | (first | apply goB_splitD | apply goA_splitD | apply goB_split | apply goA_split | apply goA_all) <;> intro _ <;> simp -implicitDefEqProofs only [go_sem, Nat.reduceLT, Nat.reduceAdd, Nat.reduceEqDiff, reduceIte, Nat.reduceMul, Nat.reduceSub, reduceCtorEq, Int.reduceNe, Int.reduceEq, ne_eq, Nat.reduceLeDiff, Nat.reduceMod, Nat.reduceDiv, hb, Bool.false_eq_true, rtn4, rtn2] | ((first | with_reducible refine runA_id ?_ | with_reducible refine goA_id ?_); simp -implicitDefEqProofs (disch := omega) only [i64_in]; simp -implicitDefEqProofs only [go_sem, Nat.reduceLT, Nat.reduceAdd, Nat.reduceEqDiff, reduceIte, Nat.reduceMul, Nat.reduceSub, reduceCtorEq, Int.reduceNe, Int.reduceEq, ne_eq, Nat.reduceLeDiff, Nat.reduceMod, Nat.reduceDiv, hb, Bool.false_eq_true, rtn4, rtn2]) | with_reducible apply And.intro | (simp -implicitDefEqProofs (disch := omega) only [i64_in, List.length_cons, List.length_nil, Nat.reduceAdd]; done) | omega | decide | fail)
        all_goals
          apply VC.at
          · simp -implicitDefEqProofs only [go_sem, Nat.reduceLT, Nat.reduceAdd, Nat.reduceEqDiff, reduceIte, Nat.reduceMul, Nat.reduceSub, reduceCtorEq, Int.reduceNe, Int.reduceEq, ne_eq, Nat.reduceLeDiff, Nat.reduceMod, Nat.reduceDiv, hb, Bool.false_eq_true, rtn4, rtn2]; (try simp (disch := omega) only [i64_in, tmodn, tdivn]); exact rfl
          first | (apply VC.condd; (focus (simp -implicitDefEqProofs only [go_sem, Nat.reduceLT, Nat.reduceAdd, Nat.reduceEqDiff, reduceIte, Nat.reduceMul, Nat.reduceSub, reduceCtorEq, Int.reduceNe, Int.reduceEq, ne_eq, Nat.reduceLeDiff, Nat.reduceMod, Nat.reduceDiv, hb, Bool.false_eq_true, rtn4, rtn2]; with_reducible exact rfl))) | (apply VC.condn; (focus (simp -implicitDefEqProofs only [go_sem, Nat.reduceLT, Nat.reduceAdd, Nat.reduceEqDiff, reduceIte, Nat.reduceMul, Nat.reduceSub, reduceCtorEq, Int.reduceNe, Int.reduceEq, ne_eq, Nat.reduceLeDiff, Nat.reduceMod, Nat.reduceDiv, hb, Bool.false_eq_true, rtn4, rtn2]; with_reducible exact rfl))) | (apply VC.condt; (focus (simp -implicitDefEqProofs only [go_sem, Nat.reduceLT, Nat.reduceAdd, Nat.reduceEqDiff, reduceIte, Nat.reduceMul, Nat.reduceSub, reduceCtorEq, Int.reduceNe, Int.reduceEq, ne_eq, Nat.reduceLeDiff, Nat.reduceMod, Nat.reduceDiv, hb, Bool.false_eq_true, rtn4, rtn2]; with_reducible exact rfl))) | (apply VC.condb; (focus (simp -implicitDefEqProofs only [go_sem, Nat.reduceLT, Nat.reduceAdd, Nat.reduceEqDiff, reduceIte, Nat.reduceMul, Nat.reduceSub, reduceCtorEq, Int.reduceNe, Int.reduceEq, ne_eq, Nat.reduceLeDiff, Nat.reduceMod, Nat.reduceDiv, hb, Bool.false_eq_true, rtn4, rtn2]; exact rfl)))
          · intro h; try exact absurd h (by decide)
            all_goals
              apply VC.regt ΦR6_ok [2, 3]; intro K' hK; dsimp only [List.take, List.drop, List.map, strip, stripG]; simp -implicitDefEqProofs only [go_sem, Nat.reduceLT, Nat.reduceAdd, Nat.reduceEqDiff, reduceIte, Nat.reduceMul, Nat.reduceSub, reduceCtorEq, Int.reduceNe, Int.reduceEq, ne_eq, Nat.reduceLeDiff, Nat.reduceMod, Nat.reduceDiv, hb, Bool.false_eq_true, rtn4, rtn2]
              (repeat' first | (refine hK _ ?_; clear hK K') | with_reducible apply And.intro | (simp -implicitDefEqProofs (disch := omega) only [i64_in, List.length_cons, List.length_nil, Nat.reduceAdd]; done) | omega | decide | fail)
              all_goals
                apply VC.at
                · simp -implicitDefEqProofs only [go_sem, Nat.reduceLT, Nat.reduceAdd, Nat.reduceEqDiff, reduceIte, Nat.reduceMul, Nat.reduceSub, reduceCtorEq, Int.reduceNe, Int.reduceEq, ne_eq, Nat.reduceLeDiff, Nat.reduceMod, Nat.reduceDiv, hb, Bool.false_eq_true, rtn4, rtn2]; (try simp (disch := omega) only [i64_in, tmodn, tdivn]); exact rfl
                apply VC.ret
                refine thenK_r ?_
                simp -implicitDefEqProofs only [go_sem, Nat.reduceLT, Nat.reduceAdd, Nat.reduceEqDiff, reduceIte, Nat.reduceMul, Nat.reduceSub, reduceCtorEq, Int.reduceNe, Int.reduceEq, ne_eq, Nat.reduceLeDiff, Nat.reduceMod, Nat.reduceDiv, hb, Bool.false_eq_true, rtn4, rtn2]
                all_goals ((try simp only [Bool.not_eq_eq_eq_not, Bool.not_false, Bool.not_true, decide_eq_true_eq, decide_eq_false_iff_not] at *); first | (rw [rshort_no (.inl hb), rshortO, rshort_no (.inl hb)]; rfl) | (have e : rshortOk t = false := rshort_no (.inr (.inl (by assumption))); rw [rshortO, e]; rfl) | (have e : rshortOk t = false := rshort_no (.inr (.inr (by assumption))); rw [rshortO, e]; rfl) | (have e : rshortOk t = true := rshort_yes hb (by assumption) (by assumption); rw [rshortO, e, rdrop_two (rgenS t) (by omega)]; rfl))
          · intro h; try exact absurd h (by decide)
            all_goals
              apply VC.skip
              refine thenK_n ?_
              apply VC.regt ΦR6_ok [2, 3]; intro K' hK; dsimp only [List.take, List.drop, List.map, strip, stripG]; simp -implicitDefEqProofs only [go_sem, Nat.reduceLT, Nat.reduceAdd, Nat.reduceEqDiff, reduceIte, Nat.reduceMul, Nat.reduceSub, reduceCtorEq, Int.reduceNe, Int.reduceEq, ne_eq, Nat.reduceLeDiff, Nat.reduceMod, Nat.reduceDiv, hb, Bool.false_eq_true, rtn4, rtn2]
              (repeat' first | (refine hK _ ?_; clear hK K') | ((first | with_reducible refine runA_id ?_ | with_reducible refine goA_id ?_); simp -implicitDefEqProofs (disch := omega) only [i64_in]; simp -implicitDefEqProofs only [go_sem, Nat.reduceLT, Nat.reduceAdd, Nat.reduceEqDiff, reduceIte, Nat.reduceMul, Nat.reduceSub, reduceCtorEq, Int.reduceNe, Int.reduceEq, ne_eq, Nat.reduceLeDiff, Nat.reduceMod, Nat.reduceDiv, hb, Bool.false_eq_true, rtn4, rtn2]) | with_reducible apply And.intro | (simp -implicitDefEqProofs (disch := omega) only [i64_in, List.length_cons, List.length_nil, Nat.reduceAdd]; done) | omega | decide | fail)
              all_goals
                apply VC.at
                · simp -implicitDefEqProofs only [go_sem, Nat.reduceLT, Nat.reduceAdd, Nat.reduceEqDiff, reduceIte, Nat.reduceMul, Nat.reduceSub, reduceCtorEq, Int.reduceNe, Int.reduceEq, ne_eq, Nat.reduceLeDiff, Nat.reduceMod, Nat.reduceDiv, hb, Bool.false_eq_true, rtn4, rtn2]; (try simp (disch := omega) only [i64_in, tmodn, tdivn]); exact rfl
                apply VC.ret
                simp -implicitDefEqProofs only [go_sem, Nat.reduceLT, Nat.reduceAdd, Nat.reduceEqDiff, reduceIte, Nat.reduceMul, Nat.reduceSub, reduceCtorEq, Int.reduceNe, Int.reduceEq, ne_eq, Nat.reduceLeDiff, Nat.reduceMod, Nat.reduceDiv, hb, Bool.false_eq_true, rtn4, rtn2]
                all_goals ((try simp only [Bool.not_eq_eq_eq_not, Bool.not_false, Bool.not_true, decide_eq_true_eq, decide_eq_false_iff_not] at *); first | (rw [rshort_no (.inl hb), rshortO, rshort_no (.inl hb)]; rfl) | (have e : rshortOk t = false := rshort_no (.inr (.inl (by assumption))); rw [rshortO, e]; rfl) | (have e : rshortOk t = false := rshort_no (.inr (.inr (by assumption))); rw [rshortO, e]; rfl) | (have e : rshortOk t = true := rshort_yes hb (by assumption) (by assumption); rw [rshortO, e, rdrop_two (rgenS t) (by omega)]; rfl))
def rreadshA (s : List UInt8) : List Vm.Data := [.str s]
noncomputable def rreadshF : PFn := PFn.of rreadshA (fun s => s.length ≤ 1000) (fun s => [.int .i64 ((rreadSh s).getD 0), .int .i64 (if (rreadSh s).isSome then 0 else 150)])
theorem rreadsh_inj (x y : List UInt8) (h : rreadshA x = rreadshA y) : x = y := by
  simpa [rreadshA, Prod.ext_iff, numsD_inj, bytesD_inj, Vm.Data.lst.injEq, Int.natCast_inj] using h
@[go_sem] theorem rreadsh_pre (s : List UInt8) : rreadshF.pre [.str s] = (s.length ≤ 1000) := PFn.of_pre rreadsh_inj s
@[go_sem] theorem rreadsh_res (s : List UInt8) : rreadshF.res [.str s] = [.int .i64 ((rreadSh s).getD 0), .int .i64 (if (rreadSh s).isSome then 0 else 150)] := PFn.of_res rreadsh_inj s
theorem rreadsh_ok : Pure E 19 rreadshF := by
  apply Pure.of_body (rs := [.tmp 2, .tmp 3]) (n := 33) Tryd.func19 rfl rfl rfl
  intro ds hds
  obtain ⟨s, rfl, hds⟩ := hds
  (try dsimp only at hds)
  rw [show rreadshF.res (rreadshA s) = [.int .i64 ((rreadSh s).getD 0), .int .i64 (if (rreadSh s).isSome then 0 else 150)] from rreadsh_res s]
  skip
  refine ⟨Nat.le_of_ble_eq_true rfl, ?_⟩
  show VC E none _ (pureSt 33 [.str s]) _
  apply VC.regt ΦR6_ok [0]; intro K' hK; dsimp only [List.take, List.drop, List.map, strip, stripG]; simp -implicitDefEqProofs only [go_sem, Nat.reduceLT, Nat.reduceAdd, Nat.reduceEqDiff, reduceIte, Nat.reduceMul, Nat.reduceSub, reduceCtorEq, Int.reduceNe, Int.reduceEq, ne_eq, Nat.reduceLeDiff, Nat.reduceMod, Nat.reduceDiv, rtn4, rtn2]
  (repeat' first | (refine hK _ ?_; clear hK K') | with_reducible apply And.intro | (simp -implicitDefEqProofs (disch := omega) only [i64_in, List.length_cons, List.length_nil, Nat.reduceAdd]; done) | (simp only [maxLen]; omega) | omega | (rw [List.length_take]; omega) | (simp only [List.length_append, List.length_cons, List.length_nil]; omega) | fail)
  all_goals
    apply VC.at
    · simp -implicitDefEqProofs only [go_sem, Nat.reduceLT, Nat.reduceAdd, Nat.reduceEqDiff, reduceIte, Nat.reduceMul, Nat.reduceSub, reduceCtorEq, Int.reduceNe, Int.reduceEq, ne_eq, Nat.reduceLeDiff, Nat.reduceMod, Nat.reduceDiv, rtn4, rtn2]; (try simp (disch := omega) only [i64_in, tmodn, tdivn]); exact rfl
    apply VC.seq
    apply VC.regt ΦR6_ok [0, 7]; intro K' hK; dsimp only [List.take, List.drop, List.map, strip, stripG]; simp -implicitDefEqProofs only [go_sem, Nat.reduceLT, Nat.reduceAdd, Nat.reduceEqDiff, reduceIte, Nat.reduceMul, Nat.reduceSub, reduceCtorEq, Int.reduceNe, Int.reduceEq, ne_eq, Nat.reduceLeDiff, Nat.reduceMod, Nat.reduceDiv, rtn4, rtn2]
    (repeat' first | (refine hK _ ?_; clear hK K') | with_reducible apply And.intro | (simp -implicitDefEqProofs (disch := omega) only [i64_in, List.length_cons, List.length_nil, Nat.reduceAdd]; done) | (simp only [maxLen]; omega) | omega | (rw [List.length_take]; omega) | (simp only [List.length_append, List.length_cons, List.length_nil]; omega) | fail)
    all_goals
      apply VC.at
      · simp -implicitDefEqProofs only [go_sem, Nat.reduceLT, Nat.reduceAdd, Nat.reduceEqDiff, reduceIte, Nat.reduceMul, Nat.reduceSub, reduceCtorEq, Int.reduceNe, Int.reduceEq, ne_eq, Nat.reduceLeDiff, Nat.reduceMod, Nat.reduceDiv, rtn4, rtn2]; (try simp (disch := omega) only [i64_in, tmodn, tdivn]); exact rfl
      first | (apply VC.condd; (focus (simp -implicitDefEqProofs only [go_sem, Nat.reduceLT, Nat.reduceAdd, Nat.reduceEqDiff, reduceIte, Nat.reduceMul, Nat.reduceSub, reduceCtorEq, Int.reduceNe, Int.reduceEq, ne_eq, Nat.reduceLeDiff, Nat.reduceMod, Nat.reduceDiv, rtn4, rtn2]; with_reducible exact rfl))) | (apply VC.condn; (focus (simp -implicitDefEqProofs only [go_sem, Nat.reduceLT, Nat.reduceAdd, Nat.reduceEqDiff, reduceIte, Nat.reduceMul, Nat.reduceSub, reduceCtorEq, Int.reduceNe, Int.reduceEq, ne_eq, Nat.reduceLeDiff, Nat.reduceMod, Nat.reduceDiv, rtn4, rtn2]; with_reducible exact rfl))) | (apply VC.condt; (focus (simp -implicitDefEqProofs only [go_sem, Nat.reduceLT, Nat.reduceAdd, Nat.reduceEqDiff, reduceIte, Nat.reduceMul, Nat.reduceSub, reduceCtorEq, Int.reduceNe, Int.reduceEq, ne_eq, Nat.reduceLeDiff, Nat.reduceMod, Nat.reduceDiv, rtn4, rtn2]; with_reducible exact rfl))) | (apply VC.condb; (focus (simp -implicitDefEqProofs only [go_sem, Nat.reduceLT, Nat.reduceAdd, Nat.reduceEqDiff, reduceIte, Nat.reduceMul, Nat.reduceSub, reduceCtorEq, Int.reduceNe, Int.reduceEq, ne_eq, Nat.reduceLeDiff, Nat.reduceMod, Nat.reduceDiv, rtn4, rtn2]; exact rfl)))
      · intro h; try exact absurd h (by decide)
        all_goals
          apply VC.regt ΦR6_ok [2, 3]; intro K' hK; dsimp only [List.take, List.drop, List.map, strip, stripG]; simp -implicitDefEqProofs only [go_sem, Nat.reduceLT, Nat.reduceAdd, Nat.reduceEqDiff, reduceIte, Nat.reduceMul, Nat.reduceSub, reduceCtorEq, Int.reduceNe, Int.reduceEq, ne_eq, Nat.reduceLeDiff, Nat.reduceMod, Nat.reduceDiv, rtn4, rtn2]
          (repeat' first | (refine hK _ ?_; clear hK K') | with_reducible apply And.intro | (simp -implicitDefEqProofs (disch := omega) only [i64_in, List.length_cons, List.length_nil, Nat.reduceAdd]; done) | (simp only [maxLen]; omega) | omega | (rw [List.length_take]; omega) | (simp only [List.length_append, List.length_cons, List.length_nil]; omega) | fail)
          all_goals
            apply VC.at
            · simp -implicitDefEqProofs only [go_sem, Nat.reduceLT, Nat.reduceAdd, Nat.reduceEqDiff, reduceIte, Nat.reduceMul, Nat.reduceSub, reduceCtorEq, Int.reduceNe, Int.reduceEq, ne_eq, Nat.reduceLeDiff, Nat.reduceMod, Nat.reduceDiv, rtn4, rtn2]; (try simp (disch := omega) only [i64_in, tmodn, tdivn]); exact rfl
            apply VC.ret
            refine thenK_r ?_
            simp -implicitDefEqProofs only [go_sem, Nat.reduceLT, Nat.reduceAdd, Nat.reduceEqDiff, reduceIte, Nat.reduceMul, Nat.reduceSub, reduceCtorEq, Int.reduceNe, Int.reduceEq, ne_eq, Nat.reduceLeDiff, Nat.reduceMod, Nat.reduceDiv, rtn4, rtn2]
            all_goals ((try simp only [Bool.not_eq_eq_eq_not, Bool.not_false, Bool.not_true, decide_eq_true_eq, decide_eq_false_iff_not] at *); first | (rw [show rreadSh s = none by unfold rreadSh; first | (rw [if_neg (by omega)]; done) | (rw [if_pos (by omega), if_pos (by omega)]; done)]; rfl) | (rw [show rreadSh s = rread (50 :: 48 :: s) by unfold rreadSh; rw [if_pos (by omega), if_neg (by omega), if_pos (by omega)]; rfl]; done) | (rw [show rreadSh s = rread (49 :: 57 :: s) by unfold rreadSh; rw [if_pos (by omega), if_neg (by omega), if_neg (by omega)]; rfl]; done))
      · intro h; try exact absurd h (by decide)
        all_goals
          apply VC.skip
          refine thenK_n ?_
          apply VC.regt ΦR6_ok [0, 4]; intro K' hK; dsimp only [List.take, List.drop, List.map, strip, stripG]; simp -implicitDefEqProofs only [go_sem, Nat.reduceLT, Nat.reduceAdd, Nat.reduceEqDiff, reduceIte, Nat.reduceMul, Nat.reduceSub, reduceCtorEq, Int.reduceNe, Int.reduceEq, ne_eq, Nat.reduceLeDiff, Nat.reduceMod, Nat.reduceDiv, rtn4, rtn2]
          (repeat' first | (refine hK _ ?_; clear hK K') | ((first | with_reducible refine runA_id ?_ | with_reducible refine goA_id ?_); simp -implicitDefEqProofs (disch := omega) only [i64_in]; simp -implicitDefEqProofs only [go_sem, Nat.reduceLT, Nat.reduceAdd, Nat.reduceEqDiff, reduceIte, Nat.reduceMul, Nat.reduceSub, reduceCtorEq, Int.reduceNe, Int.reduceEq, ne_eq, Nat.reduceLeDiff, Nat.reduceMod, Nat.reduceDiv, rtn4, rtn2]) | with_reducible apply And.intro | (simp -implicitDefEqProofs (disch := omega) only [i64_in, List.length_cons, List.length_nil, Nat.reduceAdd]; done) | (simp only [maxLen]; omega) | omega | (rw [List.length_take]; omega) | (simp only [List.length_append, List.length_cons, List.length_nil]; omega) | fail)
          all_goals
            apply VC.at
            · simp -implicitDefEqProofs only [go_sem, Nat.reduceLT, Nat.reduceAdd, Nat.reduceEqDiff, reduceIte, Nat.reduceMul, Nat.reduceSub, reduceCtorEq, Int.reduceNe, Int.reduceEq, ne_eq, Nat.reduceLeDiff, Nat.reduceMod, Nat.reduceDiv, rtn4, rtn2]; (try simp (disch := omega) only [i64_in, tmodn, tdivn]); exact rfl
            apply VC.seq
            apply VC.regt ΦR6_ok [0, 4, 20]; intro K' hK; dsimp only [List.take, List.drop, List.map, strip, stripG]; simp only [gtmp, List.getElem?_toArray, List.getElem?_cons_succ, List.getElem?_cons_zero, Option.bind_some]; simp -implicitDefEqProofs only [go_sem, Nat.reduceLT, Nat.reduceAdd, Nat.reduceEqDiff, reduceIte, Nat.reduceMul, Nat.reduceSub, reduceCtorEq, Int.reduceNe, Int.reduceEq, ne_eq, Nat.reduceLeDiff, Nat.reduceMod, Nat.reduceDiv, rtn4, rtn2]
            (repeat' first | (refine hK _ ?_; clear hK K') | (first | apply goB_splitD | apply goA_splitD | apply goB_split | apply goA_split | apply goA_all) <;> intro _ <;> simp -implicitDefEqProofs only [go_sem, Nat.reduceLT, Nat.reduceAdd, Nat.reduceEqDiff, reduceIte, Nat.reduceMul, Nat.reduceSub, reduceCtorEq, Int.reduceNe, Int.reduceEq, ne_eq, Nat.reduceLeDiff, Nat.reduceMod, Nat.reduceDiv, rtn4, rtn2] | with_reducible apply And.intro | (simp -implicitDefEqProofs (disch := omega) only [i64_in, List.length_cons, List.length_nil, Nat.reduceAdd]; done) | (simp only [maxLen]; omega) | omega | (rw [List.length_take]; omega) | (simp only [List.length_append, List.length_cons, List.length_nil]; omega) | fail)
            all_goals
              apply VC.at
              · simp -implicitDefEqProofs only [go_sem, Nat.reduceLT, Nat.reduceAdd, Nat.reduceEqDiff, reduceIte, Nat.reduceMul, Nat.reduceSub, reduceCtorEq, Int.reduceNe, Int.reduceEq, ne_eq, Nat.reduceLeDiff, Nat.reduceMod, Nat.reduceDiv, rtn4, rtn2]; (try simp (disch := omega) only [i64_in, tmodn, tdivn]); exact rfl
              first | (apply VC.condd; (focus (simp -implicitDefEqProofs only [go_sem, Nat.reduceLT, Nat.reduceAdd, Nat.reduceEqDiff, reduceIte, Nat.reduceMul, Nat.reduceSub, reduceCtorEq, Int.reduceNe, Int.reduceEq, ne_eq, Nat.reduceLeDiff, Nat.reduceMod, Nat.reduceDiv, rtn4, rtn2]; with_reducible exact rfl))) | (apply VC.condn; (focus (simp -implicitDefEqProofs only [go_sem, Nat.reduceLT, Nat.reduceAdd, Nat.reduceEqDiff, reduceIte, Nat.reduceMul, Nat.reduceSub, reduceCtorEq, Int.reduceNe, Int.reduceEq, ne_eq, Nat.reduceLeDiff, Nat.reduceMod, Nat.reduceDiv, rtn4, rtn2]; with_reducible exact rfl))) | (apply VC.condt; (focus (simp -implicitDefEqProofs only [go_sem, Nat.reduceLT, Nat.reduceAdd, Nat.reduceEqDiff, reduceIte, Nat.reduceMul, Nat.reduceSub, reduceCtorEq, Int.reduceNe, Int.reduceEq, ne_eq, Nat.reduceLeDiff, Nat.reduceMod, Nat.reduceDiv, rtn4, rtn2]; with_reducible exact rfl))) | (apply VC.condb; (focus (simp -implicitDefEqProofs only [go_sem, Nat.reduceLT, Nat.reduceAdd, Nat.reduceEqDiff, reduceIte, Nat.reduceMul, Nat.reduceSub, reduceCtorEq, Int.reduceNe, Int.reduceEq, ne_eq, Nat.reduceLeDiff, Nat.reduceMod, Nat.reduceDiv, rtn4, rtn2]; exact rfl)))
              · intro h; try exact absurd h (by decide)
                all_goals
                  apply VC.regt ΦR6_ok [2, 3]; intro K' hK; dsimp only [List.take, List.drop, List.map, strip, stripG]; simp -implicitDefEqProofs only [go_sem, Nat.reduceLT, Nat.reduceAdd, Nat.reduceEqDiff, reduceIte, Nat.reduceMul, Nat.reduceSub, reduceCtorEq, Int.reduceNe, Int.reduceEq, ne_eq, Nat.reduceLeDiff, Nat.reduceMod, Nat.reduceDiv, rtn4, rtn2]
                  (repeat' first | (refine hK _ ?_; clear hK K') | with_reducible apply And.intro | (simp -implicitDefEqProofs (disch := omega) only [i64_in, List.length_cons, List.length_nil, Nat.reduceAdd]; done) | (simp only [maxLen]; omega) | omega | (rw [List.length_take]; omega) | (simp only [List.length_append, List.length_cons, List.length_nil]; omega) | fail)
                  all_goals
                    apply VC.at
                    · simp -implicitDefEqProofs only [go_sem, Nat.reduceLT, Nat.reduceAdd, Nat.reduceEqDiff, reduceIte, Nat.reduceMul, Nat.reduceSub, reduceCtorEq, Int.reduceNe, Int.reduceEq, ne_eq, Nat.reduceLeDiff, Nat.reduceMod, Nat.reduceDiv, rtn4, rtn2]; (try simp (disch := omega) only [i64_in, tmodn, tdivn]); exact rfl
                    apply VC.ret
                    refine thenK_r ?_
                    simp -implicitDefEqProofs only [go_sem, Nat.reduceLT, Nat.reduceAdd, Nat.reduceEqDiff, reduceIte, Nat.reduceMul, Nat.reduceSub, reduceCtorEq, Int.reduceNe, Int.reduceEq, ne_eq, Nat.reduceLeDiff, Nat.reduceMod, Nat.reduceDiv, rtn4, rtn2]
                    all_goals ((try simp only [Bool.not_eq_eq_eq_not, Bool.not_false, Bool.not_true, decide_eq_true_eq, decide_eq_false_iff_not] at *); first | (rw [show rreadSh s = none by unfold rreadSh; first | (rw [if_neg (by omega)]; done) | (rw [if_pos (by omega), if_pos (by omega)]; done)]; rfl) | (rw [show rreadSh s = rread (50 :: 48 :: s) by unfold rreadSh; rw [if_pos (by omega), if_neg (by omega), if_pos (by omega)]; rfl]; done) | (rw [show rreadSh s = rread (49 :: 57 :: s) by unfold rreadSh; rw [if_pos (by omega), if_neg (by omega), if_neg (by omega)]; rfl]; done))
              · intro h; try exact absurd h (by decide)
                all_goals
                  apply VC.skip
                  refine thenK_n ?_
                  apply VC.seq
                  apply VC.regt ΦR6_ok [0, 22]; intro K' hK; dsimp only [List.take, List.drop, List.map, strip, stripG]; simp -implicitDefEqProofs only [go_sem, Nat.reduceLT, Nat.reduceAdd, Nat.reduceEqDiff, reduceIte, Nat.reduceMul, Nat.reduceSub, reduceCtorEq, Int.reduceNe, Int.reduceEq, ne_eq, Nat.reduceLeDiff, Nat.reduceMod, Nat.reduceDiv, rtn4, rtn2]
                  (repeat' first | (refine hK _ ?_; clear hK K') | with_reducible apply And.intro | (simp -implicitDefEqProofs (disch := omega) only [i64_in, List.length_cons, List.length_nil, Nat.reduceAdd]; done) | (simp only [maxLen]; omega) | omega | (rw [List.length_take]; omega) | (simp only [List.length_append, List.length_cons, List.length_nil]; omega) | fail)
                  all_goals
                    apply VC.at
                    · simp -implicitDefEqProofs only [go_sem, Nat.reduceLT, Nat.reduceAdd, Nat.reduceEqDiff, reduceIte, Nat.reduceMul, Nat.reduceSub, reduceCtorEq, Int.reduceNe, Int.reduceEq, ne_eq, Nat.reduceLeDiff, Nat.reduceMod, Nat.reduceDiv, rtn4, rtn2]; (try simp (disch := omega) only [i64_in, tmodn, tdivn]); exact rfl
                    first | (apply VC.condd; (focus (simp -implicitDefEqProofs only [go_sem, Nat.reduceLT, Nat.reduceAdd, Nat.reduceEqDiff, reduceIte, Nat.reduceMul, Nat.reduceSub, reduceCtorEq, Int.reduceNe, Int.reduceEq, ne_eq, Nat.reduceLeDiff, Nat.reduceMod, Nat.reduceDiv, rtn4, rtn2]; with_reducible exact rfl))) | (apply VC.condn; (focus (simp -implicitDefEqProofs only [go_sem, Nat.reduceLT, Nat.reduceAdd, Nat.reduceEqDiff, reduceIte, Nat.reduceMul, Nat.reduceSub, reduceCtorEq, Int.reduceNe, Int.reduceEq, ne_eq, Nat.reduceLeDiff, Nat.reduceMod, Nat.reduceDiv, rtn4, rtn2]; with_reducible exact rfl))) | (apply VC.condt; (focus (simp -implicitDefEqProofs only [go_sem, Nat.reduceLT, Nat.reduceAdd, Nat.reduceEqDiff, reduceIte, Nat.reduceMul, Nat.reduceSub, reduceCtorEq, Int.reduceNe, Int.reduceEq, ne_eq, Nat.reduceLeDiff, Nat.reduceMod, Nat.reduceDiv, rtn4, rtn2]; with_reducible exact rfl))) | (apply VC.condb; (focus (simp -implicitDefEqProofs only [go_sem, Nat.reduceLT, Nat.reduceAdd, Nat.reduceEqDiff, reduceIte, Nat.reduceMul, Nat.reduceSub, reduceCtorEq, Int.reduceNe, Int.reduceEq, ne_eq, Nat.reduceLeDiff, Nat.reduceMod, Nat.reduceDiv, rtn4, rtn2]; exact rfl)))
                    · intro h; try exact absurd h (by decide)
                      all_goals
                        apply VC.regt ΦR6_ok [2, 3]; intro K' hK; dsimp only [List.take, List.drop, List.map, strip, stripG]; simp -implicitDefEqProofs only [go_sem, Nat.reduceLT, Nat.reduceAdd, Nat.reduceEqDiff, reduceIte, Nat.reduceMul, Nat.reduceSub, reduceCtorEq, Int.reduceNe, Int.reduceEq, ne_eq, Nat.reduceLeDiff, Nat.reduceMod, Nat.reduceDiv, rtn4, rtn2]
                        (repeat' first | (refine hK _ ?_; clear hK K') | ((first | with_reducible refine runA_id ?_ | with_reducible refine goA_id ?_); simp -implicitDefEqProofs (disch := omega) only [i64_in]; simp -implicitDefEqProofs only [go_sem, Nat.reduceLT, Nat.reduceAdd, Nat.reduceEqDiff, reduceIte, Nat.reduceMul, Nat.reduceSub, reduceCtorEq, Int.reduceNe, Int.reduceEq, ne_eq, Nat.reduceLeDiff, Nat.reduceMod, Nat.reduceDiv, rtn4, rtn2]) | with_reducible apply And.intro | (simp -implicitDefEqProofs (disch := omega) only [i64_in, List.length_cons, List.length_nil, Nat.reduceAdd]; done) | (simp only [maxLen]; omega) | omega | (rw [List.length_take]; omega) | (simp only [List.length_append, List.length_cons, List.length_nil]; omega) | fail)
                        all_goals
                          apply VC.at
                          · simp -implicitDefEqProofs only [go_sem, Nat.reduceLT, Nat.reduceAdd, Nat.reduceEqDiff, reduceIte, Nat.reduceMul, Nat.reduceSub, reduceCtorEq, Int.reduceNe, Int.reduceEq, ne_eq, Nat.reduceLeDiff, Nat.reduceMod, Nat.reduceDiv, rtn4, rtn2]; (try simp (disch := omega) only [i64_in, tmodn, tdivn]); exact rfl
                          apply VC.ret
                          refine thenK_r ?_
                          simp -implicitDefEqProofs only [go_sem, Nat.reduceLT, Nat.reduceAdd, Nat.reduceEqDiff, reduceIte, Nat.reduceMul, Nat.reduceSub, reduceCtorEq, Int.reduceNe, Int.reduceEq, ne_eq, Nat.reduceLeDiff, Nat.reduceMod, Nat.reduceDiv, rtn4, rtn2]
                          all_goals ((try simp only [Bool.not_eq_eq_eq_not, Bool.not_false, Bool.not_true, decide_eq_true_eq, decide_eq_false_iff_not] at *); first | (rw [show rreadSh s = none by unfold rreadSh; first | (rw [if_neg (by omega)]; done) | (rw [if_pos (by omega), if_pos (by omega)]; done)]; rfl) | (rw [show rreadSh s = rread (50 :: 48 :: s) by unfold rreadSh; rw [if_pos (by omega), if_neg (by omega), if_pos (by omega)]; rfl]; done) | (rw [show rreadSh s = rread (49 :: 57 :: s) by unfold rreadSh; rw [if_pos (by omega), if_neg (by omega), if_neg (by omega)]; rfl]; done))
                    · intro h; try exact absurd h (by decide)
                      all_goals
                        apply VC.skip
                        refine thenK_n ?_
                        apply VC.regt ΦR6_ok [2, 3]; intro K' hK; dsimp only [List.take, List.drop, List.map, strip, stripG]; simp -implicitDefEqProofs only [go_sem, Nat.reduceLT, Nat.reduceAdd, Nat.reduceEqDiff, reduceIte, Nat.reduceMul, Nat.reduceSub, reduceCtorEq, Int.reduceNe, Int.reduceEq, ne_eq, Nat.reduceLeDiff, Nat.reduceMod, Nat.reduceDiv, rtn4, rtn2]
                        (repeat' first | (refine hK _ ?_; clear hK K') | ((first | with_reducible refine runA_id ?_ | with_reducible refine goA_id ?_); simp -implicitDefEqProofs (disch := omega) only [i64_in]; simp -implicitDefEqProofs only [go_sem, Nat.reduceLT, Nat.reduceAdd, Nat.reduceEqDiff, reduceIte, Nat.reduceMul, Nat.reduceSub, reduceCtorEq, Int.reduceNe, Int.reduceEq, ne_eq, Nat.reduceLeDiff, Nat.reduceMod, Nat.reduceDiv, rtn4, rtn2]) | with_reducible apply And.intro | (simp -implicitDefEqProofs (disch := omega) only [i64_in, List.length_cons, List.length_nil, Nat.reduceAdd]; done) | (simp only [maxLen]; omega) | omega | (rw [List.length_take]; omega) | (simp only [List.length_append, List.length_cons, List.length_nil]; omega) | fail)
                        all_goals
                          apply VC.at
                          · simp -implicitDefEqProofs only [go_sem, Nat.reduceLT, Nat.reduceAdd, Nat.reduceEqDiff, reduceIte, Nat.reduceMul, Nat.reduceSub, reduceCtorEq, Int.reduceNe, Int.reduceEq, ne_eq, Nat.reduceLeDiff, Nat.reduceMod, Nat.reduceDiv, rtn4, rtn2]; (try simp (disch := omega) only [i64_in, tmodn, tdivn]); exact rfl
                          apply VC.ret
                          simp -implicitDefEqProofs only [go_sem, Nat.reduceLT, Nat.reduceAdd, Nat.reduceEqDiff, reduceIte, Nat.reduceMul, Nat.reduceSub, reduceCtorEq, Int.reduceNe, Int.reduceEq, ne_eq, Nat.reduceLeDiff, Nat.reduceMod, Nat.reduceDiv, rtn4, rtn2]
                          all_goals ((try simp only [Bool.not_eq_eq_eq_not, Bool.not_false, Bool.not_true, decide_eq_true_eq, decide_eq_false_iff_not] at *); first | (rw [show rreadSh s = none by unfold rreadSh; first | (rw [if_neg (by omega)]; done) | (rw [if_pos (by omega), if_pos (by omega)]; done)]; rfl) | (rw [show rreadSh s = rread (50 :: 48 :: s) by unfold rreadSh; rw [if_pos (by omega), if_neg (by omega), if_pos (by omega)]; rfl]; done) | (rw [show rreadSh s = rread (49 :: 57 :: s) by unfold rreadSh; rw [if_pos (by omega), if_neg (by omega), if_neg (by omega)]; rfl]; done))
end Go.Proofs.YtfbodageccednaaDoor.Oa

