/- What digits, General and Short compute: their contracts. No condition. -/
import Derived.Test.YtfbodageccednaaDoorOaB
import Derived.Test.YtfbodageccednaaDoorOaC
set_option linter.unusedVariables false
set_option linter.unusedSimpArgs false
namespace Go.Proofs.YtfbodageccednaaDoor.Oa
open Go Go.RowKit Go.Proofs.YtfbodageccednaaDoor.Vm Go.IntWalk
set_option maxRecDepth 100000
set_option maxHeartbeats 4000000
/-- The error that the public ParseUint tells. -/
def puE : Lib.NumEnd Nat → Vm.Data
  | .ok n => .nili
  | _ => .iface 110 (.ptr [])
@[go_sem] theorem puE_ok (n : Nat) : puE (.ok n) = .nili := rfl
@[go_sem] theorem puE_syntax : puE Lib.NumEnd.syntax = .iface 110 (.ptr []) := rfl
@[go_sem] theorem puE_range : puE .range = .iface 110 (.ptr []) := rfl
@[go_sem] theorem puNum_ok (n : Nat) : puNum (.ok n) = n := rfl
@[go_sem] theorem puErr_ok (n : Nat) : puErr (.ok n) = .nili := rfl
@[go_sem] theorem puErr_syntax : puErr Lib.NumEnd.syntax = .iface 107 (.int .i64 2) := rfl
@[go_sem] theorem puErr_range : puErr .range = .iface 107 (.int .i64 1) := rfl
theorem pub_eq : pub = [80, 97, 114, 115, 101, 85, 105, 110, 116] := rfl
@[go_sem] theorem k107 : kindT Tryd.prog 107 = .int .i64 := by kernel_rfl
@[go_sem] theorem s107 : szT Tryd.prog 107 = 1 := by kernel_rfl
@[go_sem] theorem p107 : posT Tryd.prog 107 = true := by kernel_rfl
@[go_sem] theorem b107 : bytesT Tryd.prog 107 = 8 := by kernel_rfl
@[go_sem] theorem k110 : kindT Tryd.prog 110 = .ptr := by kernel_rfl
@[go_sem] theorem s110 : szT Tryd.prog 110 = 1 := by kernel_rfl
@[go_sem] theorem p110 : posT Tryd.prog 110 = true := by kernel_rfl
@[go_sem] theorem b110 : bytesT Tryd.prog 110 = 8 := by kernel_rfl
@[go_sem] theorem k81 : kindT Tryd.prog 81 = .iface := by kernel_rfl
@[go_sem] theorem s81 : szT Tryd.prog 81 = 1 := by kernel_rfl
@[go_sem] theorem p81 : posT Tryd.prog 81 = true := by kernel_rfl
@[go_sem] theorem b81 : bytesT Tryd.prog 81 = 16 := by kernel_rfl
@[go_sem] theorem s82 : szT Tryd.prog 82 = 1 := by kernel_rfl
@[go_sem] theorem p82 : posT Tryd.prog 82 = true := by kernel_rfl
@[go_sem] theorem b82 : bytesT Tryd.prog 82 = 0 := by kernel_rfl
noncomputable def ΦP1 : Fns := tab [(58, parseIF), (59, toErrF)]
theorem ΦP1_ok : Sound E ΦP1 := sound_cons (by kernel_rfl) parseI_ok (sound_cons (by kernel_rfl) toErr_ok (sound_nil))
@[go_sem] theorem ΦP1_58 : ΦP1 58 = some parseIF := rfl
@[go_sem] theorem ΦP1_59 : ΦP1 59 = some toErrF := rfl
def parseUA (s : List UInt8) : List Vm.Data := [.str s, .int .i64 10, .int .i64 31]
noncomputable def parseUF : PFn := PFn.of parseUA (fun s => s.length ≤ 1000000) (fun s => [.int .u64 (puNum (puN s)), puE (puN s)])
theorem parseU_inj (x y : List UInt8) (h : parseUA x = parseUA y) : x = y := by
  simpa [parseUA, Prod.ext_iff, numsD_inj, bytesD_inj, Vm.Data.lst.injEq, Int.natCast_inj] using h
@[go_sem] theorem parseU_pre (s : List UInt8) : parseUF.pre [.str s, .int .i64 10, .int .i64 31] = (s.length ≤ 1000000) := PFn.of_pre parseU_inj s
@[go_sem] theorem parseU_res (s : List UInt8) : parseUF.res [.str s, .int .i64 10, .int .i64 31] = [.int .u64 (puNum (puN s)), puE (puN s)] := PFn.of_res parseU_inj s
theorem parseU_ok : Pure E 44 parseUF := by
  apply Pure.of_body (rs := [.tmp 6, .tmp 7]) (n := 26) Tryd.func44 rfl rfl rfl
  intro ds hds
  obtain ⟨s, rfl, hds⟩ := hds
  (try dsimp only at hds)
  rw [show parseUF.res (parseUA s) = [.int .u64 (puNum (puN s)), puE (puN s)] from parseU_res s]
  rcases hh : puN s with n | _ | _
  all_goals
    refine ⟨Nat.le_of_ble_eq_true rfl, ?_⟩
    show VC E none _ (pureSt 26 [.str s, .int .i64 10, .int .i64 31]) _
    apply VC.regt ΦP1_ok [0, 1, 2]; intro K' hK; dsimp only [List.take, List.drop, List.map, strip, stripG]; simp -implicitDefEqProofs only [go_sem, Nat.reduceLT, Nat.reduceAdd, Nat.reduceEqDiff, reduceIte, Nat.reduceMul, Nat.reduceSub, reduceCtorEq, Int.reduceNe, Int.reduceEq, ne_eq, Nat.reduceLeDiff, Nat.reduceMod, Nat.reduceDiv, hh, ← pub_eq]
    (repeat' first | (refine hK _ ?_; clear hK K') | with_reducible apply And.intro | exact hds)
    all_goals
      apply VC.at
      · simp -implicitDefEqProofs only [go_sem, Nat.reduceLT, Nat.reduceAdd, Nat.reduceEqDiff, reduceIte, Nat.reduceMul, Nat.reduceSub, reduceCtorEq, Int.reduceNe, Int.reduceEq, ne_eq, Nat.reduceLeDiff, Nat.reduceMod, Nat.reduceDiv, hh, ← pub_eq]; (try simp (disch := omega) only [i64_in, tmodn, tdivn]); exact rfl
      apply VC.regt ΦP1_ok [0, 1, 2, 8, 9]; intro K' hK; dsimp only [List.take, List.drop, List.map, strip, stripG]; simp -implicitDefEqProofs only [go_sem, Nat.reduceLT, Nat.reduceAdd, Nat.reduceEqDiff, reduceIte, Nat.reduceMul, Nat.reduceSub, reduceCtorEq, Int.reduceNe, Int.reduceEq, ne_eq, Nat.reduceLeDiff, Nat.reduceMod, Nat.reduceDiv, hh, ← pub_eq]
      (repeat' first | (refine hK _ ?_; clear hK K') | with_reducible apply And.intro | exact hds)
      all_goals
        apply VC.at
        · simp -implicitDefEqProofs only [go_sem, Nat.reduceLT, Nat.reduceAdd, Nat.reduceEqDiff, reduceIte, Nat.reduceMul, Nat.reduceSub, reduceCtorEq, Int.reduceNe, Int.reduceEq, ne_eq, Nat.reduceLeDiff, Nat.reduceMod, Nat.reduceDiv, hh, ← pub_eq]; (try simp (disch := omega) only [i64_in, tmodn, tdivn]); exact rfl
        apply VC.seq
        apply VC.regt ΦP1_ok [0, 1, 2, 8, 9, 18]; intro K' hK; dsimp only [List.take, List.drop, List.map, strip, stripG]; simp -implicitDefEqProofs only [go_sem, Nat.reduceLT, Nat.reduceAdd, Nat.reduceEqDiff, reduceIte, Nat.reduceMul, Nat.reduceSub, reduceCtorEq, Int.reduceNe, Int.reduceEq, ne_eq, Nat.reduceLeDiff, Nat.reduceMod, Nat.reduceDiv, hh, ← pub_eq]
        (repeat' first | (refine hK _ ?_; clear hK K') | with_reducible apply And.intro | exact hds)
        all_goals
          apply VC.at
          · simp -implicitDefEqProofs only [go_sem, Nat.reduceLT, Nat.reduceAdd, Nat.reduceEqDiff, reduceIte, Nat.reduceMul, Nat.reduceSub, reduceCtorEq, Int.reduceNe, Int.reduceEq, ne_eq, Nat.reduceLeDiff, Nat.reduceMod, Nat.reduceDiv, hh, ← pub_eq]; (try simp (disch := omega) only [i64_in, tmodn, tdivn]); exact rfl
          first | (apply VC.condd; (focus (simp -implicitDefEqProofs only [go_sem, Nat.reduceLT, Nat.reduceAdd, Nat.reduceEqDiff, reduceIte, Nat.reduceMul, Nat.reduceSub, reduceCtorEq, Int.reduceNe, Int.reduceEq, ne_eq, Nat.reduceLeDiff, Nat.reduceMod, Nat.reduceDiv, hh, ← pub_eq]; with_reducible exact rfl))) | (apply VC.condn; (focus (simp -implicitDefEqProofs only [go_sem, Nat.reduceLT, Nat.reduceAdd, Nat.reduceEqDiff, reduceIte, Nat.reduceMul, Nat.reduceSub, reduceCtorEq, Int.reduceNe, Int.reduceEq, ne_eq, Nat.reduceLeDiff, Nat.reduceMod, Nat.reduceDiv, hh, ← pub_eq]; with_reducible exact rfl))) | (apply VC.condt; (focus (simp -implicitDefEqProofs only [go_sem, Nat.reduceLT, Nat.reduceAdd, Nat.reduceEqDiff, reduceIte, Nat.reduceMul, Nat.reduceSub, reduceCtorEq, Int.reduceNe, Int.reduceEq, ne_eq, Nat.reduceLeDiff, Nat.reduceMod, Nat.reduceDiv, hh, ← pub_eq]; with_reducible exact rfl))) | (apply VC.condb; (focus (simp -implicitDefEqProofs only [go_sem, Nat.reduceLT, Nat.reduceAdd, Nat.reduceEqDiff, reduceIte, Nat.reduceMul, Nat.reduceSub, reduceCtorEq, Int.reduceNe, Int.reduceEq, ne_eq, Nat.reduceLeDiff, Nat.reduceMod, Nat.reduceDiv, hh, ← pub_eq]; exact rfl)))
          · intro h; try exact absurd h (by decide)
            all_goals
              apply VC.regt ΦP1_ok [6, 7]; intro K' hK; dsimp only [List.take, List.drop, List.map, strip, stripG]; simp -implicitDefEqProofs only [go_sem, Nat.reduceLT, Nat.reduceAdd, Nat.reduceEqDiff, reduceIte, Nat.reduceMul, Nat.reduceSub, reduceCtorEq, Int.reduceNe, Int.reduceEq, ne_eq, Nat.reduceLeDiff, Nat.reduceMod, Nat.reduceDiv, hh, ← pub_eq]
              (repeat' first | (refine hK _ ?_; clear hK K') | with_reducible apply And.intro | exact hds)
              all_goals
                apply VC.at
                · simp -implicitDefEqProofs only [go_sem, Nat.reduceLT, Nat.reduceAdd, Nat.reduceEqDiff, reduceIte, Nat.reduceMul, Nat.reduceSub, reduceCtorEq, Int.reduceNe, Int.reduceEq, ne_eq, Nat.reduceLeDiff, Nat.reduceMod, Nat.reduceDiv, hh, ← pub_eq]; (try simp (disch := omega) only [i64_in, tmodn, tdivn]); exact rfl
                apply VC.ret
                refine thenK_r ?_
                simp -implicitDefEqProofs only [go_sem, Nat.reduceLT, Nat.reduceAdd, Nat.reduceEqDiff, reduceIte, Nat.reduceMul, Nat.reduceSub, reduceCtorEq, Int.reduceNe, Int.reduceEq, ne_eq, Nat.reduceLeDiff, Nat.reduceMod, Nat.reduceDiv, hh, ← pub_eq]
                all_goals (rfl)
          · intro h; try exact absurd h (by decide)
            all_goals
              apply VC.skip
              refine thenK_n ?_
              apply VC.regt ΦP1_ok [6, 7]; intro K' hK; dsimp only [List.take, List.drop, List.map, strip, stripG]; simp -implicitDefEqProofs only [go_sem, Nat.reduceLT, Nat.reduceAdd, Nat.reduceEqDiff, reduceIte, Nat.reduceMul, Nat.reduceSub, reduceCtorEq, Int.reduceNe, Int.reduceEq, ne_eq, Nat.reduceLeDiff, Nat.reduceMod, Nat.reduceDiv, hh, ← pub_eq]
              (repeat' first | (refine hK _ ?_; clear hK K') | with_reducible apply And.intro | exact hds)
              all_goals
                apply VC.at
                · simp -implicitDefEqProofs only [go_sem, Nat.reduceLT, Nat.reduceAdd, Nat.reduceEqDiff, reduceIte, Nat.reduceMul, Nat.reduceSub, reduceCtorEq, Int.reduceNe, Int.reduceEq, ne_eq, Nat.reduceLeDiff, Nat.reduceMod, Nat.reduceDiv, hh, ← pub_eq]; (try simp (disch := omega) only [i64_in, tmodn, tdivn]); exact rfl
                apply VC.ret
                simp -implicitDefEqProofs only [go_sem, Nat.reduceLT, Nat.reduceAdd, Nat.reduceEqDiff, reduceIte, Nat.reduceMul, Nat.reduceSub, reduceCtorEq, Int.reduceNe, Int.reduceEq, ne_eq, Nat.reduceLeDiff, Nat.reduceMod, Nat.reduceDiv, hh, ← pub_eq]
                all_goals (rfl)
end Go.Proofs.YtfbodageccednaaDoor.Oa
namespace Go.Proofs.YtfbodageccednaaDoor.Oa
open Go Go.RowKit Go.Proofs.YtfbodageccednaaDoor.Vm Go.IntWalk
set_option maxRecDepth 100000
set_option maxHeartbeats 4000000
noncomputable def ΦP2 : Fns := tab [(36, itoaF), (33, repF)]
theorem ΦP2_ok : Sound E ΦP2 := sound_cons (by kernel_rfl) itoa_ok (sound_cons (by kernel_rfl) rep_ok (sound_nil))
@[go_sem] theorem ΦP2_36 : ΦP2 36 = some itoaF := rfl
@[go_sem] theorem ΦP2_33 : ΦP2 33 = some repF := rfl
/-- A number's digits, so many at the least. -/
def rep0 : List UInt8 := [48]
theorem rep_len : ∀ n, (Lib.repeatL [48] n).length = n
  | 0 => rfl
  | n + 1 => by rw [Lib.repeatL, List.length_append, rep_len n]; simp; omega
def digitsP (n m : Nat) : List UInt8 := Lib.repeatL [48] (m - (Lib.decDigits n).length) ++ Lib.decDigits n
theorem dd_len (k : Nat) : ∀ n, n < 10 ^ (k + 1) → (Lib.decDigits n).length ≤ k + 1 := by
  induction k with
  | zero => intro n h; rw [Lib.decDigits_one (by simpa using h)]; simp
  | succ k ih =>
    intro n h
    by_cases h1 : n < 10
    · rw [Lib.decDigits_one h1]; simp
    · rw [Lib.decDigits, dif_neg h1, List.length_append]
      have := ih (n / 10) (by rw [Nat.pow_succ] at h; omega)
      simp; omega
def digitsI (n m : Int) : List UInt8 := digitsP n.toNat m.toNat
theorem dl (n m : Int) (hn : 0 ≤ n) (h : n < 1000000000) (h2 : m ≤ 20) : (digitsI n m).length ≤ 30 := by
  unfold digitsI digitsP
  have := dd_len 9 n.toNat (by omega)
  rw [List.length_append, rep_len]; omega
def digitsA (x : Int × Int) : List Vm.Data := let (n, q) := x; [.int .i64 n, .int .i64 q]
noncomputable def digitsF : PFn := PFn.of digitsA (fun (n, q) => 0 ≤ n ∧ n < 1000000000 ∧ 0 ≤ q ∧ q ≤ 20) (fun (n, q) => [.str (digitsI n q)])
theorem digits_inj (x y : Int × Int) (h : digitsA x = digitsA y) : x = y := by
  simpa [digitsA, Prod.ext_iff, numsD_inj, bytesD_inj, Vm.Data.lst.injEq, Int.natCast_inj] using h
@[go_sem] theorem digits_pre (n : Int) (q : Int) : digitsF.pre [.int .i64 n, .int .i64 q] = (0 ≤ n ∧ n < 1000000000 ∧ 0 ≤ q ∧ q ≤ 20) := PFn.of_pre digits_inj (n, q)
@[go_sem] theorem digits_res (n : Int) (q : Int) : digitsF.res [.int .i64 n, .int .i64 q] = [.str (digitsI n q)] := PFn.of_res digits_inj (n, q)
theorem digits_ok : Pure E 24 digitsF := by
  apply Pure.of_body (rs := [.tmp 4]) (n := 16) Tryd.func24 rfl rfl rfl
  intro ds hds
  obtain ⟨⟨n, q⟩, rfl, hds⟩ := hds
  (try dsimp only at hds)
  rw [show digitsF.res (digitsA (n, q)) = [.str (digitsI n q)] from digits_res n q]
  obtain ⟨hn0, hn, hq0, hm⟩ := hds; obtain ⟨k, ek⟩ : ∃ k : Nat, n = (k : Int) := ⟨n.toNat, by omega⟩; obtain ⟨m, em⟩ : ∃ m : Nat, q = (m : Int) := ⟨q.toNat, by omega⟩
  have ed : digitsI n q = digitsP k m := by unfold digitsI; rw [ek, em, Int.toNat_natCast, Int.toNat_natCast]
  rw [ed]
  have hl := dd_len 9 k (by omega)
  have hr := rep_len (m - (Lib.decDigits k).length)
  have hmax : (if 0 < IntKind.i64.wrap ((m : Int) - ((Lib.decDigits k).length : Int)) then IntKind.i64.wrap ((m : Int) - ((Lib.decDigits k).length : Int)) else 0) = ((m - (Lib.decDigits k).length : Nat) : Int) := by rw [i64_in _ (by omega)]; split <;> omega
  refine ⟨Nat.le_of_ble_eq_true rfl, ?_⟩
  show VC E none _ (pureSt 16 [.int .i64 n, .int .i64 q]) _
  subst ek em
  apply VC.regt ΦP2_ok [0, 1]; intro K' hK; dsimp only [List.take, List.drop, List.map, strip, stripG]; simp -implicitDefEqProofs only [go_sem, Nat.reduceLT, Nat.reduceAdd, Nat.reduceEqDiff, reduceIte, Nat.reduceMul, Nat.reduceSub, reduceCtorEq, Int.reduceNe, Int.reduceEq, ne_eq, Nat.reduceLeDiff, Nat.reduceMod, Nat.reduceDiv, hmax]
  (repeat' first | (refine hK _ ?_; clear hK K') | with_reducible apply And.intro | omega | (refine ⟨?_, ?_⟩ <;> simp <;> omega) | (simp; omega))
  all_goals
    apply VC.at
    · simp -implicitDefEqProofs only [go_sem, Nat.reduceLT, Nat.reduceAdd, Nat.reduceEqDiff, reduceIte, Nat.reduceMul, Nat.reduceSub, reduceCtorEq, Int.reduceNe, Int.reduceEq, ne_eq, Nat.reduceLeDiff, Nat.reduceMod, Nat.reduceDiv, hmax]; (try simp (disch := omega) only [i64_in, tmodn, tdivn]); exact rfl
    apply VC.regt ΦP2_ok [1, 5]; intro K' hK; dsimp only [List.take, List.drop, List.map, strip, stripG]; simp -implicitDefEqProofs only [go_sem, Nat.reduceLT, Nat.reduceAdd, Nat.reduceEqDiff, reduceIte, Nat.reduceMul, Nat.reduceSub, reduceCtorEq, Int.reduceNe, Int.reduceEq, ne_eq, Nat.reduceLeDiff, Nat.reduceMod, Nat.reduceDiv, hmax]
    (repeat' first | (refine hK _ ?_; clear hK K') | with_reducible apply And.intro | omega | (refine ⟨?_, ?_⟩ <;> simp <;> omega) | (simp; omega))
    all_goals
      apply VC.at
      · simp -implicitDefEqProofs only [go_sem, Nat.reduceLT, Nat.reduceAdd, Nat.reduceEqDiff, reduceIte, Nat.reduceMul, Nat.reduceSub, reduceCtorEq, Int.reduceNe, Int.reduceEq, ne_eq, Nat.reduceLeDiff, Nat.reduceMod, Nat.reduceDiv, hmax]; (try simp (disch := omega) only [i64_in, tmodn, tdivn]); exact rfl
      apply VC.regt ΦP2_ok [4]; intro K' hK; dsimp only [List.take, List.drop, List.map, strip, stripG]; simp -implicitDefEqProofs only [go_sem, Nat.reduceLT, Nat.reduceAdd, Nat.reduceEqDiff, reduceIte, Nat.reduceMul, Nat.reduceSub, reduceCtorEq, Int.reduceNe, Int.reduceEq, ne_eq, Nat.reduceLeDiff, Nat.reduceMod, Nat.reduceDiv, hmax]
      (repeat' first | (refine hK _ ?_; clear hK K') | with_reducible apply And.intro | omega | (refine ⟨?_, ?_⟩ <;> simp <;> omega) | (simp; omega))
      all_goals
        apply VC.at
        · simp -implicitDefEqProofs only [go_sem, Nat.reduceLT, Nat.reduceAdd, Nat.reduceEqDiff, reduceIte, Nat.reduceMul, Nat.reduceSub, reduceCtorEq, Int.reduceNe, Int.reduceEq, ne_eq, Nat.reduceLeDiff, Nat.reduceMod, Nat.reduceDiv, hmax]; (try simp (disch := omega) only [i64_in, tmodn, tdivn]); exact rfl
        apply VC.ret
        simp -implicitDefEqProofs only [go_sem, Nat.reduceLT, Nat.reduceAdd, Nat.reduceEqDiff, reduceIte, Nat.reduceMul, Nat.reduceSub, reduceCtorEq, Int.reduceNe, Int.reduceEq, ne_eq, Nat.reduceLeDiff, Nat.reduceMod, Nat.reduceDiv, hmax]
        all_goals (first | rfl)
end Go.Proofs.YtfbodageccednaaDoor.Oa
namespace Go.Proofs.YtfbodageccednaaDoor.Oa
open Go Go.RowKit Go.Proofs.YtfbodageccednaaDoor.Vm Go.IntWalk
set_option maxRecDepth 100000
set_option maxHeartbeats 4000000
noncomputable def ΦP3 : Fns := tab [(23, atF), (24, digitsF), (25, trimRF)]
theorem ΦP3_ok : Sound E ΦP3 := sound_cons (by kernel_rfl) at_ok (sound_cons (by kernel_rfl) digits_ok (sound_cons (by kernel_rfl) trimR_ok (sound_nil)))
@[go_sem] theorem ΦP3_23 : ΦP3 23 = some atF := rfl
@[go_sem] theorem ΦP3_24 : ΦP3 24 = some digitsF := rfl
@[go_sem] theorem ΦP3_25 : ΦP3 25 = some trimRF := rfl
@[go_sem] theorem s25 : szT Tryd.prog 25 = 1 := by kernel_rfl
@[go_sem] theorem p25 : posT Tryd.prog 25 = true := by kernel_rfl
@[go_sem] theorem b25 : bytesT Tryd.prog 25 = 0 := by kernel_rfl
def tIn (t : Int) : Bool := decide (0 ≤ t ∧ t ≤ 253402300799999)
def headS (t : Int) : List UInt8 := digitsI (Cal.atY (t / 86400000)) 4 ++ digitsI (Cal.atM (t / 86400000)) 2 ++ digitsI (Cal.atD (t / 86400000)) 2 ++ (digitsI (t % 86400000 / 1000 / 3600) 2 ++ digitsI (t % 86400000 / 1000 / 60 % 60) 2 ++ digitsI (t % 86400000 / 1000 % 60) 2)
/-- A time's general text, as the program writes it. -/
def genS (t : Int) : List UInt8 := if 0 < t % 86400000 % 1000 then headS t ++ 46 :: Lib.trimRightB (digitsI (t % 86400000 % 1000) 3) 48 ++ [90] else headS t ++ [90]
def genO (t : Int) : List UInt8 := if tIn t then genS t else []
theorem tIn_yes {t : Int} (h0 : 0 ≤ t) (h1 : t ≤ 253402300799999) : tIn t = true := by simp only [tIn, decide_eq_true_eq]; omega
theorem tIn_no {t : Int} (h : t < 0 ∨ 253402300799999 < t) : tIn t = false := by simp only [tIn, decide_eq_false_iff_not]; omega
theorem genO_yes {t : Int} (h0 : 0 ≤ t) (h1 : t ≤ 253402300799999) : genO t = genS t := if_pos (tIn_yes h0 h1)
theorem genO_no {t : Int} (h : t < 0 ∨ 253402300799999 < t) : genO t = [] := by unfold genO; rw [tIn_no h]; rfl
theorem Y_up (a b : Int) (h : a ≤ b) : Cal.Y a ≤ Cal.Y b := by unfold Cal.Y; omega
theorem at_year (n : Int) (h0 : 0 ≤ n) (h1 : n ≤ 2932896) : 1970 ≤ Cal.atY n ∧ Cal.atY n ≤ 9999 := by
  obtain ⟨a, b, c, d, e⟩ := Cal.at_ok n h0 h1
  have hl := long_le (Cal.atY n) (Cal.atM n)
  have r := C_range31 (Cal.atY n) (Cal.atM n) (Cal.atD n) b c d (by omega)
  have e1 : Cal.Y 1970 = 0 := by decide
  have e2 : Cal.Y 10000 = 2932897 := by decide
  have s := Cal.Y_succ (Cal.atY n)
  unfold Cal.num at a
  constructor
  · rcases Int.lt_or_le (Cal.atY n) 1970 with h | h
    · have := Y_up (Cal.atY n + 1) 1970 (by omega); omega
    · exact h
  · rcases Int.lt_or_le 9999 (Cal.atY n) with h | h
    · have := Y_up 10000 (Cal.atY n) (by omega); omega
    · exact h
theorem trim_len (s : List UInt8) (c : UInt8) : (Lib.trimRightB s c).length ≤ s.length := by
  unfold Lib.trimRightB
  rw [List.length_reverse]
  exact Nat.le_trans (List.dropWhile_sublist _).length_le (by simp)
def generalA (t : Int) : List Vm.Data := [.int .i64 t]
noncomputable def generalF : PFn := PFn.of generalA (fun t => True) (fun t => [.str (genO t), .int .i64 (if tIn t then 0 else 150)])
theorem general_inj (x y : Int) (h : generalA x = generalA y) : x = y := by
  simpa [generalA, Prod.ext_iff, numsD_inj, bytesD_inj, Vm.Data.lst.injEq, Int.natCast_inj] using h
@[go_sem] theorem general_pre (t : Int) : generalF.pre [.int .i64 t] = (True) := PFn.of_pre general_inj t
@[go_sem] theorem general_res (t : Int) : generalF.res [.int .i64 t] = [.str (genO t), .int .i64 (if tIn t then 0 else 150)] := PFn.of_res general_inj t
theorem general_ok : Pure E 10 generalF := by
  apply Pure.of_body (rs := [.tmp 2, .tmp 3]) (n := 58) Tryd.func10 rfl rfl rfl
  intro ds hds
  obtain ⟨t, rfl, hds⟩ := hds
  (try dsimp only at hds)
  rw [show generalF.res (generalA t) = [.str (genO t), .int .i64 (if tIn t then 0 else 150)] from general_res t]
  skip
  refine ⟨Nat.le_of_ble_eq_true rfl, ?_⟩
  show VC E none _ (pureSt 58 [.int .i64 t]) _
  apply VC.regt ΦP3_ok [0]; intro K' hK; dsimp only [List.take, List.drop, List.map, strip, stripG]; simp -implicitDefEqProofs only [go_sem, Nat.reduceLT, Nat.reduceAdd, Nat.reduceEqDiff, reduceIte, Nat.reduceMul, Nat.reduceSub, reduceCtorEq, Int.reduceNe, Int.reduceEq, ne_eq, Nat.reduceLeDiff, Nat.reduceMod, Nat.reduceDiv]
  (repeat' first | (refine hK _ ?_; clear hK K') | with_reducible apply And.intro | (simp -implicitDefEqProofs (disch := omega) only [i64_in, tdivn, tmodn, List.length_cons, List.length_nil, Nat.reduceAdd]; done) | omega | (simp -implicitDefEqProofs (disch := omega) only [tdivn, tmodn, i64_in, List.length_append, List.length_cons, List.length_nil]; omega) | (refine ⟨?_, by decide⟩; omega) | decide | fail)
  all_goals
    apply VC.at
    · simp -implicitDefEqProofs only [go_sem, Nat.reduceLT, Nat.reduceAdd, Nat.reduceEqDiff, reduceIte, Nat.reduceMul, Nat.reduceSub, reduceCtorEq, Int.reduceNe, Int.reduceEq, ne_eq, Nat.reduceLeDiff, Nat.reduceMod, Nat.reduceDiv]; (try simp (disch := omega) only [i64_in, tmodn, tdivn]); exact rfl
    apply VC.seq
    apply VC.regt ΦP3_ok [0, 13]; intro K' hK; dsimp only [List.take, List.drop, List.map, strip, stripG]; simp only [gtmp, List.getElem?_toArray, List.getElem?_cons_succ, List.getElem?_cons_zero, Option.bind_some]; simp -implicitDefEqProofs only [go_sem, Nat.reduceLT, Nat.reduceAdd, Nat.reduceEqDiff, reduceIte, Nat.reduceMul, Nat.reduceSub, reduceCtorEq, Int.reduceNe, Int.reduceEq, ne_eq, Nat.reduceLeDiff, Nat.reduceMod, Nat.reduceDiv]
    (repeat' first | (refine hK _ ?_; clear hK K') | (first | apply goB_splitD | apply goA_splitD | apply goB_split | apply goA_split | apply goA_all) <;> intro _ <;> simp -implicitDefEqProofs only [go_sem, Nat.reduceLT, Nat.reduceAdd, Nat.reduceEqDiff, reduceIte, Nat.reduceMul, Nat.reduceSub, reduceCtorEq, Int.reduceNe, Int.reduceEq, ne_eq, Nat.reduceLeDiff, Nat.reduceMod, Nat.reduceDiv] | with_reducible apply And.intro | (simp -implicitDefEqProofs (disch := omega) only [i64_in, tdivn, tmodn, List.length_cons, List.length_nil, Nat.reduceAdd]; done) | omega | (simp -implicitDefEqProofs (disch := omega) only [tdivn, tmodn, i64_in, List.length_append, List.length_cons, List.length_nil]; omega) | (refine ⟨?_, by decide⟩; omega) | decide | fail)
    all_goals
      apply VC.at
      · simp -implicitDefEqProofs only [go_sem, Nat.reduceLT, Nat.reduceAdd, Nat.reduceEqDiff, reduceIte, Nat.reduceMul, Nat.reduceSub, reduceCtorEq, Int.reduceNe, Int.reduceEq, ne_eq, Nat.reduceLeDiff, Nat.reduceMod, Nat.reduceDiv]; (try simp (disch := omega) only [i64_in, tmodn, tdivn]); exact rfl
      first | (apply VC.condd; (focus (simp -implicitDefEqProofs only [go_sem, Nat.reduceLT, Nat.reduceAdd, Nat.reduceEqDiff, reduceIte, Nat.reduceMul, Nat.reduceSub, reduceCtorEq, Int.reduceNe, Int.reduceEq, ne_eq, Nat.reduceLeDiff, Nat.reduceMod, Nat.reduceDiv]; with_reducible exact rfl))) | (apply VC.condn; (focus (simp -implicitDefEqProofs only [go_sem, Nat.reduceLT, Nat.reduceAdd, Nat.reduceEqDiff, reduceIte, Nat.reduceMul, Nat.reduceSub, reduceCtorEq, Int.reduceNe, Int.reduceEq, ne_eq, Nat.reduceLeDiff, Nat.reduceMod, Nat.reduceDiv]; with_reducible exact rfl))) | (apply VC.condt; (focus (simp -implicitDefEqProofs only [go_sem, Nat.reduceLT, Nat.reduceAdd, Nat.reduceEqDiff, reduceIte, Nat.reduceMul, Nat.reduceSub, reduceCtorEq, Int.reduceNe, Int.reduceEq, ne_eq, Nat.reduceLeDiff, Nat.reduceMod, Nat.reduceDiv]; with_reducible exact rfl))) | (apply VC.condb; (focus (simp -implicitDefEqProofs only [go_sem, Nat.reduceLT, Nat.reduceAdd, Nat.reduceEqDiff, reduceIte, Nat.reduceMul, Nat.reduceSub, reduceCtorEq, Int.reduceNe, Int.reduceEq, ne_eq, Nat.reduceLeDiff, Nat.reduceMod, Nat.reduceDiv]; exact rfl)))
      · intro h; try exact absurd h (by decide)
        all_goals
          apply VC.regt ΦP3_ok [2, 3]; intro K' hK; dsimp only [List.take, List.drop, List.map, strip, stripG]; simp -implicitDefEqProofs only [go_sem, Nat.reduceLT, Nat.reduceAdd, Nat.reduceEqDiff, reduceIte, Nat.reduceMul, Nat.reduceSub, reduceCtorEq, Int.reduceNe, Int.reduceEq, ne_eq, Nat.reduceLeDiff, Nat.reduceMod, Nat.reduceDiv]
          (repeat' first | (refine hK _ ?_; clear hK K') | with_reducible apply And.intro | (simp -implicitDefEqProofs (disch := omega) only [i64_in, tdivn, tmodn, List.length_cons, List.length_nil, Nat.reduceAdd]; done) | omega | (simp -implicitDefEqProofs (disch := omega) only [tdivn, tmodn, i64_in, List.length_append, List.length_cons, List.length_nil]; omega) | (refine ⟨?_, by decide⟩; omega) | decide | fail)
          all_goals
            apply VC.at
            · simp -implicitDefEqProofs only [go_sem, Nat.reduceLT, Nat.reduceAdd, Nat.reduceEqDiff, reduceIte, Nat.reduceMul, Nat.reduceSub, reduceCtorEq, Int.reduceNe, Int.reduceEq, ne_eq, Nat.reduceLeDiff, Nat.reduceMod, Nat.reduceDiv]; (try simp (disch := omega) only [i64_in, tmodn, tdivn]); exact rfl
            apply VC.ret
            refine thenK_r ?_
            simp -implicitDefEqProofs only [go_sem, Nat.reduceLT, Nat.reduceAdd, Nat.reduceEqDiff, reduceIte, Nat.reduceMul, Nat.reduceSub, reduceCtorEq, Int.reduceNe, Int.reduceEq, ne_eq, Nat.reduceLeDiff, Nat.reduceMod, Nat.reduceDiv]
            all_goals (first | (rw [genO_no (by omega), tIn_no (by omega)]; rfl) | (rw [genO_yes (by omega) (by omega), tIn_yes (by omega) (by omega)]; unfold genS headS; first | (rw [if_pos (by assumption)]; rfl) | (rw [if_neg (by assumption)]; rfl)))
      · intro h; try exact absurd h (by decide)
        all_goals
          apply VC.skip
          refine thenK_n ?_
          apply VC.regt ΦP3_ok [4, 5]; intro K' hK; dsimp only [List.take, List.drop, List.map, strip, stripG]; simp -implicitDefEqProofs only [go_sem, Nat.reduceLT, Nat.reduceAdd, Nat.reduceEqDiff, reduceIte, Nat.reduceMul, Nat.reduceSub, reduceCtorEq, Int.reduceNe, Int.reduceEq, ne_eq, Nat.reduceLeDiff, Nat.reduceMod, Nat.reduceDiv]
          (repeat' first | (refine hK _ ?_; clear hK K') | ((first | with_reducible refine runA_id ?_ | with_reducible refine goA_id ?_); simp -implicitDefEqProofs (disch := omega) only [i64_in, tdivn, tmodn]; simp -implicitDefEqProofs only [go_sem, Nat.reduceLT, Nat.reduceAdd, Nat.reduceEqDiff, reduceIte, Nat.reduceMul, Nat.reduceSub, reduceCtorEq, Int.reduceNe, Int.reduceEq, ne_eq, Nat.reduceLeDiff, Nat.reduceMod, Nat.reduceDiv]) | with_reducible apply And.intro | (simp -implicitDefEqProofs (disch := omega) only [i64_in, tdivn, tmodn, List.length_cons, List.length_nil, Nat.reduceAdd]; done) | omega | (simp -implicitDefEqProofs (disch := omega) only [tdivn, tmodn, i64_in, List.length_append, List.length_cons, List.length_nil]; omega) | (refine ⟨?_, by decide⟩; omega) | decide | fail)
          all_goals
            apply VC.at
            · simp -implicitDefEqProofs only [go_sem, Nat.reduceLT, Nat.reduceAdd, Nat.reduceEqDiff, reduceIte, Nat.reduceMul, Nat.reduceSub, reduceCtorEq, Int.reduceNe, Int.reduceEq, ne_eq, Nat.reduceLeDiff, Nat.reduceMod, Nat.reduceDiv]; (try simp (disch := omega) only [i64_in, tmodn, tdivn]); exact rfl
            have ht0 : 0 ≤ t := by omega
            have ht1 : t ≤ 253402300799999 := by omega
            obtain ⟨c1, c2, c3, c4, c5⟩ := Cal.at_ok (t / 86400000) (by omega) (by omega)
            have cy := at_year (t / 86400000) (by omega) (by omega)
            have cl := long_le (Cal.atY (t / 86400000)) (Cal.atM (t / 86400000))
            have d1 := dl (Cal.atY (t / 86400000)) 4 (by omega) (by omega) (by omega)
            have d2 := dl (Cal.atM (t / 86400000)) 2 (by omega) (by omega) (by omega)
            have d3 := dl (Cal.atD (t / 86400000)) 2 (by omega) (by omega) (by omega)
            have d4 := dl (t % 86400000 / 1000 / 3600) 2 (by omega) (by omega) (by omega)
            have d5 := dl (t % 86400000 / 1000 / 60 % 60) 2 (by omega) (by omega) (by omega)
            have d6 := dl (t % 86400000 / 1000 % 60) 2 (by omega) (by omega) (by omega)
            have d7 := dl (t % 86400000 % 1000) 3 (by omega) (by omega) (by omega)
            have d8 := trim_len (digitsI (t % 86400000 % 1000) 3) 48
            apply VC.draw1 ΦP3_ok (by kernel_rfl) 12 (by kernel_rfl) (by kernel_rfl) [5, 6]; intro L hL; dsimp only [List.take, List.drop, List.map, strip, stripG]; simp -implicitDefEqProofs only [go_sem, Nat.reduceLT, Nat.reduceAdd, Nat.reduceEqDiff, reduceIte, Nat.reduceMul, Nat.reduceSub, reduceCtorEq, Int.reduceNe, Int.reduceEq, ne_eq, Nat.reduceLeDiff, Nat.reduceMod, Nat.reduceDiv]
            (repeat' first | (refine hL _ ?_; intro K' hK; dsimp only [List.drop, List.map, strip, stripG]; simp -implicitDefEqProofs only [go_sem, Nat.reduceLT, Nat.reduceAdd, Nat.reduceEqDiff, reduceIte, Nat.reduceMul, Nat.reduceSub, reduceCtorEq, Int.reduceNe, Int.reduceEq, ne_eq, Nat.reduceLeDiff, Nat.reduceMod, Nat.reduceDiv]; refine hK _ ?_; clear hK K' hL L) | ((first | with_reducible refine runA_id ?_ | with_reducible refine goA_id ?_); simp -implicitDefEqProofs (disch := omega) only [i64_in, tdivn, tmodn]; simp -implicitDefEqProofs only [go_sem, Nat.reduceLT, Nat.reduceAdd, Nat.reduceEqDiff, reduceIte, Nat.reduceMul, Nat.reduceSub, reduceCtorEq, Int.reduceNe, Int.reduceEq, ne_eq, Nat.reduceLeDiff, Nat.reduceMod, Nat.reduceDiv]) | with_reducible apply And.intro | (simp -implicitDefEqProofs (disch := omega) only [i64_in, tdivn, tmodn, List.length_cons, List.length_nil, Nat.reduceAdd]; done) | omega | (simp -implicitDefEqProofs (disch := omega) only [tdivn, tmodn, i64_in, List.length_append, List.length_cons, List.length_nil]; omega) | (refine ⟨?_, by decide⟩; omega) | decide | fail)
            all_goals
              apply VC.at
              · simp -implicitDefEqProofs only [go_sem, Nat.reduceLT, Nat.reduceAdd, Nat.reduceEqDiff, reduceIte, Nat.reduceMul, Nat.reduceSub, reduceCtorEq, Int.reduceNe, Int.reduceEq, ne_eq, Nat.reduceLeDiff, Nat.reduceMod, Nat.reduceDiv]; (try simp (disch := omega) only [i64_in, tmodn, tdivn]); exact rfl
              apply VC.regt ΦP3_ok [5, 6, 7]; intro K' hK; dsimp only [List.take, List.drop, List.map, strip, stripG]; simp -implicitDefEqProofs only [go_sem, Nat.reduceLT, Nat.reduceAdd, Nat.reduceEqDiff, reduceIte, Nat.reduceMul, Nat.reduceSub, reduceCtorEq, Int.reduceNe, Int.reduceEq, ne_eq, Nat.reduceLeDiff, Nat.reduceMod, Nat.reduceDiv]
              (repeat' first | (refine hK _ ?_; clear hK K') | with_reducible apply And.intro | (simp -implicitDefEqProofs (disch := omega) only [i64_in, tdivn, tmodn, List.length_cons, List.length_nil, Nat.reduceAdd]; done) | omega | (simp -implicitDefEqProofs (disch := omega) only [tdivn, tmodn, i64_in, List.length_append, List.length_cons, List.length_nil]; omega) | (refine ⟨?_, by decide⟩; omega) | decide | fail)
              all_goals
                apply VC.at
                · simp -implicitDefEqProofs only [go_sem, Nat.reduceLT, Nat.reduceAdd, Nat.reduceEqDiff, reduceIte, Nat.reduceMul, Nat.reduceSub, reduceCtorEq, Int.reduceNe, Int.reduceEq, ne_eq, Nat.reduceLeDiff, Nat.reduceMod, Nat.reduceDiv]; (try simp (disch := omega) only [i64_in, tmodn, tdivn]); exact rfl
                apply VC.regt ΦP3_ok [6, 7]; intro K' hK; dsimp only [List.take, List.drop, List.map, strip, stripG]; simp -implicitDefEqProofs only [go_sem, Nat.reduceLT, Nat.reduceAdd, Nat.reduceEqDiff, reduceIte, Nat.reduceMul, Nat.reduceSub, reduceCtorEq, Int.reduceNe, Int.reduceEq, ne_eq, Nat.reduceLeDiff, Nat.reduceMod, Nat.reduceDiv]
                (repeat' first | (refine hK _ ?_; clear hK K') | ((first | with_reducible refine runA_id ?_ | with_reducible refine goA_id ?_); simp -implicitDefEqProofs (disch := omega) only [i64_in, tdivn, tmodn]; simp -implicitDefEqProofs only [go_sem, Nat.reduceLT, Nat.reduceAdd, Nat.reduceEqDiff, reduceIte, Nat.reduceMul, Nat.reduceSub, reduceCtorEq, Int.reduceNe, Int.reduceEq, ne_eq, Nat.reduceLeDiff, Nat.reduceMod, Nat.reduceDiv]) | with_reducible apply And.intro | (simp -implicitDefEqProofs (disch := omega) only [i64_in, tdivn, tmodn, List.length_cons, List.length_nil, Nat.reduceAdd]; done) | omega | (simp -implicitDefEqProofs (disch := omega) only [tdivn, tmodn, i64_in, List.length_append, List.length_cons, List.length_nil]; omega) | (refine ⟨?_, by decide⟩; omega) | decide | fail)
                all_goals
                  apply VC.at
                  · simp -implicitDefEqProofs only [go_sem, Nat.reduceLT, Nat.reduceAdd, Nat.reduceEqDiff, reduceIte, Nat.reduceMul, Nat.reduceSub, reduceCtorEq, Int.reduceNe, Int.reduceEq, ne_eq, Nat.reduceLeDiff, Nat.reduceMod, Nat.reduceDiv]; (try simp (disch := omega) only [i64_in, tmodn, tdivn]); exact rfl
                  apply VC.seq
                  apply VC.regt ΦP3_ok [6, 7, 49]; intro K' hK; dsimp only [List.take, List.drop, List.map, strip, stripG]; simp -implicitDefEqProofs only [go_sem, Nat.reduceLT, Nat.reduceAdd, Nat.reduceEqDiff, reduceIte, Nat.reduceMul, Nat.reduceSub, reduceCtorEq, Int.reduceNe, Int.reduceEq, ne_eq, Nat.reduceLeDiff, Nat.reduceMod, Nat.reduceDiv]
                  (repeat' first | (refine hK _ ?_; clear hK K') | with_reducible apply And.intro | (simp -implicitDefEqProofs (disch := omega) only [i64_in, tdivn, tmodn, List.length_cons, List.length_nil, Nat.reduceAdd]; done) | omega | (simp -implicitDefEqProofs (disch := omega) only [tdivn, tmodn, i64_in, List.length_append, List.length_cons, List.length_nil]; omega) | (refine ⟨?_, by decide⟩; omega) | decide | fail)
                  all_goals
                    apply VC.at
                    · simp -implicitDefEqProofs only [go_sem, Nat.reduceLT, Nat.reduceAdd, Nat.reduceEqDiff, reduceIte, Nat.reduceMul, Nat.reduceSub, reduceCtorEq, Int.reduceNe, Int.reduceEq, ne_eq, Nat.reduceLeDiff, Nat.reduceMod, Nat.reduceDiv]; (try simp (disch := omega) only [i64_in, tmodn, tdivn]); exact rfl
                    first | (apply VC.condd; (focus (simp -implicitDefEqProofs only [go_sem, Nat.reduceLT, Nat.reduceAdd, Nat.reduceEqDiff, reduceIte, Nat.reduceMul, Nat.reduceSub, reduceCtorEq, Int.reduceNe, Int.reduceEq, ne_eq, Nat.reduceLeDiff, Nat.reduceMod, Nat.reduceDiv]; with_reducible exact rfl))) | (apply VC.condn; (focus (simp -implicitDefEqProofs only [go_sem, Nat.reduceLT, Nat.reduceAdd, Nat.reduceEqDiff, reduceIte, Nat.reduceMul, Nat.reduceSub, reduceCtorEq, Int.reduceNe, Int.reduceEq, ne_eq, Nat.reduceLeDiff, Nat.reduceMod, Nat.reduceDiv]; with_reducible exact rfl))) | (apply VC.condt; (focus (simp -implicitDefEqProofs only [go_sem, Nat.reduceLT, Nat.reduceAdd, Nat.reduceEqDiff, reduceIte, Nat.reduceMul, Nat.reduceSub, reduceCtorEq, Int.reduceNe, Int.reduceEq, ne_eq, Nat.reduceLeDiff, Nat.reduceMod, Nat.reduceDiv]; with_reducible exact rfl))) | (apply VC.condb; (focus (simp -implicitDefEqProofs only [go_sem, Nat.reduceLT, Nat.reduceAdd, Nat.reduceEqDiff, reduceIte, Nat.reduceMul, Nat.reduceSub, reduceCtorEq, Int.reduceNe, Int.reduceEq, ne_eq, Nat.reduceLeDiff, Nat.reduceMod, Nat.reduceDiv]; exact rfl)))
                    · intro h; try exact absurd h (by decide)
                      all_goals
                        apply VC.regLast ΦP3_ok; intro K' hK; dsimp only [List.take, List.drop, List.map, strip, stripG]; simp -implicitDefEqProofs only [go_sem, Nat.reduceLT, Nat.reduceAdd, Nat.reduceEqDiff, reduceIte, Nat.reduceMul, Nat.reduceSub, reduceCtorEq, Int.reduceNe, Int.reduceEq, ne_eq, Nat.reduceLeDiff, Nat.reduceMod, Nat.reduceDiv]
                        (repeat' first | (refine hK _ ?_; clear hK K') | ((first | with_reducible refine runA_id ?_ | with_reducible refine goA_id ?_); simp -implicitDefEqProofs (disch := omega) only [i64_in, tdivn, tmodn]; simp -implicitDefEqProofs only [go_sem, Nat.reduceLT, Nat.reduceAdd, Nat.reduceEqDiff, reduceIte, Nat.reduceMul, Nat.reduceSub, reduceCtorEq, Int.reduceNe, Int.reduceEq, ne_eq, Nat.reduceLeDiff, Nat.reduceMod, Nat.reduceDiv]) | with_reducible apply And.intro | (simp -implicitDefEqProofs (disch := omega) only [i64_in, tdivn, tmodn, List.length_cons, List.length_nil, Nat.reduceAdd]; done) | omega | (simp -implicitDefEqProofs (disch := omega) only [tdivn, tmodn, i64_in, List.length_append, List.length_cons, List.length_nil]; omega) | (refine ⟨?_, by decide⟩; omega) | decide | fail)
                        all_goals
                          refine thenK_n ?_
                          apply VC.regt ΦP3_ok [2, 3]; intro K' hK; dsimp only [List.take, List.drop, List.map, strip, stripG]; simp -implicitDefEqProofs only [go_sem, Nat.reduceLT, Nat.reduceAdd, Nat.reduceEqDiff, reduceIte, Nat.reduceMul, Nat.reduceSub, reduceCtorEq, Int.reduceNe, Int.reduceEq, ne_eq, Nat.reduceLeDiff, Nat.reduceMod, Nat.reduceDiv]
                          (repeat' first | (refine hK _ ?_; clear hK K') | with_reducible apply And.intro | (simp -implicitDefEqProofs (disch := omega) only [i64_in, tdivn, tmodn, List.length_cons, List.length_nil, Nat.reduceAdd]; done) | omega | (simp -implicitDefEqProofs (disch := omega) only [tdivn, tmodn, i64_in, List.length_append, List.length_cons, List.length_nil]; omega) | (refine ⟨?_, by decide⟩; omega) | decide | fail)
                          all_goals
                            apply VC.at
                            · simp -implicitDefEqProofs only [go_sem, Nat.reduceLT, Nat.reduceAdd, Nat.reduceEqDiff, reduceIte, Nat.reduceMul, Nat.reduceSub, reduceCtorEq, Int.reduceNe, Int.reduceEq, ne_eq, Nat.reduceLeDiff, Nat.reduceMod, Nat.reduceDiv]; (try simp (disch := omega) only [i64_in, tmodn, tdivn]); exact rfl
                            apply VC.ret
                            simp -implicitDefEqProofs only [go_sem, Nat.reduceLT, Nat.reduceAdd, Nat.reduceEqDiff, reduceIte, Nat.reduceMul, Nat.reduceSub, reduceCtorEq, Int.reduceNe, Int.reduceEq, ne_eq, Nat.reduceLeDiff, Nat.reduceMod, Nat.reduceDiv]
                            all_goals (first | (rw [genO_no (by omega), tIn_no (by omega)]; rfl) | (rw [genO_yes (by omega) (by omega), tIn_yes (by omega) (by omega)]; unfold genS headS; first | (rw [if_pos (by assumption)]; rfl) | (rw [if_neg (by assumption)]; rfl)))
                    · intro h; try exact absurd h (by decide)
                      all_goals
                        apply VC.skip
                        refine thenK_n ?_
                        apply VC.regt ΦP3_ok [2, 3]; intro K' hK; dsimp only [List.take, List.drop, List.map, strip, stripG]; simp -implicitDefEqProofs only [go_sem, Nat.reduceLT, Nat.reduceAdd, Nat.reduceEqDiff, reduceIte, Nat.reduceMul, Nat.reduceSub, reduceCtorEq, Int.reduceNe, Int.reduceEq, ne_eq, Nat.reduceLeDiff, Nat.reduceMod, Nat.reduceDiv]
                        (repeat' first | (refine hK _ ?_; clear hK K') | with_reducible apply And.intro | (simp -implicitDefEqProofs (disch := omega) only [i64_in, tdivn, tmodn, List.length_cons, List.length_nil, Nat.reduceAdd]; done) | omega | (simp -implicitDefEqProofs (disch := omega) only [tdivn, tmodn, i64_in, List.length_append, List.length_cons, List.length_nil]; omega) | (refine ⟨?_, by decide⟩; omega) | decide | fail)
                        all_goals
                          apply VC.at
                          · simp -implicitDefEqProofs only [go_sem, Nat.reduceLT, Nat.reduceAdd, Nat.reduceEqDiff, reduceIte, Nat.reduceMul, Nat.reduceSub, reduceCtorEq, Int.reduceNe, Int.reduceEq, ne_eq, Nat.reduceLeDiff, Nat.reduceMod, Nat.reduceDiv]; (try simp (disch := omega) only [i64_in, tmodn, tdivn]); exact rfl
                          apply VC.ret
                          simp -implicitDefEqProofs only [go_sem, Nat.reduceLT, Nat.reduceAdd, Nat.reduceEqDiff, reduceIte, Nat.reduceMul, Nat.reduceSub, reduceCtorEq, Int.reduceNe, Int.reduceEq, ne_eq, Nat.reduceLeDiff, Nat.reduceMod, Nat.reduceDiv]
                          all_goals (first | (rw [genO_no (by omega), tIn_no (by omega)]; rfl) | (rw [genO_yes (by omega) (by omega), tIn_yes (by omega) (by omega)]; unfold genS headS; first | (rw [if_pos (by assumption)]; rfl) | (rw [if_neg (by assumption)]; rfl)))
noncomputable def ΦP4 : Fns := tab [(23, atF), (10, generalF)]
theorem ΦP4_ok : Sound E ΦP4 := sound_cons (by kernel_rfl) at_ok (sound_cons (by kernel_rfl) general_ok (sound_nil))
@[go_sem] theorem ΦP4_23 : ΦP4 23 = some atF := rfl
@[go_sem] theorem ΦP4_10 : ΦP4 10 = some generalF := rfl
theorem genS_len (t : Int) (h0 : 0 ≤ t) (h1 : t ≤ 253402300799999) : (genS t).length ≤ 300 := by
  obtain ⟨c1, c2, c3, c4, c5⟩ := Cal.at_ok (t / 86400000) (by omega) (by omega)
  have cy := at_year (t / 86400000) (by omega) (by omega)
  have cl := long_le (Cal.atY (t / 86400000)) (Cal.atM (t / 86400000))
  have d1 := dl (Cal.atY (t / 86400000)) 4 (by omega) (by omega) (by omega)
  have d2 := dl (Cal.atM (t / 86400000)) 2 (by omega) (by omega) (by omega)
  have d3 := dl (Cal.atD (t / 86400000)) 2 (by omega) (by omega) (by omega)
  have d4 := dl (t % 86400000 / 1000 / 3600) 2 (by omega) (by omega) (by omega)
  have d5 := dl (t % 86400000 / 1000 / 60 % 60) 2 (by omega) (by omega) (by omega)
  have d6 := dl (t % 86400000 / 1000 % 60) 2 (by omega) (by omega) (by omega)
  have d7 := dl (t % 86400000 % 1000) 3 (by omega) (by omega) (by omega)
  have d8 := trim_len (digitsI (t % 86400000 % 1000) 3) 48
  unfold genS headS
  split <;> (simp only [List.length_append, List.length_cons, List.length_nil]; omega)
theorem digits_ge (n m : Int) : m.toNat ≤ (digitsI n m).length := by
  unfold digitsI digitsP
  rw [List.length_append, rep_len]; omega
theorem genS_two (t : Int) : 2 ≤ (genS t).length := by
  have := digits_ge (Cal.atY (t / 86400000)) 4
  unfold genS headS
  split <;> (simp only [List.length_append]; omega)
def shortOk (t : Int) : Bool := tIn t && (decide (t % 1000 = 0) && decide (Cal.atY (t / 86400000) < 2050))
theorem shortOk_no {t : Int} (h : tIn t = false ∨ 0 < t % 1000 ∨ 2050 ≤ Cal.atY (t / 86400000)) : shortOk t = false := by
  unfold shortOk
  rcases h with h | h | h
  · rw [h]; rfl
  · rw [decide_eq_false (show ¬ t % 1000 = 0 by omega)]; simp
  · rw [decide_eq_false (show ¬ Cal.atY (t / 86400000) < 2050 by omega)]; simp
theorem shortOk_yes {t : Int} (h : tIn t = true) (h1 : ¬ 0 < t % 1000) (h2 : ¬ 2050 ≤ Cal.atY (t / 86400000)) (h0 : 0 ≤ t) : shortOk t = true := by
  unfold shortOk
  rw [h, decide_eq_true (show t % 1000 = 0 by omega), decide_eq_true (show Cal.atY (t / 86400000) < 2050 by omega)]; rfl
def shortO (t : Int) : List UInt8 := if shortOk t then (genS t).drop 2 else []
theorem tIn_of {t : Int} (h : tIn t = true) : 0 ≤ t ∧ t ≤ 253402300799999 := of_decide_eq_true h
theorem drop_two' (s : List UInt8) (h : 2 ≤ s.length) : List.take ((s.length : Int) - 2).toNat (List.drop 2 s) = s.drop 2 := List.take_of_length_le (by rw [List.length_drop]; omega)
def shortA (t : Int) : List Vm.Data := [.int .i64 t]
noncomputable def shortF : PFn := PFn.of shortA (fun t => True) (fun t => [.str (shortO t), .int .i64 (if shortOk t then 0 else 150)])
theorem short_inj (x y : Int) (h : shortA x = shortA y) : x = y := by
  simpa [shortA, Prod.ext_iff, numsD_inj, bytesD_inj, Vm.Data.lst.injEq, Int.natCast_inj] using h
@[go_sem] theorem short_pre (t : Int) : shortF.pre [.int .i64 t] = (True) := PFn.of_pre short_inj t
@[go_sem] theorem short_res (t : Int) : shortF.res [.int .i64 t] = [.str (shortO t), .int .i64 (if shortOk t then 0 else 150)] := PFn.of_res short_inj t
theorem short_ok : Pure E 14 shortF := by
  apply Pure.of_body (rs := [.tmp 2, .tmp 3]) (n := 27) Tryd.func14 rfl rfl rfl
  intro ds hds
  obtain ⟨t, rfl, hds⟩ := hds
  (try dsimp only at hds)
  rw [show shortF.res (shortA t) = [.str (shortO t), .int .i64 (if shortOk t then 0 else 150)] from short_res t]
  rcases hb : tIn t with _ | _
  all_goals (try have ht := tIn_of hb)
  all_goals
    refine ⟨Nat.le_of_ble_eq_true rfl, ?_⟩
    show VC E none _ (pureSt 27 [.int .i64 t]) _
    apply VC.regt ΦP4_ok [0]; intro K' hK; dsimp only [List.take, List.drop, List.map, strip, stripG]; simp -implicitDefEqProofs only [go_sem, Nat.reduceLT, Nat.reduceAdd, Nat.reduceEqDiff, reduceIte, Nat.reduceMul, Nat.reduceSub, reduceCtorEq, Int.reduceNe, Int.reduceEq, ne_eq, Nat.reduceLeDiff, Nat.reduceMod, Nat.reduceDiv, hb, Bool.false_eq_true]
    (repeat' first | (refine hK _ ?_; clear hK K') | with_reducible apply And.intro | (simp -implicitDefEqProofs (disch := omega) only [i64_in, tdivn, tmodn, List.length_cons, List.length_nil, Nat.reduceAdd]; done) | omega | (simp -implicitDefEqProofs (disch := omega) only [tdivn, tmodn, i64_in, List.length_append, List.length_cons, List.length_nil]; omega) | (refine ⟨?_, by decide⟩; omega) | decide | fail)
    all_goals
      apply VC.at
      · simp -implicitDefEqProofs only [go_sem, Nat.reduceLT, Nat.reduceAdd, Nat.reduceEqDiff, reduceIte, Nat.reduceMul, Nat.reduceSub, reduceCtorEq, Int.reduceNe, Int.reduceEq, ne_eq, Nat.reduceLeDiff, Nat.reduceMod, Nat.reduceDiv, hb, Bool.false_eq_true]; (try simp (disch := omega) only [i64_in, tmodn, tdivn]); exact rfl
      apply VC.regt ΦP4_ok [0, 4, 5]; intro K' hK; dsimp only [List.take, List.drop, List.map, strip, stripG]; simp -implicitDefEqProofs only [go_sem, Nat.reduceLT, Nat.reduceAdd, Nat.reduceEqDiff, reduceIte, Nat.reduceMul, Nat.reduceSub, reduceCtorEq, Int.reduceNe, Int.reduceEq, ne_eq, Nat.reduceLeDiff, Nat.reduceMod, Nat.reduceDiv, hb, Bool.false_eq_true]
      (repeat' first | (refine hK _ ?_; clear hK K') | ((first | with_reducible refine runA_id ?_ | with_reducible refine goA_id ?_); simp -implicitDefEqProofs (disch := omega) only [i64_in, tdivn, tmodn]; simp -implicitDefEqProofs only [go_sem, Nat.reduceLT, Nat.reduceAdd, Nat.reduceEqDiff, reduceIte, Nat.reduceMul, Nat.reduceSub, reduceCtorEq, Int.reduceNe, Int.reduceEq, ne_eq, Nat.reduceLeDiff, Nat.reduceMod, Nat.reduceDiv, hb, Bool.false_eq_true]) | with_reducible apply And.intro | (simp -implicitDefEqProofs (disch := omega) only [i64_in, tdivn, tmodn, List.length_cons, List.length_nil, Nat.reduceAdd]; done) | omega | (simp -implicitDefEqProofs (disch := omega) only [tdivn, tmodn, i64_in, List.length_append, List.length_cons, List.length_nil]; omega) | (refine ⟨?_, by decide⟩; omega) | decide | fail)
      all_goals
        apply VC.at
        · simp -implicitDefEqProofs only [go_sem, Nat.reduceLT, Nat.reduceAdd, Nat.reduceEqDiff, reduceIte, Nat.reduceMul, Nat.reduceSub, reduceCtorEq, Int.reduceNe, Int.reduceEq, ne_eq, Nat.reduceLeDiff, Nat.reduceMod, Nat.reduceDiv, hb, Bool.false_eq_true]; (try simp (disch := omega) only [i64_in, tmodn, tdivn]); exact rfl
        apply VC.seq
        apply VC.regt ΦP4_ok [4, 24]; intro K' hK; dsimp only [List.take, List.drop, List.map, strip, stripG]; simp only [gtmp, List.getElem?_toArray, List.getElem?_cons_succ, List.getElem?_cons_zero, Option.bind_some]; simp -implicitDefEqProofs only [go_sem, Nat.reduceLT, Nat.reduceAdd, Nat.reduceEqDiff, reduceIte, Nat.reduceMul, Nat.reduceSub, reduceCtorEq, Int.reduceNe, Int.reduceEq, ne_eq, Nat.reduceLeDiff, Nat.reduceMod, Nat.reduceDiv, hb, Bool.false_eq_true]
        (repeat' first | (refine hK _ ?_; clear hK K') | (first | apply goB_splitD | apply goA_splitD | apply goB_split | apply goA_split | apply goA_all) <;> intro _ <;> simp -implicitDefEqProofs only [go_sem, Nat.reduceLT, Nat.reduceAdd, Nat.reduceEqDiff, reduceIte, Nat.reduceMul, Nat.reduceSub, reduceCtorEq, Int.reduceNe, Int.reduceEq, ne_eq, Nat.reduceLeDiff, Nat.reduceMod, Nat.reduceDiv, hb, Bool.false_eq_true] | ((first | with_reducible refine runA_id ?_ | with_reducible refine goA_id ?_); simp -implicitDefEqProofs (disch := omega) only [i64_in, tdivn, tmodn]; simp -implicitDefEqProofs only [go_sem, Nat.reduceLT, Nat.reduceAdd, Nat.reduceEqDiff, reduceIte, Nat.reduceMul, Nat.reduceSub, reduceCtorEq, Int.reduceNe, Int.reduceEq, ne_eq, Nat.reduceLeDiff, Nat.reduceMod, Nat.reduceDiv, hb, Bool.false_eq_true]) | with_reducible apply And.intro | (simp -implicitDefEqProofs (disch := omega) only [i64_in, tdivn, tmodn, List.length_cons, List.length_nil, Nat.reduceAdd]; done) | omega | (simp -implicitDefEqProofs (disch := omega) only [tdivn, tmodn, i64_in, List.length_append, List.length_cons, List.length_nil]; omega) | (refine ⟨?_, by decide⟩; omega) | decide | fail)
        all_goals
          apply VC.at
          · simp -implicitDefEqProofs only [go_sem, Nat.reduceLT, Nat.reduceAdd, Nat.reduceEqDiff, reduceIte, Nat.reduceMul, Nat.reduceSub, reduceCtorEq, Int.reduceNe, Int.reduceEq, ne_eq, Nat.reduceLeDiff, Nat.reduceMod, Nat.reduceDiv, hb, Bool.false_eq_true]; (try simp (disch := omega) only [i64_in, tmodn, tdivn]); exact rfl
          first | (apply VC.condd; (focus (simp -implicitDefEqProofs only [go_sem, Nat.reduceLT, Nat.reduceAdd, Nat.reduceEqDiff, reduceIte, Nat.reduceMul, Nat.reduceSub, reduceCtorEq, Int.reduceNe, Int.reduceEq, ne_eq, Nat.reduceLeDiff, Nat.reduceMod, Nat.reduceDiv, hb, Bool.false_eq_true]; with_reducible exact rfl))) | (apply VC.condn; (focus (simp -implicitDefEqProofs only [go_sem, Nat.reduceLT, Nat.reduceAdd, Nat.reduceEqDiff, reduceIte, Nat.reduceMul, Nat.reduceSub, reduceCtorEq, Int.reduceNe, Int.reduceEq, ne_eq, Nat.reduceLeDiff, Nat.reduceMod, Nat.reduceDiv, hb, Bool.false_eq_true]; with_reducible exact rfl))) | (apply VC.condt; (focus (simp -implicitDefEqProofs only [go_sem, Nat.reduceLT, Nat.reduceAdd, Nat.reduceEqDiff, reduceIte, Nat.reduceMul, Nat.reduceSub, reduceCtorEq, Int.reduceNe, Int.reduceEq, ne_eq, Nat.reduceLeDiff, Nat.reduceMod, Nat.reduceDiv, hb, Bool.false_eq_true]; with_reducible exact rfl))) | (apply VC.condb; (focus (simp -implicitDefEqProofs only [go_sem, Nat.reduceLT, Nat.reduceAdd, Nat.reduceEqDiff, reduceIte, Nat.reduceMul, Nat.reduceSub, reduceCtorEq, Int.reduceNe, Int.reduceEq, ne_eq, Nat.reduceLeDiff, Nat.reduceMod, Nat.reduceDiv, hb, Bool.false_eq_true]; exact rfl)))
          · intro h; try exact absurd h (by decide)
            all_goals
              apply VC.regt ΦP4_ok [2, 3]; intro K' hK; dsimp only [List.take, List.drop, List.map, strip, stripG]; simp -implicitDefEqProofs only [go_sem, Nat.reduceLT, Nat.reduceAdd, Nat.reduceEqDiff, reduceIte, Nat.reduceMul, Nat.reduceSub, reduceCtorEq, Int.reduceNe, Int.reduceEq, ne_eq, Nat.reduceLeDiff, Nat.reduceMod, Nat.reduceDiv, hb, Bool.false_eq_true]
              (repeat' first | (refine hK _ ?_; clear hK K') | with_reducible apply And.intro | (simp -implicitDefEqProofs (disch := omega) only [i64_in, tdivn, tmodn, List.length_cons, List.length_nil, Nat.reduceAdd]; done) | omega | (simp -implicitDefEqProofs (disch := omega) only [tdivn, tmodn, i64_in, List.length_append, List.length_cons, List.length_nil]; omega) | (refine ⟨?_, by decide⟩; omega) | decide | fail)
              all_goals
                apply VC.at
                · simp -implicitDefEqProofs only [go_sem, Nat.reduceLT, Nat.reduceAdd, Nat.reduceEqDiff, reduceIte, Nat.reduceMul, Nat.reduceSub, reduceCtorEq, Int.reduceNe, Int.reduceEq, ne_eq, Nat.reduceLeDiff, Nat.reduceMod, Nat.reduceDiv, hb, Bool.false_eq_true]; (try simp (disch := omega) only [i64_in, tmodn, tdivn]); exact rfl
                apply VC.ret
                refine thenK_r ?_
                simp -implicitDefEqProofs only [go_sem, Nat.reduceLT, Nat.reduceAdd, Nat.reduceEqDiff, reduceIte, Nat.reduceMul, Nat.reduceSub, reduceCtorEq, Int.reduceNe, Int.reduceEq, ne_eq, Nat.reduceLeDiff, Nat.reduceMod, Nat.reduceDiv, hb, Bool.false_eq_true]
                all_goals ((try simp (disch := omega) only [tmodn, tdivn, i64_in] at *); first | (rw [shortOk_no (.inl hb), shortO, shortOk_no (.inl hb)]; rfl) | (have e : shortOk t = false := shortOk_no (by omega); rw [shortO, e]; rfl) | (have e : shortOk t = true := shortOk_yes hb (by omega) (by omega) (by omega); rw [shortO, e, ← drop_two' _ (genS_two t)]; rfl))
          · intro h; try exact absurd h (by decide)
            all_goals
              apply VC.skip
              refine thenK_n ?_
              rw [genO_yes ht.1 ht.2]
              have hlen := genS_two t
              apply VC.regt ΦP4_ok [2, 3]; intro K' hK; dsimp only [List.take, List.drop, List.map, strip, stripG]; simp -implicitDefEqProofs only [go_sem, Nat.reduceLT, Nat.reduceAdd, Nat.reduceEqDiff, reduceIte, Nat.reduceMul, Nat.reduceSub, reduceCtorEq, Int.reduceNe, Int.reduceEq, ne_eq, Nat.reduceLeDiff, Nat.reduceMod, Nat.reduceDiv, hb, Bool.false_eq_true]
              (repeat' first | (refine hK _ ?_; clear hK K') | ((first | with_reducible refine runA_id ?_ | with_reducible refine goA_id ?_); simp -implicitDefEqProofs (disch := omega) only [i64_in, tdivn, tmodn]; simp -implicitDefEqProofs only [go_sem, Nat.reduceLT, Nat.reduceAdd, Nat.reduceEqDiff, reduceIte, Nat.reduceMul, Nat.reduceSub, reduceCtorEq, Int.reduceNe, Int.reduceEq, ne_eq, Nat.reduceLeDiff, Nat.reduceMod, Nat.reduceDiv, hb, Bool.false_eq_true]) | with_reducible apply And.intro | (simp -implicitDefEqProofs (disch := omega) only [i64_in, tdivn, tmodn, List.length_cons, List.length_nil, Nat.reduceAdd]; done) | omega | (simp -implicitDefEqProofs (disch := omega) only [tdivn, tmodn, i64_in, List.length_append, List.length_cons, List.length_nil]; omega) | (refine ⟨?_, by decide⟩; omega) | decide | fail)
              all_goals
                apply VC.at
                · simp -implicitDefEqProofs only [go_sem, Nat.reduceLT, Nat.reduceAdd, Nat.reduceEqDiff, reduceIte, Nat.reduceMul, Nat.reduceSub, reduceCtorEq, Int.reduceNe, Int.reduceEq, ne_eq, Nat.reduceLeDiff, Nat.reduceMod, Nat.reduceDiv, hb, Bool.false_eq_true]; (try simp (disch := omega) only [i64_in, tmodn, tdivn]); exact rfl
                apply VC.ret
                simp -implicitDefEqProofs only [go_sem, Nat.reduceLT, Nat.reduceAdd, Nat.reduceEqDiff, reduceIte, Nat.reduceMul, Nat.reduceSub, reduceCtorEq, Int.reduceNe, Int.reduceEq, ne_eq, Nat.reduceLeDiff, Nat.reduceMod, Nat.reduceDiv, hb, Bool.false_eq_true]
                all_goals ((try simp (disch := omega) only [tmodn, tdivn, i64_in] at *); first | (rw [shortOk_no (.inl hb), shortO, shortOk_no (.inl hb)]; rfl) | (have e : shortOk t = false := shortOk_no (by omega); rw [shortO, e]; rfl) | (have e : shortOk t = true := shortOk_yes hb (by omega) (by omega) (by omega); rw [shortO, e, ← drop_two' _ (genS_two t)]; rfl))
end Go.Proofs.YtfbodageccednaaDoor.Oa

