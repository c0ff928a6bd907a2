/- What functions of the program, of its library and of the document compute: their contracts, and laws about what they compute (X13). No condition. -/
import Derived.Test.YtpajpkbipagjpaaGreatDoorX04
import Derived.Test.YtpajpkbipagjpaaGreatDoorX03
import Derived.Test.YtpajpkbipagjpaaGreatDoorX05
import Derived.Test.YtpajpkbipagjpaaGreatDoorX11
import Derived.Test.YtpajpkbipagjpaaGreatDoorX10
set_option linter.unusedVariables false
set_option linter.unusedSimpArgs false
namespace Go.Proofs.YtpajpkbipagjpaaGreatDoor.Oc
open Go Go.RowKit Go.Proofs.YtpajpkbipagjpaaGreatDoor.Vm Go.Proofs.YtpajpkbipagjpaaGreatDoor.Tr Go.IntWalk
set_option maxRecDepth 100000
set_option maxHeartbeats 4000000
theorem c8_drop {b : List UInt8} {i j : Nat} : c8 (b.drop i) j = (b.getD (i + j) 0).toNat := by
 unfold c8
 rw [List.getD_eq_getElem?_getD, List.getElem?_drop, List.getD_eq_getElem?_getD]
theorem vd_next {b : List UInt8} {i n : Nat} (hn : 0 < n) (h : ch8 (b.drop i) = n) (hv : validB (b.drop i) = validB b) : validB (b.drop (i + n)) = validB b := by
 rw [← List.drop_drop, validB_step hn h, hv]
@[go_sem] noncomputable def rvalidF : PFn := PF [SY] (fun (b : List UInt8) => b.length ≤ 4611686018427387904) (fun (b : List UInt8) => [.bool (validB b)])
theorem rvalid_ok : Pure E 255 rvalidF := Pure.of_sig (rs := [.tmp 2]) (n := 81) Tryz.func255 rfl rfl rfl (Nat.le_of_ble_eq_true rfl) (by
 intro (b : List UInt8) hds
 refine st0 ?_
 refine rg sound_nil [0] trivial ?_
 refine rg sound_nil [0, 3] trivial ?_
 refine nx ?_
 refine VC.loopP (ι := Nat) [0] (fun i => [(3, .dat (.int .i64 (i : Int)))]) (fun _ => []) (fun i => i ≤ b.length ∧ validB (b.drop i) = validB b) (fun i => b.length - i) 0 ⟨Nat.zero_le _, rfl⟩ (et) ?_
 intro i hp; try dsimp only at hp
 refine st0 ?_
 refine rg sound_nil [0, 3, 13] trivial ?_
 refine cn ?_ ?_
 ·intro h; try exact absurd h (by decide)
  try (exfalso; (try simp only [Bool.not_eq_eq_eq_not, Bool.not_true, Bool.not_false, decide_eq_false_iff_not, decide_eq_true_eq] at *); omega)
  all_goals
   refine rg sound_nil [0, 3, 4] trivial ?_
   have hx0 : (b.getD i 0).toNat < 256 := (b.getD i 0).toNat_lt
   refine rg sound_nil [0, 3, 4, 5, 6, 7] trivial ?_
   refine rg sound_nil [0, 3, 4, 5, 6, 7, 19] trivial ?_
   refine cn ?_ ?_
   ·intro h; try exact absurd h (by decide)
    try (exfalso; (try simp only [Bool.not_eq_eq_eq_not, Bool.not_true, Bool.not_false, decide_eq_false_iff_not, decide_eq_true_eq] at *); omega)
    all_goals
     have hc0 : c8 (b.drop i) 0 = (b.getD i 0).toNat := by rw [c8_drop]; rfl
     have hdl : (b.drop i).length = b.length - i := List.length_drop
     have hq : ch8 (b.drop i) = 1 := by unfold ch8; rw [if_neg (by omega), if_pos (by omega)]
     refine rg sound_nil [0, 3, 5, 6, 7, 56] trivial ?_
     refine cn ?_ ?_
     ·intro h; try exact absurd h (by decide)
      try (exfalso; (try simp only [Bool.not_eq_eq_eq_not, Bool.not_true, Bool.not_false, decide_eq_false_iff_not, decide_eq_true_eq] at *); omega)
      all_goals
       have hy : validB b = false := hno (by omega)
       refine rg sound_nil [2] trivial ?_
       first
       | exact fz hy
     ·intro h; try exact absurd h (by decide)
      try (exfalso; (try simp only [Bool.not_eq_eq_eq_not, Bool.not_true, Bool.not_false, decide_eq_false_iff_not, decide_eq_true_eq] at *); omega)
      all_goals
       refine rg sound_nil [0, 3, 5, 6, 7, 8] trivial ?_
       refine nx ?_
       refine VC.loopP (ι := Int × Int × Nat) [0, 3, 7] (fun z => [(5, .dat (.int .i64 z.1)), (6, .dat (.int .i64 z.2.1)), (8, .dat (.int .i64 (z.2.2 : Int)))]) (fun _ => []) (fun z => (1 ≤ z.2.2 ∧ z.2.2 ≤ 1) ∧ (z.2.2 = 1 ∧ z.1 = 128 ∧ z.2.1 = 191 ∨ (2 ≤ z.2.2 ∧ z.1 = 128 ∧ z.2.1 = 191 ∧ 128 ≤ ((b.getD (i + 1) 0).toNat : Int) ∧ ((b.getD (i + 1) 0).toNat : Int) ≤ 191 ∧ (3 ≤ z.2.2 → 128 ≤ ((b.getD (i + 2) 0).toNat : Int) ∧ ((b.getD (i + 2) 0).toNat : Int) ≤ 191) ∧ (4 ≤ z.2.2 → 128 ≤ ((b.getD (i + 3) 0).toNat : Int) ∧ ((b.getD (i + 3) 0).toNat : Int) ≤ 191)))) (fun z => 1 - z.2.2) (128, 191, 1) ⟨by dsimp only; omega, .inl ⟨rfl, rfl, rfl⟩⟩ ?_ ?_
       ·refine Ent.to rfl rfl rfl ?_ ?_
        ·simp -implicitDefEqProofs only [go_sem, Nat.reduceLT, Nat.reduceAdd, Nat.reduceEqDiff, reduceIte, Nat.reduceMul, Nat.reduceSub, reduceCtorEq, Int.reduceNe, Int.reduceEq, ne_eq, Nat.reduceLeDiff, Nat.reduceMod, Nat.reduceDiv]; (try simp only [D.dat.injEq, Vm.Data.int.injEq, true_and, and_true, and_self, eq_self]); (try omega); (try ((repeat' apply And.intro) <;> first | omega | rfl))
        ·(repeat' (first | exact all_nil | (refine all_cons ?_ ?_))) <;> (simp -implicitDefEqProofs only [go_sem, Nat.reduceLT, Nat.reduceAdd, Nat.reduceEqDiff, reduceIte, Nat.reduceMul, Nat.reduceSub, reduceCtorEq, Int.reduceNe, Int.reduceEq, ne_eq, Nat.reduceLeDiff, Nat.reduceMod, Nat.reduceDiv]; (try rfl); skip)
       rintro ⟨lo, hi, k⟩ hk; (try dsimp only at hk); obtain ⟨hk1, hk2⟩ := hk
       refine st0 ?_
       refine rg sound_nil [0, 3, 5, 6, 7, 8, 59] trivial ?_
       refine cn ?_ ?_
       ·intro h; try exact absurd h (by decide)
        try (exfalso; (try simp only [Bool.not_eq_eq_eq_not, Bool.not_true, Bool.not_false, decide_eq_false_iff_not, decide_eq_true_eq] at *); omega)
        all_goals
         have hik : ((i : Int) + (k : Int)).toNat = i + k := by omega
         have hxk : (b.getD (i + k) 0).toNat < 256 := (b.getD (i + k) 0).toNat_lt
         refine rg sound_nil [0, 3, 5, 6, 7, 8, 9] hik ?_
         refine rB sound_nil [0, 3, 7, 8, 76] trivial fun K' hK => ?_
         repeat' first | (refine lf hK trivial ?_; clear hK K') | with_reducible apply And.intro | refine sA trivial (fun _ => ?_) fun _ => ?_ | refine sAb trivial (fun _ => ?_) fun _ => ?_ | refine sAl trivial (fun g => ?_) fun g => ?_ | exact sd | exact sde trivial | exact sdp trivial | refine stk trivial ?_ | fail
         all_goals
          refine cn ?_ ?_
          ·intro h; try exact absurd h (by decide)
           try (exfalso; (try simp only [Bool.not_eq_eq_eq_not, Bool.not_true, Bool.not_false, decide_eq_false_iff_not, decide_eq_true_eq] at *); omega)
           all_goals
            have hk3 : k = 1 ∨ k = 2 ∨ k = 3 := by omega
            have hy : validB b = false := hno (by
             rcases hk3 with rfl | rfl | rfl <;> omega)
            refine rg sound_nil [2] trivial ?_
            first
            | exact fz hy
          ·intro h; try exact absurd h (by decide)
           try (exfalso; (try simp only [Bool.not_eq_eq_eq_not, Bool.not_true, Bool.not_false, decide_eq_false_iff_not, decide_eq_true_eq] at *); omega)
           all_goals
            refine rg sound_nil [0, 3, 5, 7, 8] trivial ?_
            refine rgL sound_nil trivial ?_
            refine rgL sound_nil trivial ?_
            refine nx ?_
            have hk3 : k = 1 ∨ k = 2 ∨ k = 3 := by omega
            refine ⟨(128, 191, k + 1), ⟨by dsimp only; omega, .inr ?_⟩, ?_, by dsimp only; omega⟩
            ·dsimp only
             rcases hk3 with rfl | rfl | rfl <;> omega
            ·refine Ent.to rfl rfl rfl ?_ ?_
             ·simp -implicitDefEqProofs only [go_sem, Nat.reduceLT, Nat.reduceAdd, Nat.reduceEqDiff, reduceIte, Nat.reduceMul, Nat.reduceSub, reduceCtorEq, Int.reduceNe, Int.reduceEq, ne_eq, Nat.reduceLeDiff, Nat.reduceMod, Nat.reduceDiv]; (try simp only [D.dat.injEq, Vm.Data.int.injEq, true_and, and_true, and_self, eq_self]); (try omega); (try ((repeat' apply And.intro) <;> first | omega | rfl))
             ·(repeat' (first | exact all_nil | (refine all_cons ?_ ?_))) <;> (simp -implicitDefEqProofs only [go_sem, Nat.reduceLT, Nat.reduceAdd, Nat.reduceEqDiff, reduceIte, Nat.reduceMul, Nat.reduceSub, reduceCtorEq, Int.reduceNe, Int.reduceEq, ne_eq, Nat.reduceLeDiff, Nat.reduceMod, Nat.reduceDiv]; (try rfl); skip)
       ·intro h; try exact absurd h (by decide)
        try (exfalso; (try simp only [Bool.not_eq_eq_eq_not, Bool.not_true, Bool.not_false, decide_eq_false_iff_not, decide_eq_true_eq] at *); omega)
        all_goals
         refine rgL sound_nil trivial ?_
         refine nx ?_
         exact ⟨i + 1, ⟨by omega, vd_next (by omega) hq hp.2⟩, et, by omega⟩
   ·intro h; try exact absurd h (by decide)
    try (exfalso; (try simp only [Bool.not_eq_eq_eq_not, Bool.not_true, Bool.not_false, decide_eq_false_iff_not, decide_eq_true_eq] at *); omega)
    all_goals
     refine rB sound_nil [0, 3, 4, 5, 6, 22] trivial fun K' hK => ?_
     repeat' first | (refine lf hK trivial ?_; clear hK K') | with_reducible apply And.intro | refine sA trivial (fun _ => ?_) fun _ => ?_ | refine sAb trivial (fun _ => ?_) fun _ => ?_ | refine sAl trivial (fun g => ?_) fun g => ?_ | exact sd | exact sde trivial | exact sdp trivial | refine stk trivial ?_ | fail
     all_goals
      refine cn ?_ ?_
      ·intro h; try exact absurd h (by decide)
       try (exfalso; (try simp only [Bool.not_eq_eq_eq_not, Bool.not_true, Bool.not_false, decide_eq_false_iff_not, decide_eq_true_eq] at *); omega)
       all_goals
        refine rgL sound_nil trivial ?_
        have hc0 : c8 (b.drop i) 0 = (b.getD i 0).toNat := by rw [c8_drop]; rfl
        have hdl : (b.drop i).length = b.length - i := List.length_drop
        have hc1 : c8 (b.drop i) 1 = (b.getD (i + 1) 0).toNat := c8_drop
        have hq0 : ch8 (b.drop i) = if 2 ≤ (b.drop i).length ∧ 128 ≤ c8 (b.drop i) 1 ∧ c8 (b.drop i) 1 ≤ 191 then 2 else 0 := by unfold ch8; rw [if_neg (by omega), if_neg (by omega), if_pos (by omega)]
        have hno : ¬ (2 ≤ b.length - i ∧ 128 ≤ ((b.getD (i + 1) 0).toNat : Int) ∧ ((b.getD (i + 1) 0).toNat : Int) ≤ 191) → validB b = false := fun h => hp.2.symm.trans (validB_bad (by omega) (hq0.trans (if_neg (by omega))))
        have hyes : (2 ≤ b.length - i ∧ 128 ≤ ((b.getD (i + 1) 0).toNat : Int) ∧ ((b.getD (i + 1) 0).toNat : Int) ≤ 191) → ch8 (b.drop i) = 2 := fun h => hq0.trans (if_pos (by omega))
        refine rg sound_nil [0, 3, 5, 6, 7, 56] trivial ?_
        refine cn ?_ ?_
        ·intro h; try exact absurd h (by decide)
         try (exfalso; (try simp only [Bool.not_eq_eq_eq_not, Bool.not_true, Bool.not_false, decide_eq_false_iff_not, decide_eq_true_eq] at *); omega)
         all_goals
          have hy : validB b = false := hno (by omega)
          refine rg sound_nil [2] trivial ?_
          first
          | exact fz hy
        ·intro h; try exact absurd h (by decide)
         try (exfalso; (try simp only [Bool.not_eq_eq_eq_not, Bool.not_true, Bool.not_false, decide_eq_false_iff_not, decide_eq_true_eq] at *); omega)
         all_goals
          refine rg sound_nil [0, 3, 5, 6, 7, 8] trivial ?_
          refine nx ?_
          refine VC.loopP (ι := Int × Int × Nat) [0, 3, 7] (fun z => [(5, .dat (.int .i64 z.1)), (6, .dat (.int .i64 z.2.1)), (8, .dat (.int .i64 (z.2.2 : Int)))]) (fun _ => []) (fun z => (1 ≤ z.2.2 ∧ z.2.2 ≤ 2) ∧ (z.2.2 = 1 ∧ z.1 = 128 ∧ z.2.1 = 191 ∨ (2 ≤ z.2.2 ∧ z.1 = 128 ∧ z.2.1 = 191 ∧ 128 ≤ ((b.getD (i + 1) 0).toNat : Int) ∧ ((b.getD (i + 1) 0).toNat : Int) ≤ 191 ∧ (3 ≤ z.2.2 → 128 ≤ ((b.getD (i + 2) 0).toNat : Int) ∧ ((b.getD (i + 2) 0).toNat : Int) ≤ 191) ∧ (4 ≤ z.2.2 → 128 ≤ ((b.getD (i + 3) 0).toNat : Int) ∧ ((b.getD (i + 3) 0).toNat : Int) ≤ 191)))) (fun z => 2 - z.2.2) (128, 191, 1) ⟨by dsimp only; omega, .inl ⟨rfl, rfl, rfl⟩⟩ ?_ ?_
          ·refine Ent.to rfl rfl rfl ?_ ?_
           ·simp -implicitDefEqProofs only [go_sem, Nat.reduceLT, Nat.reduceAdd, Nat.reduceEqDiff, reduceIte, Nat.reduceMul, Nat.reduceSub, reduceCtorEq, Int.reduceNe, Int.reduceEq, ne_eq, Nat.reduceLeDiff, Nat.reduceMod, Nat.reduceDiv]; (try simp only [D.dat.injEq, Vm.Data.int.injEq, true_and, and_true, and_self, eq_self]); (try omega); (try ((repeat' apply And.intro) <;> first | omega | rfl))
           ·(repeat' (first | exact all_nil | (refine all_cons ?_ ?_))) <;> (simp -implicitDefEqProofs only [go_sem, Nat.reduceLT, Nat.reduceAdd, Nat.reduceEqDiff, reduceIte, Nat.reduceMul, Nat.reduceSub, reduceCtorEq, Int.reduceNe, Int.reduceEq, ne_eq, Nat.reduceLeDiff, Nat.reduceMod, Nat.reduceDiv]; (try rfl); skip)
          rintro ⟨lo, hi, k⟩ hk; (try dsimp only at hk); obtain ⟨hk1, hk2⟩ := hk
          refine st0 ?_
          refine rg sound_nil [0, 3, 5, 6, 7, 8, 59] trivial ?_
          refine cn ?_ ?_
          ·intro h; try exact absurd h (by decide)
           try (exfalso; (try simp only [Bool.not_eq_eq_eq_not, Bool.not_true, Bool.not_false, decide_eq_false_iff_not, decide_eq_true_eq] at *); omega)
           all_goals
            have hik : ((i : Int) + (k : Int)).toNat = i + k := by omega
            have hxk : (b.getD (i + k) 0).toNat < 256 := (b.getD (i + k) 0).toNat_lt
            refine rg sound_nil [0, 3, 5, 6, 7, 8, 9] hik ?_
            refine rB sound_nil [0, 3, 7, 8, 76] trivial fun K' hK => ?_
            repeat' first | (refine lf hK trivial ?_; clear hK K') | with_reducible apply And.intro | refine sA trivial (fun _ => ?_) fun _ => ?_ | refine sAb trivial (fun _ => ?_) fun _ => ?_ | refine sAl trivial (fun g => ?_) fun g => ?_ | exact sd | exact sde trivial | exact sdp trivial | refine stk trivial ?_ | fail
            all_goals
             refine cn ?_ ?_
             ·intro h; try exact absurd h (by decide)
              try (exfalso; (try simp only [Bool.not_eq_eq_eq_not, Bool.not_true, Bool.not_false, decide_eq_false_iff_not, decide_eq_true_eq] at *); omega)
              all_goals
               have hk3 : k = 1 ∨ k = 2 ∨ k = 3 := by omega
               have hy : validB b = false := hno (by
                rcases hk3 with rfl | rfl | rfl <;> omega)
               refine rg sound_nil [2] trivial ?_
               first
               | exact fz hy
             ·intro h; try exact absurd h (by decide)
              try (exfalso; (try simp only [Bool.not_eq_eq_eq_not, Bool.not_true, Bool.not_false, decide_eq_false_iff_not, decide_eq_true_eq] at *); omega)
              all_goals
               refine rg sound_nil [0, 3, 5, 7, 8] trivial ?_
               refine rgL sound_nil trivial ?_
               refine rgL sound_nil trivial ?_
               refine nx ?_
               have hk3 : k = 1 ∨ k = 2 ∨ k = 3 := by omega
               refine ⟨(128, 191, k + 1), ⟨by dsimp only; omega, .inr ?_⟩, ?_, by dsimp only; omega⟩
               ·dsimp only
                rcases hk3 with rfl | rfl | rfl <;> omega
               ·refine Ent.to rfl rfl rfl ?_ ?_
                ·simp -implicitDefEqProofs only [go_sem, Nat.reduceLT, Nat.reduceAdd, Nat.reduceEqDiff, reduceIte, Nat.reduceMul, Nat.reduceSub, reduceCtorEq, Int.reduceNe, Int.reduceEq, ne_eq, Nat.reduceLeDiff, Nat.reduceMod, Nat.reduceDiv]; (try simp only [D.dat.injEq, Vm.Data.int.injEq, true_and, and_true, and_self, eq_self]); (try omega); (try ((repeat' apply And.intro) <;> first | omega | rfl))
                ·(repeat' (first | exact all_nil | (refine all_cons ?_ ?_))) <;> (simp -implicitDefEqProofs only [go_sem, Nat.reduceLT, Nat.reduceAdd, Nat.reduceEqDiff, reduceIte, Nat.reduceMul, Nat.reduceSub, reduceCtorEq, Int.reduceNe, Int.reduceEq, ne_eq, Nat.reduceLeDiff, Nat.reduceMod, Nat.reduceDiv]; (try rfl); skip)
          ·intro h; try exact absurd h (by decide)
           try (exfalso; (try simp only [Bool.not_eq_eq_eq_not, Bool.not_true, Bool.not_false, decide_eq_false_iff_not, decide_eq_true_eq] at *); omega)
           all_goals
            have hkn : k = 2 := by omega
            have hq : ch8 (b.drop i) = 2 := hyes (by subst hkn; omega)
            refine rgL sound_nil trivial ?_
            refine nx ?_
            exact ⟨i + 2, ⟨by omega, vd_next (by omega) hq hp.2⟩, et, by omega⟩
      ·intro h; try exact absurd h (by decide)
       try (exfalso; (try simp only [Bool.not_eq_eq_eq_not, Bool.not_true, Bool.not_false, decide_eq_false_iff_not, decide_eq_true_eq] at *); omega)
       all_goals
        refine rB sound_nil [0, 3, 4, 5, 6, 29] trivial fun K' hK => ?_
        repeat' first | (refine lf hK trivial ?_; clear hK K') | with_reducible apply And.intro | refine sA trivial (fun _ => ?_) fun _ => ?_ | refine sAb trivial (fun _ => ?_) fun _ => ?_ | refine sAl trivial (fun g => ?_) fun g => ?_ | exact sd | exact sde trivial | exact sdp trivial | refine stk trivial ?_ | fail
        all_goals
         refine cn ?_ ?_
         ·intro h; try exact absurd h (by decide)
          try (exfalso; (try simp only [Bool.not_eq_eq_eq_not, Bool.not_true, Bool.not_false, decide_eq_false_iff_not, decide_eq_true_eq] at *); omega)
          all_goals
           refine rg sound_nil [0, 3, 4, 5, 6, 7] trivial ?_
           refine rg sound_nil [0, 3, 4, 5, 6, 7, 37] trivial ?_
           refine cn ?_ ?_
           ·intro h; try exact absurd h (by decide)
            try (exfalso; (try simp only [Bool.not_eq_eq_eq_not, Bool.not_true, Bool.not_false, decide_eq_false_iff_not, decide_eq_true_eq] at *); omega)
            all_goals
             refine rgL sound_nil trivial ?_
             refine rg sound_nil [0, 3, 5, 6, 7, 39] trivial ?_
             refine cn ?_ ?_
             ·intro h; try exact absurd h (by decide)
              try (exfalso; (try simp only [Bool.not_eq_eq_eq_not, Bool.not_true, Bool.not_false, decide_eq_false_iff_not, decide_eq_true_eq] at *); omega)
              all_goals
               refine rgL sound_nil trivial ?_
               have hc0 : c8 (b.drop i) 0 = (b.getD i 0).toNat := by rw [c8_drop]; rfl
               have hdl : (b.drop i).length = b.length - i := List.length_drop
               have hc1 : c8 (b.drop i) 1 = (b.getD (i + 1) 0).toNat := c8_drop
               have hc2 : c8 (b.drop i) 2 = (b.getD (i + 2) 0).toNat := c8_drop
               have hq0 : ch8 (b.drop i) = if 3 ≤ (b.drop i).length ∧ 160 ≤ c8 (b.drop i) 1 ∧ c8 (b.drop i) 1 ≤ 159 ∧ 128 ≤ c8 (b.drop i) 2 ∧ c8 (b.drop i) 2 ≤ 191 then 3 else 0 := by unfold ch8; rw [if_neg (by omega), if_neg (by omega), if_neg (by omega), if_pos (by omega), if_pos (show c8 (b.drop i) 0 = 224 by omega), if_pos (show c8 (b.drop i) 0 = 237 by omega)]
               have hno : ¬ (3 ≤ b.length - i ∧ 160 ≤ ((b.getD (i + 1) 0).toNat : Int) ∧ ((b.getD (i + 1) 0).toNat : Int) ≤ 159 ∧ 128 ≤ ((b.getD (i + 2) 0).toNat : Int) ∧ ((b.getD (i + 2) 0).toNat : Int) ≤ 191) → validB b = false := fun h => hp.2.symm.trans (validB_bad (by omega) (hq0.trans (if_neg (by omega))))
               have hyes : (3 ≤ b.length - i ∧ 160 ≤ ((b.getD (i + 1) 0).toNat : Int) ∧ ((b.getD (i + 1) 0).toNat : Int) ≤ 159 ∧ 128 ≤ ((b.getD (i + 2) 0).toNat : Int) ∧ ((b.getD (i + 2) 0).toNat : Int) ≤ 191) → ch8 (b.drop i) = 3 := fun h => hq0.trans (if_pos (by omega))
               refine rg sound_nil [0, 3, 5, 6, 7, 56] trivial ?_
               refine cn ?_ ?_
               ·intro h; try exact absurd h (by decide)
                try (exfalso; (try simp only [Bool.not_eq_eq_eq_not, Bool.not_true, Bool.not_false, decide_eq_false_iff_not, decide_eq_true_eq] at *); omega)
                all_goals
                 have hy : validB b = false := hno (by omega)
                 refine rg sound_nil [2] trivial ?_
                 first
                 | exact fz hy
               ·intro h; try exact absurd h (by decide)
                try (exfalso; (try simp only [Bool.not_eq_eq_eq_not, Bool.not_true, Bool.not_false, decide_eq_false_iff_not, decide_eq_true_eq] at *); omega)
                all_goals
                 refine rg sound_nil [0, 3, 5, 6, 7, 8] trivial ?_
                 refine nx ?_
                 refine VC.loopP (ι := Int × Int × Nat) [0, 3, 7] (fun z => [(5, .dat (.int .i64 z.1)), (6, .dat (.int .i64 z.2.1)), (8, .dat (.int .i64 (z.2.2 : Int)))]) (fun _ => []) (fun z => (1 ≤ z.2.2 ∧ z.2.2 ≤ 3) ∧ (z.2.2 = 1 ∧ z.1 = 160 ∧ z.2.1 = 159 ∨ (2 ≤ z.2.2 ∧ z.1 = 128 ∧ z.2.1 = 191 ∧ 160 ≤ ((b.getD (i + 1) 0).toNat : Int) ∧ ((b.getD (i + 1) 0).toNat : Int) ≤ 159 ∧ (3 ≤ z.2.2 → 128 ≤ ((b.getD (i + 2) 0).toNat : Int) ∧ ((b.getD (i + 2) 0).toNat : Int) ≤ 191) ∧ (4 ≤ z.2.2 → 128 ≤ ((b.getD (i + 3) 0).toNat : Int) ∧ ((b.getD (i + 3) 0).toNat : Int) ≤ 191)))) (fun z => 3 - z.2.2) (160, 159, 1) ⟨by dsimp only; omega, .inl ⟨rfl, rfl, rfl⟩⟩ ?_ ?_
                 ·refine Ent.to rfl rfl rfl ?_ ?_
                  ·simp -implicitDefEqProofs only [go_sem, Nat.reduceLT, Nat.reduceAdd, Nat.reduceEqDiff, reduceIte, Nat.reduceMul, Nat.reduceSub, reduceCtorEq, Int.reduceNe, Int.reduceEq, ne_eq, Nat.reduceLeDiff, Nat.reduceMod, Nat.reduceDiv]; (try simp only [D.dat.injEq, Vm.Data.int.injEq, true_and, and_true, and_self, eq_self]); (try omega); (try ((repeat' apply And.intro) <;> first | omega | rfl))
                  ·(repeat' (first | exact all_nil | (refine all_cons ?_ ?_))) <;> (simp -implicitDefEqProofs only [go_sem, Nat.reduceLT, Nat.reduceAdd, Nat.reduceEqDiff, reduceIte, Nat.reduceMul, Nat.reduceSub, reduceCtorEq, Int.reduceNe, Int.reduceEq, ne_eq, Nat.reduceLeDiff, Nat.reduceMod, Nat.reduceDiv]; (try rfl); skip)
                 rintro ⟨lo, hi, k⟩ hk; (try dsimp only at hk); obtain ⟨hk1, hk2⟩ := hk
                 refine st0 ?_
                 refine rg sound_nil [0, 3, 5, 6, 7, 8, 59] trivial ?_
                 refine cn ?_ ?_
                 ·intro h; try exact absurd h (by decide)
                  try (exfalso; (try simp only [Bool.not_eq_eq_eq_not, Bool.not_true, Bool.not_false, decide_eq_false_iff_not, decide_eq_true_eq] at *); omega)
                  all_goals
                   have hik : ((i : Int) + (k : Int)).toNat = i + k := by omega
                   have hxk : (b.getD (i + k) 0).toNat < 256 := (b.getD (i + k) 0).toNat_lt
                   refine rg sound_nil [0, 3, 5, 6, 7, 8, 9] hik ?_
                   refine rB sound_nil [0, 3, 7, 8, 76] trivial fun K' hK => ?_
                   repeat' first | (refine lf hK trivial ?_; clear hK K') | with_reducible apply And.intro | refine sA trivial (fun _ => ?_) fun _ => ?_ | refine sAb trivial (fun _ => ?_) fun _ => ?_ | refine sAl trivial (fun g => ?_) fun g => ?_ | exact sd | exact sde trivial | exact sdp trivial | refine stk trivial ?_ | fail
                   all_goals
                    refine cn ?_ ?_
                    ·intro h; try exact absurd h (by decide)
                     try (exfalso; (try simp only [Bool.not_eq_eq_eq_not, Bool.not_true, Bool.not_false, decide_eq_false_iff_not, decide_eq_true_eq] at *); omega)
                     all_goals
                      have hk3 : k = 1 ∨ k = 2 ∨ k = 3 := by omega
                      have hy : validB b = false := hno (by
                       rcases hk3 with rfl | rfl | rfl <;> omega)
                      refine rg sound_nil [2] trivial ?_
                      first
                      | exact fz hy
                    ·intro h; try exact absurd h (by decide)
                     try (exfalso; (try simp only [Bool.not_eq_eq_eq_not, Bool.not_true, Bool.not_false, decide_eq_false_iff_not, decide_eq_true_eq] at *); omega)
                     all_goals
                      refine rg sound_nil [0, 3, 5, 7, 8] trivial ?_
                      refine rgL sound_nil trivial ?_
                      refine rgL sound_nil trivial ?_
                      refine nx ?_
                      have hk3 : k = 1 ∨ k = 2 ∨ k = 3 := by omega
                      refine ⟨(128, 191, k + 1), ⟨by dsimp only; omega, .inr ?_⟩, ?_, by dsimp only; omega⟩
                      ·dsimp only
                       rcases hk3 with rfl | rfl | rfl <;> omega
                      ·refine Ent.to rfl rfl rfl ?_ ?_
                       ·simp -implicitDefEqProofs only [go_sem, Nat.reduceLT, Nat.reduceAdd, Nat.reduceEqDiff, reduceIte, Nat.reduceMul, Nat.reduceSub, reduceCtorEq, Int.reduceNe, Int.reduceEq, ne_eq, Nat.reduceLeDiff, Nat.reduceMod, Nat.reduceDiv]; (try simp only [D.dat.injEq, Vm.Data.int.injEq, true_and, and_true, and_self, eq_self]); (try omega); (try ((repeat' apply And.intro) <;> first | omega | rfl))
                       ·(repeat' (first | exact all_nil | (refine all_cons ?_ ?_))) <;> (simp -implicitDefEqProofs only [go_sem, Nat.reduceLT, Nat.reduceAdd, Nat.reduceEqDiff, reduceIte, Nat.reduceMul, Nat.reduceSub, reduceCtorEq, Int.reduceNe, Int.reduceEq, ne_eq, Nat.reduceLeDiff, Nat.reduceMod, Nat.reduceDiv]; (try rfl); skip)
                 ·intro h; try exact absurd h (by decide)
                  try (exfalso; (try simp only [Bool.not_eq_eq_eq_not, Bool.not_true, Bool.not_false, decide_eq_false_iff_not, decide_eq_true_eq] at *); omega)
                  all_goals
                   have hkn : k = 3 := by omega
                   have hq : ch8 (b.drop i) = 3 := hyes (by subst hkn; omega)
                   refine rgL sound_nil trivial ?_
                   refine nx ?_
                   exact ⟨i + 3, ⟨by omega, vd_next (by omega) hq hp.2⟩, et, by omega⟩
             ·intro h; try exact absurd h (by decide)
              try (exfalso; (try simp only [Bool.not_eq_eq_eq_not, Bool.not_true, Bool.not_false, decide_eq_false_iff_not, decide_eq_true_eq] at *); omega)
              all_goals
               have hc0 : c8 (b.drop i) 0 = (b.getD i 0).toNat := by rw [c8_drop]; rfl
               have hdl : (b.drop i).length = b.length - i := List.length_drop
               have hc1 : c8 (b.drop i) 1 = (b.getD (i + 1) 0).toNat := c8_drop
               have hc2 : c8 (b.drop i) 2 = (b.getD (i + 2) 0).toNat := c8_drop
               have hq0 : ch8 (b.drop i) = if 3 ≤ (b.drop i).length ∧ 160 ≤ c8 (b.drop i) 1 ∧ c8 (b.drop i) 1 ≤ 191 ∧ 128 ≤ c8 (b.drop i) 2 ∧ c8 (b.drop i) 2 ≤ 191 then 3 else 0 := by unfold ch8; rw [if_neg (by omega), if_neg (by omega), if_neg (by omega), if_pos (by omega), if_pos (show c8 (b.drop i) 0 = 224 by omega), if_neg (show ¬ c8 (b.drop i) 0 = 237 by omega)]
               have hno : ¬ (3 ≤ b.length - i ∧ 160 ≤ ((b.getD (i + 1) 0).toNat : Int) ∧ ((b.getD (i + 1) 0).toNat : Int) ≤ 191 ∧ 128 ≤ ((b.getD (i + 2) 0).toNat : Int) ∧ ((b.getD (i + 2) 0).toNat : Int) ≤ 191) → validB b = false := fun h => hp.2.symm.trans (validB_bad (by omega) (hq0.trans (if_neg (by omega))))
               have hyes : (3 ≤ b.length - i ∧ 160 ≤ ((b.getD (i + 1) 0).toNat : Int) ∧ ((b.getD (i + 1) 0).toNat : Int) ≤ 191 ∧ 128 ≤ ((b.getD (i + 2) 0).toNat : Int) ∧ ((b.getD (i + 2) 0).toNat : Int) ≤ 191) → ch8 (b.drop i) = 3 := fun h => hq0.trans (if_pos (by omega))
               refine rg sound_nil [0, 3, 5, 6, 7, 56] trivial ?_
               refine cn ?_ ?_
               ·intro h; try exact absurd h (by decide)
                try (exfalso; (try simp only [Bool.not_eq_eq_eq_not, Bool.not_true, Bool.not_false, decide_eq_false_iff_not, decide_eq_true_eq] at *); omega)
                all_goals
                 have hy : validB b = false := hno (by omega)
                 refine rg sound_nil [2] trivial ?_
                 first
                 | exact fz hy
               ·intro h; try exact absurd h (by decide)
                try (exfalso; (try simp only [Bool.not_eq_eq_eq_not, Bool.not_true, Bool.not_false, decide_eq_false_iff_not, decide_eq_true_eq] at *); omega)
                all_goals
                 refine rg sound_nil [0, 3, 5, 6, 7, 8] trivial ?_
                 refine nx ?_
                 refine VC.loopP (ι := Int × Int × Nat) [0, 3, 7] (fun z => [(5, .dat (.int .i64 z.1)), (6, .dat (.int .i64 z.2.1)), (8, .dat (.int .i64 (z.2.2 : Int)))]) (fun _ => []) (fun z => (1 ≤ z.2.2 ∧ z.2.2 ≤ 3) ∧ (z.2.2 = 1 ∧ z.1 = 160 ∧ z.2.1 = 191 ∨ (2 ≤ z.2.2 ∧ z.1 = 128 ∧ z.2.1 = 191 ∧ 160 ≤ ((b.getD (i + 1) 0).toNat : Int) ∧ ((b.getD (i + 1) 0).toNat : Int) ≤ 191 ∧ (3 ≤ z.2.2 → 128 ≤ ((b.getD (i + 2) 0).toNat : Int) ∧ ((b.getD (i + 2) 0).toNat : Int) ≤ 191) ∧ (4 ≤ z.2.2 → 128 ≤ ((b.getD (i + 3) 0).toNat : Int) ∧ ((b.getD (i + 3) 0).toNat : Int) ≤ 191)))) (fun z => 3 - z.2.2) (160, 191, 1) ⟨by dsimp only; omega, .inl ⟨rfl, rfl, rfl⟩⟩ ?_ ?_
                 ·refine Ent.to rfl rfl rfl ?_ ?_
                  ·simp -implicitDefEqProofs only [go_sem, Nat.reduceLT, Nat.reduceAdd, Nat.reduceEqDiff, reduceIte, Nat.reduceMul, Nat.reduceSub, reduceCtorEq, Int.reduceNe, Int.reduceEq, ne_eq, Nat.reduceLeDiff, Nat.reduceMod, Nat.reduceDiv]; (try simp only [D.dat.injEq, Vm.Data.int.injEq, true_and, and_true, and_self, eq_self]); (try omega); (try ((repeat' apply And.intro) <;> first | omega | rfl))
                  ·(repeat' (first | exact all_nil | (refine all_cons ?_ ?_))) <;> (simp -implicitDefEqProofs only [go_sem, Nat.reduceLT, Nat.reduceAdd, Nat.reduceEqDiff, reduceIte, Nat.reduceMul, Nat.reduceSub, reduceCtorEq, Int.reduceNe, Int.reduceEq, ne_eq, Nat.reduceLeDiff, Nat.reduceMod, Nat.reduceDiv]; (try rfl); skip)
                 rintro ⟨lo, hi, k⟩ hk; (try dsimp only at hk); obtain ⟨hk1, hk2⟩ := hk
                 refine st0 ?_
                 refine rg sound_nil [0, 3, 5, 6, 7, 8, 59] trivial ?_
                 refine cn ?_ ?_
                 ·intro h; try exact absurd h (by decide)
                  try (exfalso; (try simp only [Bool.not_eq_eq_eq_not, Bool.not_true, Bool.not_false, decide_eq_false_iff_not, decide_eq_true_eq] at *); omega)
                  all_goals
                   have hik : ((i : Int) + (k : Int)).toNat = i + k := by omega
                   have hxk : (b.getD (i + k) 0).toNat < 256 := (b.getD (i + k) 0).toNat_lt
                   refine rg sound_nil [0, 3, 5, 6, 7, 8, 9] hik ?_
                   refine rB sound_nil [0, 3, 7, 8, 76] trivial fun K' hK => ?_
                   repeat' first | (refine lf hK trivial ?_; clear hK K') | with_reducible apply And.intro | refine sA trivial (fun _ => ?_) fun _ => ?_ | refine sAb trivial (fun _ => ?_) fun _ => ?_ | refine sAl trivial (fun g => ?_) fun g => ?_ | exact sd | exact sde trivial | exact sdp trivial | refine stk trivial ?_ | fail
                   all_goals
                    refine cn ?_ ?_
                    ·intro h; try exact absurd h (by decide)
                     try (exfalso; (try simp only [Bool.not_eq_eq_eq_not, Bool.not_true, Bool.not_false, decide_eq_false_iff_not, decide_eq_true_eq] at *); omega)
                     all_goals
                      have hk3 : k = 1 ∨ k = 2 ∨ k = 3 := by omega
                      have hy : validB b = false := hno (by
                       rcases hk3 with rfl | rfl | rfl <;> omega)
                      refine rg sound_nil [2] trivial ?_
                      first
                      | exact fz hy
                    ·intro h; try exact absurd h (by decide)
                     try (exfalso; (try simp only [Bool.not_eq_eq_eq_not, Bool.not_true, Bool.not_false, decide_eq_false_iff_not, decide_eq_true_eq] at *); omega)
                     all_goals
                      refine rg sound_nil [0, 3, 5, 7, 8] trivial ?_
                      refine rgL sound_nil trivial ?_
                      refine rgL sound_nil trivial ?_
                      refine nx ?_
                      have hk3 : k = 1 ∨ k = 2 ∨ k = 3 := by omega
                      refine ⟨(128, 191, k + 1), ⟨by dsimp only; omega, .inr ?_⟩, ?_, by dsimp only; omega⟩
                      ·dsimp only
                       rcases hk3 with rfl | rfl | rfl <;> omega
                      ·refine Ent.to rfl rfl rfl ?_ ?_
                       ·simp -implicitDefEqProofs only [go_sem, Nat.reduceLT, Nat.reduceAdd, Nat.reduceEqDiff, reduceIte, Nat.reduceMul, Nat.reduceSub, reduceCtorEq, Int.reduceNe, Int.reduceEq, ne_eq, Nat.reduceLeDiff, Nat.reduceMod, Nat.reduceDiv]; (try simp only [D.dat.injEq, Vm.Data.int.injEq, true_and, and_true, and_self, eq_self]); (try omega); (try ((repeat' apply And.intro) <;> first | omega | rfl))
                       ·(repeat' (first | exact all_nil | (refine all_cons ?_ ?_))) <;> (simp -implicitDefEqProofs only [go_sem, Nat.reduceLT, Nat.reduceAdd, Nat.reduceEqDiff, reduceIte, Nat.reduceMul, Nat.reduceSub, reduceCtorEq, Int.reduceNe, Int.reduceEq, ne_eq, Nat.reduceLeDiff, Nat.reduceMod, Nat.reduceDiv]; (try rfl); skip)
                 ·intro h; try exact absurd h (by decide)
                  try (exfalso; (try simp only [Bool.not_eq_eq_eq_not, Bool.not_true, Bool.not_false, decide_eq_false_iff_not, decide_eq_true_eq] at *); omega)
                  all_goals
                   have hkn : k = 3 := by omega
                   have hq : ch8 (b.drop i) = 3 := hyes (by subst hkn; omega)
                   refine rgL sound_nil trivial ?_
                   refine nx ?_
                   exact ⟨i + 3, ⟨by omega, vd_next (by omega) hq hp.2⟩, et, by omega⟩
           ·intro h; try exact absurd h (by decide)
            try (exfalso; (try simp only [Bool.not_eq_eq_eq_not, Bool.not_true, Bool.not_false, decide_eq_false_iff_not, decide_eq_true_eq] at *); omega)
            all_goals
             refine rg sound_nil [0, 3, 5, 6, 7, 39] trivial ?_
             refine cn ?_ ?_
             ·intro h; try exact absurd h (by decide)
              try (exfalso; (try simp only [Bool.not_eq_eq_eq_not, Bool.not_true, Bool.not_false, decide_eq_false_iff_not, decide_eq_true_eq] at *); omega)
              all_goals
               refine rgL sound_nil trivial ?_
               have hc0 : c8 (b.drop i) 0 = (b.getD i 0).toNat := by rw [c8_drop]; rfl
               have hdl : (b.drop i).length = b.length - i := List.length_drop
               have hc1 : c8 (b.drop i) 1 = (b.getD (i + 1) 0).toNat := c8_drop
               have hc2 : c8 (b.drop i) 2 = (b.getD (i + 2) 0).toNat := c8_drop
               have hq0 : ch8 (b.drop i) = if 3 ≤ (b.drop i).length ∧ 128 ≤ c8 (b.drop i) 1 ∧ c8 (b.drop i) 1 ≤ 159 ∧ 128 ≤ c8 (b.drop i) 2 ∧ c8 (b.drop i) 2 ≤ 191 then 3 else 0 := by unfold ch8; rw [if_neg (by omega), if_neg (by omega), if_neg (by omega), if_pos (by omega), if_neg (show ¬ c8 (b.drop i) 0 = 224 by omega), if_pos (show c8 (b.drop i) 0 = 237 by omega)]
               have hno : ¬ (3 ≤ b.length - i ∧ 128 ≤ ((b.getD (i + 1) 0).toNat : Int) ∧ ((b.getD (i + 1) 0).toNat : Int) ≤ 159 ∧ 128 ≤ ((b.getD (i + 2) 0).toNat : Int) ∧ ((b.getD (i + 2) 0).toNat : Int) ≤ 191) → validB b = false := fun h => hp.2.symm.trans (validB_bad (by omega) (hq0.trans (if_neg (by omega))))
               have hyes : (3 ≤ b.length - i ∧ 128 ≤ ((b.getD (i + 1) 0).toNat : Int) ∧ ((b.getD (i + 1) 0).toNat : Int) ≤ 159 ∧ 128 ≤ ((b.getD (i + 2) 0).toNat : Int) ∧ ((b.getD (i + 2) 0).toNat : Int) ≤ 191) → ch8 (b.drop i) = 3 := fun h => hq0.trans (if_pos (by omega))
               refine rg sound_nil [0, 3, 5, 6, 7, 56] trivial ?_
               refine cn ?_ ?_
               ·intro h; try exact absurd h (by decide)
                try (exfalso; (try simp only [Bool.not_eq_eq_eq_not, Bool.not_true, Bool.not_false, decide_eq_false_iff_not, decide_eq_true_eq] at *); omega)
                all_goals
                 have hy : validB b = false := hno (by omega)
                 refine rg sound_nil [2] trivial ?_
                 first
                 | exact fz hy
               ·intro h; try exact absurd h (by decide)
                try (exfalso; (try simp only [Bool.not_eq_eq_eq_not, Bool.not_true, Bool.not_false, decide_eq_false_iff_not, decide_eq_true_eq] at *); omega)
                all_goals
                 refine rg sound_nil [0, 3, 5, 6, 7, 8] trivial ?_
                 refine nx ?_
                 refine VC.loopP (ι := Int × Int × Nat) [0, 3, 7] (fun z => [(5, .dat (.int .i64 z.1)), (6, .dat (.int .i64 z.2.1)), (8, .dat (.int .i64 (z.2.2 : Int)))]) (fun _ => []) (fun z => (1 ≤ z.2.2 ∧ z.2.2 ≤ 3) ∧ (z.2.2 = 1 ∧ z.1 = 128 ∧ z.2.1 = 159 ∨ (2 ≤ z.2.2 ∧ z.1 = 128 ∧ z.2.1 = 191 ∧ 128 ≤ ((b.getD (i + 1) 0).toNat : Int) ∧ ((b.getD (i + 1) 0).toNat : Int) ≤ 159 ∧ (3 ≤ z.2.2 → 128 ≤ ((b.getD (i + 2) 0).toNat : Int) ∧ ((b.getD (i + 2) 0).toNat : Int) ≤ 191) ∧ (4 ≤ z.2.2 → 128 ≤ ((b.getD (i + 3) 0).toNat : Int) ∧ ((b.getD (i + 3) 0).toNat : Int) ≤ 191)))) (fun z => 3 - z.2.2) (128, 159, 1) ⟨by dsimp only; omega, .inl ⟨rfl, rfl, rfl⟩⟩ ?_ ?_
                 ·refine Ent.to rfl rfl rfl ?_ ?_
                  ·simp -implicitDefEqProofs only [go_sem, Nat.reduceLT, Nat.reduceAdd, Nat.reduceEqDiff, reduceIte, Nat.reduceMul, Nat.reduceSub, reduceCtorEq, Int.reduceNe, Int.reduceEq, ne_eq, Nat.reduceLeDiff, Nat.reduceMod, Nat.reduceDiv]; (try simp only [D.dat.injEq, Vm.Data.int.injEq, true_and, and_true, and_self, eq_self]); (try omega); (try ((repeat' apply And.intro) <;> first | omega | rfl))
                  ·(repeat' (first | exact all_nil | (refine all_cons ?_ ?_))) <;> (simp -implicitDefEqProofs only [go_sem, Nat.reduceLT, Nat.reduceAdd, Nat.reduceEqDiff, reduceIte, Nat.reduceMul, Nat.reduceSub, reduceCtorEq, Int.reduceNe, Int.reduceEq, ne_eq, Nat.reduceLeDiff, Nat.reduceMod, Nat.reduceDiv]; (try rfl); skip)
                 rintro ⟨lo, hi, k⟩ hk; (try dsimp only at hk); obtain ⟨hk1, hk2⟩ := hk
                 refine st0 ?_
                 refine rg sound_nil [0, 3, 5, 6, 7, 8, 59] trivial ?_
                 refine cn ?_ ?_
                 ·intro h; try exact absurd h (by decide)
                  try (exfalso; (try simp only [Bool.not_eq_eq_eq_not, Bool.not_true, Bool.not_false, decide_eq_false_iff_not, decide_eq_true_eq] at *); omega)
                  all_goals
                   have hik : ((i : Int) + (k : Int)).toNat = i + k := by omega
                   have hxk : (b.getD (i + k) 0).toNat < 256 := (b.getD (i + k) 0).toNat_lt
                   refine rg sound_nil [0, 3, 5, 6, 7, 8, 9] hik ?_
                   refine rB sound_nil [0, 3, 7, 8, 76] trivial fun K' hK => ?_
                   repeat' first | (refine lf hK trivial ?_; clear hK K') | with_reducible apply And.intro | refine sA trivial (fun _ => ?_) fun _ => ?_ | refine sAb trivial (fun _ => ?_) fun _ => ?_ | refine sAl trivial (fun g => ?_) fun g => ?_ | exact sd | exact sde trivial | exact sdp trivial | refine stk trivial ?_ | fail
                   all_goals
                    refine cn ?_ ?_
                    ·intro h; try exact absurd h (by decide)
                     try (exfalso; (try simp only [Bool.not_eq_eq_eq_not, Bool.not_true, Bool.not_false, decide_eq_false_iff_not, decide_eq_true_eq] at *); omega)
                     all_goals
                      have hk3 : k = 1 ∨ k = 2 ∨ k = 3 := by omega
                      have hy : validB b = false := hno (by
                       rcases hk3 with rfl | rfl | rfl <;> omega)
                      refine rg sound_nil [2] trivial ?_
                      first
                      | exact fz hy
                    ·intro h; try exact absurd h (by decide)
                     try (exfalso; (try simp only [Bool.not_eq_eq_eq_not, Bool.not_true, Bool.not_false, decide_eq_false_iff_not, decide_eq_true_eq] at *); omega)
                     all_goals
                      refine rg sound_nil [0, 3, 5, 7, 8] trivial ?_
                      refine rgL sound_nil trivial ?_
                      refine rgL sound_nil trivial ?_
                      refine nx ?_
                      have hk3 : k = 1 ∨ k = 2 ∨ k = 3 := by omega
                      refine ⟨(128, 191, k + 1), ⟨by dsimp only; omega, .inr ?_⟩, ?_, by dsimp only; omega⟩
                      ·dsimp only
                       rcases hk3 with rfl | rfl | rfl <;> omega
                      ·refine Ent.to rfl rfl rfl ?_ ?_
                       ·simp -implicitDefEqProofs only [go_sem, Nat.reduceLT, Nat.reduceAdd, Nat.reduceEqDiff, reduceIte, Nat.reduceMul, Nat.reduceSub, reduceCtorEq, Int.reduceNe, Int.reduceEq, ne_eq, Nat.reduceLeDiff, Nat.reduceMod, Nat.reduceDiv]; (try simp only [D.dat.injEq, Vm.Data.int.injEq, true_and, and_true, and_self, eq_self]); (try omega); (try ((repeat' apply And.intro) <;> first | omega | rfl))
                       ·(repeat' (first | exact all_nil | (refine all_cons ?_ ?_))) <;> (simp -implicitDefEqProofs only [go_sem, Nat.reduceLT, Nat.reduceAdd, Nat.reduceEqDiff, reduceIte, Nat.reduceMul, Nat.reduceSub, reduceCtorEq, Int.reduceNe, Int.reduceEq, ne_eq, Nat.reduceLeDiff, Nat.reduceMod, Nat.reduceDiv]; (try rfl); skip)
                 ·intro h; try exact absurd h (by decide)
                  try (exfalso; (try simp only [Bool.not_eq_eq_eq_not, Bool.not_true, Bool.not_false, decide_eq_false_iff_not, decide_eq_true_eq] at *); omega)
                  all_goals
                   have hkn : k = 3 := by omega
                   have hq : ch8 (b.drop i) = 3 := hyes (by subst hkn; omega)
                   refine rgL sound_nil trivial ?_
                   refine nx ?_
                   exact ⟨i + 3, ⟨by omega, vd_next (by omega) hq hp.2⟩, et, by omega⟩
             ·intro h; try exact absurd h (by decide)
              try (exfalso; (try simp only [Bool.not_eq_eq_eq_not, Bool.not_true, Bool.not_false, decide_eq_false_iff_not, decide_eq_true_eq] at *); omega)
              all_goals
               have hc0 : c8 (b.drop i) 0 = (b.getD i 0).toNat := by rw [c8_drop]; rfl
               have hdl : (b.drop i).length = b.length - i := List.length_drop
               have hc1 : c8 (b.drop i) 1 = (b.getD (i + 1) 0).toNat := c8_drop
               have hc2 : c8 (b.drop i) 2 = (b.getD (i + 2) 0).toNat := c8_drop
               have hq0 : ch8 (b.drop i) = if 3 ≤ (b.drop i).length ∧ 128 ≤ c8 (b.drop i) 1 ∧ c8 (b.drop i) 1 ≤ 191 ∧ 128 ≤ c8 (b.drop i) 2 ∧ c8 (b.drop i) 2 ≤ 191 then 3 else 0 := by unfold ch8; rw [if_neg (by omega), if_neg (by omega), if_neg (by omega), if_pos (by omega), if_neg (show ¬ c8 (b.drop i) 0 = 224 by omega), if_neg (show ¬ c8 (b.drop i) 0 = 237 by omega)]
               have hno : ¬ (3 ≤ b.length - i ∧ 128 ≤ ((b.getD (i + 1) 0).toNat : Int) ∧ ((b.getD (i + 1) 0).toNat : Int) ≤ 191 ∧ 128 ≤ ((b.getD (i + 2) 0).toNat : Int) ∧ ((b.getD (i + 2) 0).toNat : Int) ≤ 191) → validB b = false := fun h => hp.2.symm.trans (validB_bad (by omega) (hq0.trans (if_neg (by omega))))
               have hyes : (3 ≤ b.length - i ∧ 128 ≤ ((b.getD (i + 1) 0).toNat : Int) ∧ ((b.getD (i + 1) 0).toNat : Int) ≤ 191 ∧ 128 ≤ ((b.getD (i + 2) 0).toNat : Int) ∧ ((b.getD (i + 2) 0).toNat : Int) ≤ 191) → ch8 (b.drop i) = 3 := fun h => hq0.trans (if_pos (by omega))
               refine rg sound_nil [0, 3, 5, 6, 7, 56] trivial ?_
               refine cn ?_ ?_
               ·intro h; try exact absurd h (by decide)
                try (exfalso; (try simp only [Bool.not_eq_eq_eq_not, Bool.not_true, Bool.not_false, decide_eq_false_iff_not, decide_eq_true_eq] at *); omega)
                all_goals
                 have hy : validB b = false := hno (by omega)
                 refine rg sound_nil [2] trivial ?_
                 first
                 | exact fz hy
               ·intro h; try exact absurd h (by decide)
                try (exfalso; (try simp only [Bool.not_eq_eq_eq_not, Bool.not_true, Bool.not_false, decide_eq_false_iff_not, decide_eq_true_eq] at *); omega)
                all_goals
                 refine rg sound_nil [0, 3, 5, 6, 7, 8] trivial ?_
                 refine nx ?_
                 refine VC.loopP (ι := Int × Int × Nat) [0, 3, 7] (fun z => [(5, .dat (.int .i64 z.1)), (6, .dat (.int .i64 z.2.1)), (8, .dat (.int .i64 (z.2.2 : Int)))]) (fun _ => []) (fun z => (1 ≤ z.2.2 ∧ z.2.2 ≤ 3) ∧ (z.2.2 = 1 ∧ z.1 = 128 ∧ z.2.1 = 191 ∨ (2 ≤ z.2.2 ∧ z.1 = 128 ∧ z.2.1 = 191 ∧ 128 ≤ ((b.getD (i + 1) 0).toNat : Int) ∧ ((b.getD (i + 1) 0).toNat : Int) ≤ 191 ∧ (3 ≤ z.2.2 → 128 ≤ ((b.getD (i + 2) 0).toNat : Int) ∧ ((b.getD (i + 2) 0).toNat : Int) ≤ 191) ∧ (4 ≤ z.2.2 → 128 ≤ ((b.getD (i + 3) 0).toNat : Int) ∧ ((b.getD (i + 3) 0).toNat : Int) ≤ 191)))) (fun z => 3 - z.2.2) (128, 191, 1) ⟨by dsimp only; omega, .inl ⟨rfl, rfl, rfl⟩⟩ ?_ ?_
                 ·refine Ent.to rfl rfl rfl ?_ ?_
                  ·simp -implicitDefEqProofs only [go_sem, Nat.reduceLT, Nat.reduceAdd, Nat.reduceEqDiff, reduceIte, Nat.reduceMul, Nat.reduceSub, reduceCtorEq, Int.reduceNe, Int.reduceEq, ne_eq, Nat.reduceLeDiff, Nat.reduceMod, Nat.reduceDiv]; (try simp only [D.dat.injEq, Vm.Data.int.injEq, true_and, and_true, and_self, eq_self]); (try omega); (try ((repeat' apply And.intro) <;> first | omega | rfl))
                  ·(repeat' (first | exact all_nil | (refine all_cons ?_ ?_))) <;> (simp -implicitDefEqProofs only [go_sem, Nat.reduceLT, Nat.reduceAdd, Nat.reduceEqDiff, reduceIte, Nat.reduceMul, Nat.reduceSub, reduceCtorEq, Int.reduceNe, Int.reduceEq, ne_eq, Nat.reduceLeDiff, Nat.reduceMod, Nat.reduceDiv]; (try rfl); skip)
                 rintro ⟨lo, hi, k⟩ hk; (try dsimp only at hk); obtain ⟨hk1, hk2⟩ := hk
                 refine st0 ?_
                 refine rg sound_nil [0, 3, 5, 6, 7, 8, 59] trivial ?_
                 refine cn ?_ ?_
                 ·intro h; try exact absurd h (by decide)
                  try (exfalso; (try simp only [Bool.not_eq_eq_eq_not, Bool.not_true, Bool.not_false, decide_eq_false_iff_not, decide_eq_true_eq] at *); omega)
                  all_goals
                   have hik : ((i : Int) + (k : Int)).toNat = i + k := by omega
                   have hxk : (b.getD (i + k) 0).toNat < 256 := (b.getD (i + k) 0).toNat_lt
                   refine rg sound_nil [0, 3, 5, 6, 7, 8, 9] hik ?_
                   refine rB sound_nil [0, 3, 7, 8, 76] trivial fun K' hK => ?_
                   repeat' first | (refine lf hK trivial ?_; clear hK K') | with_reducible apply And.intro | refine sA trivial (fun _ => ?_) fun _ => ?_ | refine sAb trivial (fun _ => ?_) fun _ => ?_ | refine sAl trivial (fun g => ?_) fun g => ?_ | exact sd | exact sde trivial | exact sdp trivial | refine stk trivial ?_ | fail
                   all_goals
                    refine cn ?_ ?_
                    ·intro h; try exact absurd h (by decide)
                     try (exfalso; (try simp only [Bool.not_eq_eq_eq_not, Bool.not_true, Bool.not_false, decide_eq_false_iff_not, decide_eq_true_eq] at *); omega)
                     all_goals
                      have hk3 : k = 1 ∨ k = 2 ∨ k = 3 := by omega
                      have hy : validB b = false := hno (by
                       rcases hk3 with rfl | rfl | rfl <;> omega)
                      refine rg sound_nil [2] trivial ?_
                      first
                      | exact fz hy
                    ·intro h; try exact absurd h (by decide)
                     try (exfalso; (try simp only [Bool.not_eq_eq_eq_not, Bool.not_true, Bool.not_false, decide_eq_false_iff_not, decide_eq_true_eq] at *); omega)
                     all_goals
                      refine rg sound_nil [0, 3, 5, 7, 8] trivial ?_
                      refine rgL sound_nil trivial ?_
                      refine rgL sound_nil trivial ?_
                      refine nx ?_
                      have hk3 : k = 1 ∨ k = 2 ∨ k = 3 := by omega
                      refine ⟨(128, 191, k + 1), ⟨by dsimp only; omega, .inr ?_⟩, ?_, by dsimp only; omega⟩
                      ·dsimp only
                       rcases hk3 with rfl | rfl | rfl <;> omega
                      ·refine Ent.to rfl rfl rfl ?_ ?_
                       ·simp -implicitDefEqProofs only [go_sem, Nat.reduceLT, Nat.reduceAdd, Nat.reduceEqDiff, reduceIte, Nat.reduceMul, Nat.reduceSub, reduceCtorEq, Int.reduceNe, Int.reduceEq, ne_eq, Nat.reduceLeDiff, Nat.reduceMod, Nat.reduceDiv]; (try simp only [D.dat.injEq, Vm.Data.int.injEq, true_and, and_true, and_self, eq_self]); (try omega); (try ((repeat' apply And.intro) <;> first | omega | rfl))
                       ·(repeat' (first | exact all_nil | (refine all_cons ?_ ?_))) <;> (simp -implicitDefEqProofs only [go_sem, Nat.reduceLT, Nat.reduceAdd, Nat.reduceEqDiff, reduceIte, Nat.reduceMul, Nat.reduceSub, reduceCtorEq, Int.reduceNe, Int.reduceEq, ne_eq, Nat.reduceLeDiff, Nat.reduceMod, Nat.reduceDiv]; (try rfl); skip)
                 ·intro h; try exact absurd h (by decide)
                  try (exfalso; (try simp only [Bool.not_eq_eq_eq_not, Bool.not_true, Bool.not_false, decide_eq_false_iff_not, decide_eq_true_eq] at *); omega)
                  all_goals
                   have hkn : k = 3 := by omega
                   have hq : ch8 (b.drop i) = 3 := hyes (by subst hkn; omega)
                   refine rgL sound_nil trivial ?_
                   refine nx ?_
                   exact ⟨i + 3, ⟨by omega, vd_next (by omega) hq hp.2⟩, et, by omega⟩
         ·intro h; try exact absurd h (by decide)
          try (exfalso; (try simp only [Bool.not_eq_eq_eq_not, Bool.not_true, Bool.not_false, decide_eq_false_iff_not, decide_eq_true_eq] at *); omega)
          all_goals
           refine rB sound_nil [0, 3, 4, 5, 6, 40] trivial fun K' hK => ?_
           repeat' first | (refine lf hK trivial ?_; clear hK K') | with_reducible apply And.intro | refine sA trivial (fun _ => ?_) fun _ => ?_ | refine sAb trivial (fun _ => ?_) fun _ => ?_ | refine sAl trivial (fun g => ?_) fun g => ?_ | exact sd | exact sde trivial | exact sdp trivial | refine stk trivial ?_ | fail
           all_goals
            refine cn ?_ ?_
            ·intro h; try exact absurd h (by decide)
             try (exfalso; (try simp only [Bool.not_eq_eq_eq_not, Bool.not_true, Bool.not_false, decide_eq_false_iff_not, decide_eq_true_eq] at *); omega)
             all_goals
              refine rg sound_nil [0, 3, 4, 5, 6, 7] trivial ?_
              refine rg sound_nil [0, 3, 4, 5, 6, 7, 48] trivial ?_
              refine cn ?_ ?_
              ·intro h; try exact absurd h (by decide)
               try (exfalso; (try simp only [Bool.not_eq_eq_eq_not, Bool.not_true, Bool.not_false, decide_eq_false_iff_not, decide_eq_true_eq] at *); omega)
               all_goals
                refine rgL sound_nil trivial ?_
                refine rg sound_nil [0, 3, 5, 6, 7, 50] trivial ?_
                refine cn ?_ ?_
                ·intro h; try exact absurd h (by decide)
                 try (exfalso; (try simp only [Bool.not_eq_eq_eq_not, Bool.not_true, Bool.not_false, decide_eq_false_iff_not, decide_eq_true_eq] at *); omega)
                 all_goals
                  refine rgL sound_nil trivial ?_
                  have hc0 : c8 (b.drop i) 0 = (b.getD i 0).toNat := by rw [c8_drop]; rfl
                  have hdl : (b.drop i).length = b.length - i := List.length_drop
                  have hc1 : c8 (b.drop i) 1 = (b.getD (i + 1) 0).toNat := c8_drop
                  have hc2 : c8 (b.drop i) 2 = (b.getD (i + 2) 0).toNat := c8_drop
                  have hc3 : c8 (b.drop i) 3 = (b.getD (i + 3) 0).toNat := c8_drop
                  have hq0 : ch8 (b.drop i) = if 4 ≤ (b.drop i).length ∧ 144 ≤ c8 (b.drop i) 1 ∧ c8 (b.drop i) 1 ≤ 143 ∧ 128 ≤ c8 (b.drop i) 2 ∧ c8 (b.drop i) 2 ≤ 191 ∧ 128 ≤ c8 (b.drop i) 3 ∧ c8 (b.drop i) 3 ≤ 191 then 4 else 0 := by unfold ch8; rw [if_neg (by omega), if_neg (by omega), if_neg (by omega), if_neg (by omega), if_pos (by omega), if_pos (show c8 (b.drop i) 0 = 240 by omega), if_pos (show c8 (b.drop i) 0 = 244 by omega)]
                  have hno : ¬ (4 ≤ b.length - i ∧ 144 ≤ ((b.getD (i + 1) 0).toNat : Int) ∧ ((b.getD (i + 1) 0).toNat : Int) ≤ 143 ∧ 128 ≤ ((b.getD (i + 2) 0).toNat : Int) ∧ ((b.getD (i + 2) 0).toNat : Int) ≤ 191 ∧ 128 ≤ ((b.getD (i + 3) 0).toNat : Int) ∧ ((b.getD (i + 3) 0).toNat : Int) ≤ 191) → validB b = false := fun h => hp.2.symm.trans (validB_bad (by omega) (hq0.trans (if_neg (by omega))))
                  have hyes : (4 ≤ b.length - i ∧ 144 ≤ ((b.getD (i + 1) 0).toNat : Int) ∧ ((b.getD (i + 1) 0).toNat : Int) ≤ 143 ∧ 128 ≤ ((b.getD (i + 2) 0).toNat : Int) ∧ ((b.getD (i + 2) 0).toNat : Int) ≤ 191 ∧ 128 ≤ ((b.getD (i + 3) 0).toNat : Int) ∧ ((b.getD (i + 3) 0).toNat : Int) ≤ 191) → ch8 (b.drop i) = 4 := fun h => hq0.trans (if_pos (by omega))
                  refine rg sound_nil [0, 3, 5, 6, 7, 56] trivial ?_
                  refine cn ?_ ?_
                  ·intro h; try exact absurd h (by decide)
                   try (exfalso; (try simp only [Bool.not_eq_eq_eq_not, Bool.not_true, Bool.not_false, decide_eq_false_iff_not, decide_eq_true_eq] at *); omega)
                   all_goals
                    have hy : validB b = false := hno (by omega)
                    refine rg sound_nil [2] trivial ?_
                    first
                    | exact fz hy
                  ·intro h; try exact absurd h (by decide)
                   try (exfalso; (try simp only [Bool.not_eq_eq_eq_not, Bool.not_true, Bool.not_false, decide_eq_false_iff_not, decide_eq_true_eq] at *); omega)
                   all_goals
                    refine rg sound_nil [0, 3, 5, 6, 7, 8] trivial ?_
                    refine nx ?_
                    refine VC.loopP (ι := Int × Int × Nat) [0, 3, 7] (fun z => [(5, .dat (.int .i64 z.1)), (6, .dat (.int .i64 z.2.1)), (8, .dat (.int .i64 (z.2.2 : Int)))]) (fun _ => []) (fun z => (1 ≤ z.2.2 ∧ z.2.2 ≤ 4) ∧ (z.2.2 = 1 ∧ z.1 = 144 ∧ z.2.1 = 143 ∨ (2 ≤ z.2.2 ∧ z.1 = 128 ∧ z.2.1 = 191 ∧ 144 ≤ ((b.getD (i + 1) 0).toNat : Int) ∧ ((b.getD (i + 1) 0).toNat : Int) ≤ 143 ∧ (3 ≤ z.2.2 → 128 ≤ ((b.getD (i + 2) 0).toNat : Int) ∧ ((b.getD (i + 2) 0).toNat : Int) ≤ 191) ∧ (4 ≤ z.2.2 → 128 ≤ ((b.getD (i + 3) 0).toNat : Int) ∧ ((b.getD (i + 3) 0).toNat : Int) ≤ 191)))) (fun z => 4 - z.2.2) (144, 143, 1) ⟨by dsimp only; omega, .inl ⟨rfl, rfl, rfl⟩⟩ ?_ ?_
                    ·refine Ent.to rfl rfl rfl ?_ ?_
                     ·simp -implicitDefEqProofs only [go_sem, Nat.reduceLT, Nat.reduceAdd, Nat.reduceEqDiff, reduceIte, Nat.reduceMul, Nat.reduceSub, reduceCtorEq, Int.reduceNe, Int.reduceEq, ne_eq, Nat.reduceLeDiff, Nat.reduceMod, Nat.reduceDiv]; (try simp only [D.dat.injEq, Vm.Data.int.injEq, true_and, and_true, and_self, eq_self]); (try omega); (try ((repeat' apply And.intro) <;> first | omega | rfl))
                     ·(repeat' (first | exact all_nil | (refine all_cons ?_ ?_))) <;> (simp -implicitDefEqProofs only [go_sem, Nat.reduceLT, Nat.reduceAdd, Nat.reduceEqDiff, reduceIte, Nat.reduceMul, Nat.reduceSub, reduceCtorEq, Int.reduceNe, Int.reduceEq, ne_eq, Nat.reduceLeDiff, Nat.reduceMod, Nat.reduceDiv]; (try rfl); skip)
                    rintro ⟨lo, hi, k⟩ hk; (try dsimp only at hk); obtain ⟨hk1, hk2⟩ := hk
                    refine st0 ?_
                    refine rg sound_nil [0, 3, 5, 6, 7, 8, 59] trivial ?_
                    refine cn ?_ ?_
                    ·intro h; try exact absurd h (by decide)
                     try (exfalso; (try simp only [Bool.not_eq_eq_eq_not, Bool.not_true, Bool.not_false, decide_eq_false_iff_not, decide_eq_true_eq] at *); omega)
                     all_goals
                      have hik : ((i : Int) + (k : Int)).toNat = i + k := by omega
                      have hxk : (b.getD (i + k) 0).toNat < 256 := (b.getD (i + k) 0).toNat_lt
                      refine rg sound_nil [0, 3, 5, 6, 7, 8, 9] hik ?_
                      refine rB sound_nil [0, 3, 7, 8, 76] trivial fun K' hK => ?_
                      repeat' first | (refine lf hK trivial ?_; clear hK K') | with_reducible apply And.intro | refine sA trivial (fun _ => ?_) fun _ => ?_ | refine sAb trivial (fun _ => ?_) fun _ => ?_ | refine sAl trivial (fun g => ?_) fun g => ?_ | exact sd | exact sde trivial | exact sdp trivial | refine stk trivial ?_ | fail
                      all_goals
                       refine cn ?_ ?_
                       ·intro h; try exact absurd h (by decide)
                        try (exfalso; (try simp only [Bool.not_eq_eq_eq_not, Bool.not_true, Bool.not_false, decide_eq_false_iff_not, decide_eq_true_eq] at *); omega)
                        all_goals
                         have hk3 : k = 1 ∨ k = 2 ∨ k = 3 := by omega
                         have hy : validB b = false := hno (by
                          rcases hk3 with rfl | rfl | rfl <;> omega)
                         refine rg sound_nil [2] trivial ?_
                         first
                         | exact fz hy
                       ·intro h; try exact absurd h (by decide)
                        try (exfalso; (try simp only [Bool.not_eq_eq_eq_not, Bool.not_true, Bool.not_false, decide_eq_false_iff_not, decide_eq_true_eq] at *); omega)
                        all_goals
                         refine rg sound_nil [0, 3, 5, 7, 8] trivial ?_
                         refine rgL sound_nil trivial ?_
                         refine rgL sound_nil trivial ?_
                         refine nx ?_
                         have hk3 : k = 1 ∨ k = 2 ∨ k = 3 := by omega
                         refine ⟨(128, 191, k + 1), ⟨by dsimp only; omega, .inr ?_⟩, ?_, by dsimp only; omega⟩
                         ·dsimp only
                          rcases hk3 with rfl | rfl | rfl <;> omega
                         ·refine Ent.to rfl rfl rfl ?_ ?_
                          ·simp -implicitDefEqProofs only [go_sem, Nat.reduceLT, Nat.reduceAdd, Nat.reduceEqDiff, reduceIte, Nat.reduceMul, Nat.reduceSub, reduceCtorEq, Int.reduceNe, Int.reduceEq, ne_eq, Nat.reduceLeDiff, Nat.reduceMod, Nat.reduceDiv]; (try simp only [D.dat.injEq, Vm.Data.int.injEq, true_and, and_true, and_self, eq_self]); (try omega); (try ((repeat' apply And.intro) <;> first | omega | rfl))
                          ·(repeat' (first | exact all_nil | (refine all_cons ?_ ?_))) <;> (simp -implicitDefEqProofs only [go_sem, Nat.reduceLT, Nat.reduceAdd, Nat.reduceEqDiff, reduceIte, Nat.reduceMul, Nat.reduceSub, reduceCtorEq, Int.reduceNe, Int.reduceEq, ne_eq, Nat.reduceLeDiff, Nat.reduceMod, Nat.reduceDiv]; (try rfl); skip)
                    ·intro h; try exact absurd h (by decide)
                     try (exfalso; (try simp only [Bool.not_eq_eq_eq_not, Bool.not_true, Bool.not_false, decide_eq_false_iff_not, decide_eq_true_eq] at *); omega)
                     all_goals
                      have hkn : k = 4 := by omega
                      have hq : ch8 (b.drop i) = 4 := hyes (by subst hkn; omega)
                      refine rgL sound_nil trivial ?_
                      refine nx ?_
                      exact ⟨i + 4, ⟨by omega, vd_next (by omega) hq hp.2⟩, et, by omega⟩
                ·intro h; try exact absurd h (by decide)
                 try (exfalso; (try simp only [Bool.not_eq_eq_eq_not, Bool.not_true, Bool.not_false, decide_eq_false_iff_not, decide_eq_true_eq] at *); omega)
                 all_goals
                  have hc0 : c8 (b.drop i) 0 = (b.getD i 0).toNat := by rw [c8_drop]; rfl
                  have hdl : (b.drop i).length = b.length - i := List.length_drop
                  have hc1 : c8 (b.drop i) 1 = (b.getD (i + 1) 0).toNat := c8_drop
                  have hc2 : c8 (b.drop i) 2 = (b.getD (i + 2) 0).toNat := c8_drop
                  have hc3 : c8 (b.drop i) 3 = (b.getD (i + 3) 0).toNat := c8_drop
                  have hq0 : ch8 (b.drop i) = if 4 ≤ (b.drop i).length ∧ 144 ≤ c8 (b.drop i) 1 ∧ c8 (b.drop i) 1 ≤ 191 ∧ 128 ≤ c8 (b.drop i) 2 ∧ c8 (b.drop i) 2 ≤ 191 ∧ 128 ≤ c8 (b.drop i) 3 ∧ c8 (b.drop i) 3 ≤ 191 then 4 else 0 := by unfold ch8; rw [if_neg (by omega), if_neg (by omega), if_neg (by omega), if_neg (by omega), if_pos (by omega), if_pos (show c8 (b.drop i) 0 = 240 by omega), if_neg (show ¬ c8 (b.drop i) 0 = 244 by omega)]
                  have hno : ¬ (4 ≤ b.length - i ∧ 144 ≤ ((b.getD (i + 1) 0).toNat : Int) ∧ ((b.getD (i + 1) 0).toNat : Int) ≤ 191 ∧ 128 ≤ ((b.getD (i + 2) 0).toNat : Int) ∧ ((b.getD (i + 2) 0).toNat : Int) ≤ 191 ∧ 128 ≤ ((b.getD (i + 3) 0).toNat : Int) ∧ ((b.getD (i + 3) 0).toNat : Int) ≤ 191) → validB b = false := fun h => hp.2.symm.trans (validB_bad (by omega) (hq0.trans (if_neg (by omega))))
                  have hyes : (4 ≤ b.length - i ∧ 144 ≤ ((b.getD (i + 1) 0).toNat : Int) ∧ ((b.getD (i + 1) 0).toNat : Int) ≤ 191 ∧ 128 ≤ ((b.getD (i + 2) 0).toNat : Int) ∧ ((b.getD (i + 2) 0).toNat : Int) ≤ 191 ∧ 128 ≤ ((b.getD (i + 3) 0).toNat : Int) ∧ ((b.getD (i + 3) 0).toNat : Int) ≤ 191) → ch8 (b.drop i) = 4 := fun h => hq0.trans (if_pos (by omega))
                  refine rg sound_nil [0, 3, 5, 6, 7, 56] trivial ?_
                  refine cn ?_ ?_
                  ·intro h; try exact absurd h (by decide)
                   try (exfalso; (try simp only [Bool.not_eq_eq_eq_not, Bool.not_true, Bool.not_false, decide_eq_false_iff_not, decide_eq_true_eq] at *); omega)
                   all_goals
                    have hy : validB b = false := hno (by omega)
                    refine rg sound_nil [2] trivial ?_
                    first
                    | exact fz hy
                  ·intro h; try exact absurd h (by decide)
                   try (exfalso; (try simp only [Bool.not_eq_eq_eq_not, Bool.not_true, Bool.not_false, decide_eq_false_iff_not, decide_eq_true_eq] at *); omega)
                   all_goals
                    refine rg sound_nil [0, 3, 5, 6, 7, 8] trivial ?_
                    refine nx ?_
                    refine VC.loopP (ι := Int × Int × Nat) [0, 3, 7] (fun z => [(5, .dat (.int .i64 z.1)), (6, .dat (.int .i64 z.2.1)), (8, .dat (.int .i64 (z.2.2 : Int)))]) (fun _ => []) (fun z => (1 ≤ z.2.2 ∧ z.2.2 ≤ 4) ∧ (z.2.2 = 1 ∧ z.1 = 144 ∧ z.2.1 = 191 ∨ (2 ≤ z.2.2 ∧ z.1 = 128 ∧ z.2.1 = 191 ∧ 144 ≤ ((b.getD (i + 1) 0).toNat : Int) ∧ ((b.getD (i + 1) 0).toNat : Int) ≤ 191 ∧ (3 ≤ z.2.2 → 128 ≤ ((b.getD (i + 2) 0).toNat : Int) ∧ ((b.getD (i + 2) 0).toNat : Int) ≤ 191) ∧ (4 ≤ z.2.2 → 128 ≤ ((b.getD (i + 3) 0).toNat : Int) ∧ ((b.getD (i + 3) 0).toNat : Int) ≤ 191)))) (fun z => 4 - z.2.2) (144, 191, 1) ⟨by dsimp only; omega, .inl ⟨rfl, rfl, rfl⟩⟩ ?_ ?_
                    ·refine Ent.to rfl rfl rfl ?_ ?_
                     ·simp -implicitDefEqProofs only [go_sem, Nat.reduceLT, Nat.reduceAdd, Nat.reduceEqDiff, reduceIte, Nat.reduceMul, Nat.reduceSub, reduceCtorEq, Int.reduceNe, Int.reduceEq, ne_eq, Nat.reduceLeDiff, Nat.reduceMod, Nat.reduceDiv]; (try simp only [D.dat.injEq, Vm.Data.int.injEq, true_and, and_true, and_self, eq_self]); (try omega); (try ((repeat' apply And.intro) <;> first | omega | rfl))
                     ·(repeat' (first | exact all_nil | (refine all_cons ?_ ?_))) <;> (simp -implicitDefEqProofs only [go_sem, Nat.reduceLT, Nat.reduceAdd, Nat.reduceEqDiff, reduceIte, Nat.reduceMul, Nat.reduceSub, reduceCtorEq, Int.reduceNe, Int.reduceEq, ne_eq, Nat.reduceLeDiff, Nat.reduceMod, Nat.reduceDiv]; (try rfl); skip)
                    rintro ⟨lo, hi, k⟩ hk; (try dsimp only at hk); obtain ⟨hk1, hk2⟩ := hk
                    refine st0 ?_
                    refine rg sound_nil [0, 3, 5, 6, 7, 8, 59] trivial ?_
                    refine cn ?_ ?_
                    ·intro h; try exact absurd h (by decide)
                     try (exfalso; (try simp only [Bool.not_eq_eq_eq_not, Bool.not_true, Bool.not_false, decide_eq_false_iff_not, decide_eq_true_eq] at *); omega)
                     all_goals
                      have hik : ((i : Int) + (k : Int)).toNat = i + k := by omega
                      have hxk : (b.getD (i + k) 0).toNat < 256 := (b.getD (i + k) 0).toNat_lt
                      refine rg sound_nil [0, 3, 5, 6, 7, 8, 9] hik ?_
                      refine rB sound_nil [0, 3, 7, 8, 76] trivial fun K' hK => ?_
                      repeat' first | (refine lf hK trivial ?_; clear hK K') | with_reducible apply And.intro | refine sA trivial (fun _ => ?_) fun _ => ?_ | refine sAb trivial (fun _ => ?_) fun _ => ?_ | refine sAl trivial (fun g => ?_) fun g => ?_ | exact sd | exact sde trivial | exact sdp trivial | refine stk trivial ?_ | fail
                      all_goals
                       refine cn ?_ ?_
                       ·intro h; try exact absurd h (by decide)
                        try (exfalso; (try simp only [Bool.not_eq_eq_eq_not, Bool.not_true, Bool.not_false, decide_eq_false_iff_not, decide_eq_true_eq] at *); omega)
                        all_goals
                         have hk3 : k = 1 ∨ k = 2 ∨ k = 3 := by omega
                         have hy : validB b = false := hno (by
                          rcases hk3 with rfl | rfl | rfl <;> omega)
                         refine rg sound_nil [2] trivial ?_
                         first
                         | exact fz hy
                       ·intro h; try exact absurd h (by decide)
                        try (exfalso; (try simp only [Bool.not_eq_eq_eq_not, Bool.not_true, Bool.not_false, decide_eq_false_iff_not, decide_eq_true_eq] at *); omega)
                        all_goals
                         refine rg sound_nil [0, 3, 5, 7, 8] trivial ?_
                         refine rgL sound_nil trivial ?_
                         refine rgL sound_nil trivial ?_
                         refine nx ?_
                         have hk3 : k = 1 ∨ k = 2 ∨ k = 3 := by omega
                         refine ⟨(128, 191, k + 1), ⟨by dsimp only; omega, .inr ?_⟩, ?_, by dsimp only; omega⟩
                         ·dsimp only
                          rcases hk3 with rfl | rfl | rfl <;> omega
                         ·refine Ent.to rfl rfl rfl ?_ ?_
                          ·simp -implicitDefEqProofs only [go_sem, Nat.reduceLT, Nat.reduceAdd, Nat.reduceEqDiff, reduceIte, Nat.reduceMul, Nat.reduceSub, reduceCtorEq, Int.reduceNe, Int.reduceEq, ne_eq, Nat.reduceLeDiff, Nat.reduceMod, Nat.reduceDiv]; (try simp only [D.dat.injEq, Vm.Data.int.injEq, true_and, and_true, and_self, eq_self]); (try omega); (try ((repeat' apply And.intro) <;> first | omega | rfl))
                          ·(repeat' (first | exact all_nil | (refine all_cons ?_ ?_))) <;> (simp -implicitDefEqProofs only [go_sem, Nat.reduceLT, Nat.reduceAdd, Nat.reduceEqDiff, reduceIte, Nat.reduceMul, Nat.reduceSub, reduceCtorEq, Int.reduceNe, Int.reduceEq, ne_eq, Nat.reduceLeDiff, Nat.reduceMod, Nat.reduceDiv]; (try rfl); skip)
                    ·intro h; try exact absurd h (by decide)
                     try (exfalso; (try simp only [Bool.not_eq_eq_eq_not, Bool.not_true, Bool.not_false, decide_eq_false_iff_not, decide_eq_true_eq] at *); omega)
                     all_goals
                      have hkn : k = 4 := by omega
                      have hq : ch8 (b.drop i) = 4 := hyes (by subst hkn; omega)
                      refine rgL sound_nil trivial ?_
                      refine nx ?_
                      exact ⟨i + 4, ⟨by omega, vd_next (by omega) hq hp.2⟩, et, by omega⟩
              ·intro h; try exact absurd h (by decide)
               try (exfalso; (try simp only [Bool.not_eq_eq_eq_not, Bool.not_true, Bool.not_false, decide_eq_false_iff_not, decide_eq_true_eq] at *); omega)
               all_goals
                refine rg sound_nil [0, 3, 5, 6, 7, 50] trivial ?_
                refine cn ?_ ?_
                ·intro h; try exact absurd h (by decide)
                 try (exfalso; (try simp only [Bool.not_eq_eq_eq_not, Bool.not_true, Bool.not_false, decide_eq_false_iff_not, decide_eq_true_eq] at *); omega)
                 all_goals
                  refine rgL sound_nil trivial ?_
                  have hc0 : c8 (b.drop i) 0 = (b.getD i 0).toNat := by rw [c8_drop]; rfl
                  have hdl : (b.drop i).length = b.length - i := List.length_drop
                  have hc1 : c8 (b.drop i) 1 = (b.getD (i + 1) 0).toNat := c8_drop
                  have hc2 : c8 (b.drop i) 2 = (b.getD (i + 2) 0).toNat := c8_drop
                  have hc3 : c8 (b.drop i) 3 = (b.getD (i + 3) 0).toNat := c8_drop
                  have hq0 : ch8 (b.drop i) = if 4 ≤ (b.drop i).length ∧ 128 ≤ c8 (b.drop i) 1 ∧ c8 (b.drop i) 1 ≤ 143 ∧ 128 ≤ c8 (b.drop i) 2 ∧ c8 (b.drop i) 2 ≤ 191 ∧ 128 ≤ c8 (b.drop i) 3 ∧ c8 (b.drop i) 3 ≤ 191 then 4 else 0 := by unfold ch8; rw [if_neg (by omega), if_neg (by omega), if_neg (by omega), if_neg (by omega), if_pos (by omega), if_neg (show ¬ c8 (b.drop i) 0 = 240 by omega), if_pos (show c8 (b.drop i) 0 = 244 by omega)]
                  have hno : ¬ (4 ≤ b.length - i ∧ 128 ≤ ((b.getD (i + 1) 0).toNat : Int) ∧ ((b.getD (i + 1) 0).toNat : Int) ≤ 143 ∧ 128 ≤ ((b.getD (i + 2) 0).toNat : Int) ∧ ((b.getD (i + 2) 0).toNat : Int) ≤ 191 ∧ 128 ≤ ((b.getD (i + 3) 0).toNat : Int) ∧ ((b.getD (i + 3) 0).toNat : Int) ≤ 191) → validB b = false := fun h => hp.2.symm.trans (validB_bad (by omega) (hq0.trans (if_neg (by omega))))
                  have hyes : (4 ≤ b.length - i ∧ 128 ≤ ((b.getD (i + 1) 0).toNat : Int) ∧ ((b.getD (i + 1) 0).toNat : Int) ≤ 143 ∧ 128 ≤ ((b.getD (i + 2) 0).toNat : Int) ∧ ((b.getD (i + 2) 0).toNat : Int) ≤ 191 ∧ 128 ≤ ((b.getD (i + 3) 0).toNat : Int) ∧ ((b.getD (i + 3) 0).toNat : Int) ≤ 191) → ch8 (b.drop i) = 4 := fun h => hq0.trans (if_pos (by omega))
                  refine rg sound_nil [0, 3, 5, 6, 7, 56] trivial ?_
                  refine cn ?_ ?_
                  ·intro h; try exact absurd h (by decide)
                   try (exfalso; (try simp only [Bool.not_eq_eq_eq_not, Bool.not_true, Bool.not_false, decide_eq_false_iff_not, decide_eq_true_eq] at *); omega)
                   all_goals
                    have hy : validB b = false := hno (by omega)
                    refine rg sound_nil [2] trivial ?_
                    first
                    | exact fz hy
                  ·intro h; try exact absurd h (by decide)
                   try (exfalso; (try simp only [Bool.not_eq_eq_eq_not, Bool.not_true, Bool.not_false, decide_eq_false_iff_not, decide_eq_true_eq] at *); omega)
                   all_goals
                    refine rg sound_nil [0, 3, 5, 6, 7, 8] trivial ?_
                    refine nx ?_
                    refine VC.loopP (ι := Int × Int × Nat) [0, 3, 7] (fun z => [(5, .dat (.int .i64 z.1)), (6, .dat (.int .i64 z.2.1)), (8, .dat (.int .i64 (z.2.2 : Int)))]) (fun _ => []) (fun z => (1 ≤ z.2.2 ∧ z.2.2 ≤ 4) ∧ (z.2.2 = 1 ∧ z.1 = 128 ∧ z.2.1 = 143 ∨ (2 ≤ z.2.2 ∧ z.1 = 128 ∧ z.2.1 = 191 ∧ 128 ≤ ((b.getD (i + 1) 0).toNat : Int) ∧ ((b.getD (i + 1) 0).toNat : Int) ≤ 143 ∧ (3 ≤ z.2.2 → 128 ≤ ((b.getD (i + 2) 0).toNat : Int) ∧ ((b.getD (i + 2) 0).toNat : Int) ≤ 191) ∧ (4 ≤ z.2.2 → 128 ≤ ((b.getD (i + 3) 0).toNat : Int) ∧ ((b.getD (i + 3) 0).toNat : Int) ≤ 191)))) (fun z => 4 - z.2.2) (128, 143, 1) ⟨by dsimp only; omega, .inl ⟨rfl, rfl, rfl⟩⟩ ?_ ?_
                    ·refine Ent.to rfl rfl rfl ?_ ?_
                     ·simp -implicitDefEqProofs only [go_sem, Nat.reduceLT, Nat.reduceAdd, Nat.reduceEqDiff, reduceIte, Nat.reduceMul, Nat.reduceSub, reduceCtorEq, Int.reduceNe, Int.reduceEq, ne_eq, Nat.reduceLeDiff, Nat.reduceMod, Nat.reduceDiv]; (try simp only [D.dat.injEq, Vm.Data.int.injEq, true_and, and_true, and_self, eq_self]); (try omega); (try ((repeat' apply And.intro) <;> first | omega | rfl))
                     ·(repeat' (first | exact all_nil | (refine all_cons ?_ ?_))) <;> (simp -implicitDefEqProofs only [go_sem, Nat.reduceLT, Nat.reduceAdd, Nat.reduceEqDiff, reduceIte, Nat.reduceMul, Nat.reduceSub, reduceCtorEq, Int.reduceNe, Int.reduceEq, ne_eq, Nat.reduceLeDiff, Nat.reduceMod, Nat.reduceDiv]; (try rfl); skip)
                    rintro ⟨lo, hi, k⟩ hk; (try dsimp only at hk); obtain ⟨hk1, hk2⟩ := hk
                    refine st0 ?_
                    refine rg sound_nil [0, 3, 5, 6, 7, 8, 59] trivial ?_
                    refine cn ?_ ?_
                    ·intro h; try exact absurd h (by decide)
                     try (exfalso; (try simp only [Bool.not_eq_eq_eq_not, Bool.not_true, Bool.not_false, decide_eq_false_iff_not, decide_eq_true_eq] at *); omega)
                     all_goals
                      have hik : ((i : Int) + (k : Int)).toNat = i + k := by omega
                      have hxk : (b.getD (i + k) 0).toNat < 256 := (b.getD (i + k) 0).toNat_lt
                      refine rg sound_nil [0, 3, 5, 6, 7, 8, 9] hik ?_
                      refine rB sound_nil [0, 3, 7, 8, 76] trivial fun K' hK => ?_
                      repeat' first | (refine lf hK trivial ?_; clear hK K') | with_reducible apply And.intro | refine sA trivial (fun _ => ?_) fun _ => ?_ | refine sAb trivial (fun _ => ?_) fun _ => ?_ | refine sAl trivial (fun g => ?_) fun g => ?_ | exact sd | exact sde trivial | exact sdp trivial | refine stk trivial ?_ | fail
                      all_goals
                       refine cn ?_ ?_
                       ·intro h; try exact absurd h (by decide)
                        try (exfalso; (try simp only [Bool.not_eq_eq_eq_not, Bool.not_true, Bool.not_false, decide_eq_false_iff_not, decide_eq_true_eq] at *); omega)
                        all_goals
                         have hk3 : k = 1 ∨ k = 2 ∨ k = 3 := by omega
                         have hy : validB b = false := hno (by
                          rcases hk3 with rfl | rfl | rfl <;> omega)
                         refine rg sound_nil [2] trivial ?_
                         first
                         | exact fz hy
                       ·intro h; try exact absurd h (by decide)
                        try (exfalso; (try simp only [Bool.not_eq_eq_eq_not, Bool.not_true, Bool.not_false, decide_eq_false_iff_not, decide_eq_true_eq] at *); omega)
                        all_goals
                         refine rg sound_nil [0, 3, 5, 7, 8] trivial ?_
                         refine rgL sound_nil trivial ?_
                         refine rgL sound_nil trivial ?_
                         refine nx ?_
                         have hk3 : k = 1 ∨ k = 2 ∨ k = 3 := by omega
                         refine ⟨(128, 191, k + 1), ⟨by dsimp only; omega, .inr ?_⟩, ?_, by dsimp only; omega⟩
                         ·dsimp only
                          rcases hk3 with rfl | rfl | rfl <;> omega
                         ·refine Ent.to rfl rfl rfl ?_ ?_
                          ·simp -implicitDefEqProofs only [go_sem, Nat.reduceLT, Nat.reduceAdd, Nat.reduceEqDiff, reduceIte, Nat.reduceMul, Nat.reduceSub, reduceCtorEq, Int.reduceNe, Int.reduceEq, ne_eq, Nat.reduceLeDiff, Nat.reduceMod, Nat.reduceDiv]; (try simp only [D.dat.injEq, Vm.Data.int.injEq, true_and, and_true, and_self, eq_self]); (try omega); (try ((repeat' apply And.intro) <;> first | omega | rfl))
                          ·(repeat' (first | exact all_nil | (refine all_cons ?_ ?_))) <;> (simp -implicitDefEqProofs only [go_sem, Nat.reduceLT, Nat.reduceAdd, Nat.reduceEqDiff, reduceIte, Nat.reduceMul, Nat.reduceSub, reduceCtorEq, Int.reduceNe, Int.reduceEq, ne_eq, Nat.reduceLeDiff, Nat.reduceMod, Nat.reduceDiv]; (try rfl); skip)
                    ·intro h; try exact absurd h (by decide)
                     try (exfalso; (try simp only [Bool.not_eq_eq_eq_not, Bool.not_true, Bool.not_false, decide_eq_false_iff_not, decide_eq_true_eq] at *); omega)
                     all_goals
                      have hkn : k = 4 := by omega
                      have hq : ch8 (b.drop i) = 4 := hyes (by subst hkn; omega)
                      refine rgL sound_nil trivial ?_
                      refine nx ?_
                      exact ⟨i + 4, ⟨by omega, vd_next (by omega) hq hp.2⟩, et, by omega⟩
                ·intro h; try exact absurd h (by decide)
                 try (exfalso; (try simp only [Bool.not_eq_eq_eq_not, Bool.not_true, Bool.not_false, decide_eq_false_iff_not, decide_eq_true_eq] at *); omega)
                 all_goals
                  have hc0 : c8 (b.drop i) 0 = (b.getD i 0).toNat := by rw [c8_drop]; rfl
                  have hdl : (b.drop i).length = b.length - i := List.length_drop
                  have hc1 : c8 (b.drop i) 1 = (b.getD (i + 1) 0).toNat := c8_drop
                  have hc2 : c8 (b.drop i) 2 = (b.getD (i + 2) 0).toNat := c8_drop
                  have hc3 : c8 (b.drop i) 3 = (b.getD (i + 3) 0).toNat := c8_drop
                  have hq0 : ch8 (b.drop i) = if 4 ≤ (b.drop i).length ∧ 128 ≤ c8 (b.drop i) 1 ∧ c8 (b.drop i) 1 ≤ 191 ∧ 128 ≤ c8 (b.drop i) 2 ∧ c8 (b.drop i) 2 ≤ 191 ∧ 128 ≤ c8 (b.drop i) 3 ∧ c8 (b.drop i) 3 ≤ 191 then 4 else 0 := by unfold ch8; rw [if_neg (by omega), if_neg (by omega), if_neg (by omega), if_neg (by omega), if_pos (by omega), if_neg (show ¬ c8 (b.drop i) 0 = 240 by omega), if_neg (show ¬ c8 (b.drop i) 0 = 244 by omega)]
                  have hno : ¬ (4 ≤ b.length - i ∧ 128 ≤ ((b.getD (i + 1) 0).toNat : Int) ∧ ((b.getD (i + 1) 0).toNat : Int) ≤ 191 ∧ 128 ≤ ((b.getD (i + 2) 0).toNat : Int) ∧ ((b.getD (i + 2) 0).toNat : Int) ≤ 191 ∧ 128 ≤ ((b.getD (i + 3) 0).toNat : Int) ∧ ((b.getD (i + 3) 0).toNat : Int) ≤ 191) → validB b = false := fun h => hp.2.symm.trans (validB_bad (by omega) (hq0.trans (if_neg (by omega))))
                  have hyes : (4 ≤ b.length - i ∧ 128 ≤ ((b.getD (i + 1) 0).toNat : Int) ∧ ((b.getD (i + 1) 0).toNat : Int) ≤ 191 ∧ 128 ≤ ((b.getD (i + 2) 0).toNat : Int) ∧ ((b.getD (i + 2) 0).toNat : Int) ≤ 191 ∧ 128 ≤ ((b.getD (i + 3) 0).toNat : Int) ∧ ((b.getD (i + 3) 0).toNat : Int) ≤ 191) → ch8 (b.drop i) = 4 := fun h => hq0.trans (if_pos (by omega))
                  refine rg sound_nil [0, 3, 5, 6, 7, 56] trivial ?_
                  refine cn ?_ ?_
                  ·intro h; try exact absurd h (by decide)
                   try (exfalso; (try simp only [Bool.not_eq_eq_eq_not, Bool.not_true, Bool.not_false, decide_eq_false_iff_not, decide_eq_true_eq] at *); omega)
                   all_goals
                    have hy : validB b = false := hno (by omega)
                    refine rg sound_nil [2] trivial ?_
                    first
                    | exact fz hy
                  ·intro h; try exact absurd h (by decide)
                   try (exfalso; (try simp only [Bool.not_eq_eq_eq_not, Bool.not_true, Bool.not_false, decide_eq_false_iff_not, decide_eq_true_eq] at *); omega)
                   all_goals
                    refine rg sound_nil [0, 3, 5, 6, 7, 8] trivial ?_
                    refine nx ?_
                    refine VC.loopP (ι := Int × Int × Nat) [0, 3, 7] (fun z => [(5, .dat (.int .i64 z.1)), (6, .dat (.int .i64 z.2.1)), (8, .dat (.int .i64 (z.2.2 : Int)))]) (fun _ => []) (fun z => (1 ≤ z.2.2 ∧ z.2.2 ≤ 4) ∧ (z.2.2 = 1 ∧ z.1 = 128 ∧ z.2.1 = 191 ∨ (2 ≤ z.2.2 ∧ z.1 = 128 ∧ z.2.1 = 191 ∧ 128 ≤ ((b.getD (i + 1) 0).toNat : Int) ∧ ((b.getD (i + 1) 0).toNat : Int) ≤ 191 ∧ (3 ≤ z.2.2 → 128 ≤ ((b.getD (i + 2) 0).toNat : Int) ∧ ((b.getD (i + 2) 0).toNat : Int) ≤ 191) ∧ (4 ≤ z.2.2 → 128 ≤ ((b.getD (i + 3) 0).toNat : Int) ∧ ((b.getD (i + 3) 0).toNat : Int) ≤ 191)))) (fun z => 4 - z.2.2) (128, 191, 1) ⟨by dsimp only; omega, .inl ⟨rfl, rfl, rfl⟩⟩ ?_ ?_
                    ·refine Ent.to rfl rfl rfl ?_ ?_
                     ·simp -implicitDefEqProofs only [go_sem, Nat.reduceLT, Nat.reduceAdd, Nat.reduceEqDiff, reduceIte, Nat.reduceMul, Nat.reduceSub, reduceCtorEq, Int.reduceNe, Int.reduceEq, ne_eq, Nat.reduceLeDiff, Nat.reduceMod, Nat.reduceDiv]; (try simp only [D.dat.injEq, Vm.Data.int.injEq, true_and, and_true, and_self, eq_self]); (try omega); (try ((repeat' apply And.intro) <;> first | omega | rfl))
                     ·(repeat' (first | exact all_nil | (refine all_cons ?_ ?_))) <;> (simp -implicitDefEqProofs only [go_sem, Nat.reduceLT, Nat.reduceAdd, Nat.reduceEqDiff, reduceIte, Nat.reduceMul, Nat.reduceSub, reduceCtorEq, Int.reduceNe, Int.reduceEq, ne_eq, Nat.reduceLeDiff, Nat.reduceMod, Nat.reduceDiv]; (try rfl); skip)
                    rintro ⟨lo, hi, k⟩ hk; (try dsimp only at hk); obtain ⟨hk1, hk2⟩ := hk
                    refine st0 ?_
                    refine rg sound_nil [0, 3, 5, 6, 7, 8, 59] trivial ?_
                    refine cn ?_ ?_
                    ·intro h; try exact absurd h (by decide)
                     try (exfalso; (try simp only [Bool.not_eq_eq_eq_not, Bool.not_true, Bool.not_false, decide_eq_false_iff_not, decide_eq_true_eq] at *); omega)
                     all_goals
                      have hik : ((i : Int) + (k : Int)).toNat = i + k := by omega
                      have hxk : (b.getD (i + k) 0).toNat < 256 := (b.getD (i + k) 0).toNat_lt
                      refine rg sound_nil [0, 3, 5, 6, 7, 8, 9] hik ?_
                      refine rB sound_nil [0, 3, 7, 8, 76] trivial fun K' hK => ?_
                      repeat' first | (refine lf hK trivial ?_; clear hK K') | with_reducible apply And.intro | refine sA trivial (fun _ => ?_) fun _ => ?_ | refine sAb trivial (fun _ => ?_) fun _ => ?_ | refine sAl trivial (fun g => ?_) fun g => ?_ | exact sd | exact sde trivial | exact sdp trivial | refine stk trivial ?_ | fail
                      all_goals
                       refine cn ?_ ?_
                       ·intro h; try exact absurd h (by decide)
                        try (exfalso; (try simp only [Bool.not_eq_eq_eq_not, Bool.not_true, Bool.not_false, decide_eq_false_iff_not, decide_eq_true_eq] at *); omega)
                        all_goals
                         have hk3 : k = 1 ∨ k = 2 ∨ k = 3 := by omega
                         have hy : validB b = false := hno (by
                          rcases hk3 with rfl | rfl | rfl <;> omega)
                         refine rg sound_nil [2] trivial ?_
                         first
                         | exact fz hy
                       ·intro h; try exact absurd h (by decide)
                        try (exfalso; (try simp only [Bool.not_eq_eq_eq_not, Bool.not_true, Bool.not_false, decide_eq_false_iff_not, decide_eq_true_eq] at *); omega)
                        all_goals
                         refine rg sound_nil [0, 3, 5, 7, 8] trivial ?_
                         refine rgL sound_nil trivial ?_
                         refine rgL sound_nil trivial ?_
                         refine nx ?_
                         have hk3 : k = 1 ∨ k = 2 ∨ k = 3 := by omega
                         refine ⟨(128, 191, k + 1), ⟨by dsimp only; omega, .inr ?_⟩, ?_, by dsimp only; omega⟩
                         ·dsimp only
                          rcases hk3 with rfl | rfl | rfl <;> omega
                         ·refine Ent.to rfl rfl rfl ?_ ?_
                          ·simp -implicitDefEqProofs only [go_sem, Nat.reduceLT, Nat.reduceAdd, Nat.reduceEqDiff, reduceIte, Nat.reduceMul, Nat.reduceSub, reduceCtorEq, Int.reduceNe, Int.reduceEq, ne_eq, Nat.reduceLeDiff, Nat.reduceMod, Nat.reduceDiv]; (try simp only [D.dat.injEq, Vm.Data.int.injEq, true_and, and_true, and_self, eq_self]); (try omega); (try ((repeat' apply And.intro) <;> first | omega | rfl))
                          ·(repeat' (first | exact all_nil | (refine all_cons ?_ ?_))) <;> (simp -implicitDefEqProofs only [go_sem, Nat.reduceLT, Nat.reduceAdd, Nat.reduceEqDiff, reduceIte, Nat.reduceMul, Nat.reduceSub, reduceCtorEq, Int.reduceNe, Int.reduceEq, ne_eq, Nat.reduceLeDiff, Nat.reduceMod, Nat.reduceDiv]; (try rfl); skip)
                    ·intro h; try exact absurd h (by decide)
                     try (exfalso; (try simp only [Bool.not_eq_eq_eq_not, Bool.not_true, Bool.not_false, decide_eq_false_iff_not, decide_eq_true_eq] at *); omega)
                     all_goals
                      have hkn : k = 4 := by omega
                      have hq : ch8 (b.drop i) = 4 := hyes (by subst hkn; omega)
                      refine rgL sound_nil trivial ?_
                      refine nx ?_
                      exact ⟨i + 4, ⟨by omega, vd_next (by omega) hq hp.2⟩, et, by omega⟩
            ·intro h; try exact absurd h (by decide)
             try (exfalso; (try simp only [Bool.not_eq_eq_eq_not, Bool.not_true, Bool.not_false, decide_eq_false_iff_not, decide_eq_true_eq] at *); omega)
             all_goals
              have hc0 : c8 (b.drop i) 0 = (b.getD i 0).toNat := by rw [c8_drop]; rfl
              have hdl : (b.drop i).length = b.length - i := List.length_drop
              have hq : ch8 (b.drop i) = 0 := by (try simp only [Bool.not_eq_eq_eq_not, Bool.not_true, Bool.not_false, decide_eq_false_iff_not, decide_eq_true_eq] at *); unfold ch8; rw [if_neg (by omega), if_neg (by omega), if_neg (by omega), if_neg (by omega), if_neg (by omega)]
              have hy : validB b = false := hp.2.symm.trans (validB_bad (by omega) hq)
              refine rg sound_nil [2] trivial ?_
              first
              | exact fz hy
 ·intro h; try exact absurd h (by decide)
  try (exfalso; (try simp only [Bool.not_eq_eq_eq_not, Bool.not_true, Bool.not_false, decide_eq_false_iff_not, decide_eq_true_eq] at *); omega)
  all_goals
   have hy : validB b = true := hp.2.symm.trans (validB_nil (by rw [List.length_drop]; omega))
   refine rg sound_nil [2] trivial ?_
   first
   | exact fz hy)
end Go.Proofs.YtpajpkbipagjpaaGreatDoor.Oc
namespace Go.Proofs.YtpajpkbipagjpaaGreatDoor.Oc
open Go Go.RowKit Go.Proofs.YtpajpkbipagjpaaGreatDoor.Vm Go.Proofs.YtpajpkbipagjpaaGreatDoor.Tr Go.IntWalk
set_option maxRecDepth 100000
set_option maxHeartbeats 4000000
noncomputable def ΦRF12 : Fns := tab [(255, rvalidF)]
theorem ΦRF12_ok : Sound E ΦRF12 := sound_cons (by kernel_rfl) rvalid_ok (sound_nil)
@[go_sem] theorem ΦRF12_r : ΦRF12 255 = some rvalidF := rfl
@[go_sem] noncomputable def rfits12F : PFn := PF [SI .i64, SY] (fun (g : Int) (b : List UInt8) => g = 12 ∧ b.length ≤ 4611686018427387904) (fun (g : Int) (b : List UInt8) => [.int .i64 (if validB b then 0 else 4)])
theorem rfits12_ok : Pure E 212 rfits12F := Pure.of_sig (rs := [.tmp 4]) (n := 64) Tryz.func212 rfl rfl rfl (Nat.le_of_ble_eq_true rfl) (by
 intro (g : Int) (b : List UInt8) hds
 obtain ⟨rfl, hlen⟩ := hds
 refine st0 ?_
 refine rg ΦRF12_ok [0, 1] trivial ?_
 refine rg ΦRF12_ok [0, 1] trivial ?_
 refine rg ΦRF12_ok [0, 1, 6] trivial ?_
 refine rg ΦRF12_ok [0, 1, 6, 7] trivial ?_
 refine cn ?_ ?_
 ·intro h; try exact absurd h (by decide)
  try (exfalso; (try simp only [Bool.not_eq_eq_eq_not, Bool.not_true, Bool.not_false, decide_eq_false_iff_not, decide_eq_true_eq] at *); first | omega | (have g0 := g rfl; omega) | (simp_all; done))
 intro h; try exact absurd h (by decide)
 try (exfalso; (try simp only [Bool.not_eq_eq_eq_not, Bool.not_true, Bool.not_false, decide_eq_false_iff_not, decide_eq_true_eq] at *); first | omega | (have g0 := g rfl; omega) | (simp_all; done))
 refine rg ΦRF12_ok [0, 1, 6, 24] trivial ?_
 refine cn ?_ ?_
 ·intro h; try exact absurd h (by decide)
  try (exfalso; (try simp only [Bool.not_eq_eq_eq_not, Bool.not_true, Bool.not_false, decide_eq_false_iff_not, decide_eq_true_eq] at *); first | omega | (have g0 := g rfl; omega) | (simp_all; done))
 intro h; try exact absurd h (by decide)
 try (exfalso; (try simp only [Bool.not_eq_eq_eq_not, Bool.not_true, Bool.not_false, decide_eq_false_iff_not, decide_eq_true_eq] at *); first | omega | (have g0 := g rfl; omega) | (simp_all; done))
 refine rgL ΦRF12_ok trivial ?_
 refine cn ?_ ?_
 ·intro h; try exact absurd h (by decide)
  try (exfalso; (try simp only [Bool.not_eq_eq_eq_not, Bool.not_true, Bool.not_false, decide_eq_false_iff_not, decide_eq_true_eq] at *); first | omega | (have g0 := g rfl; omega) | (simp_all; done))
 intro h; try exact absurd h (by decide)
 try (exfalso; (try simp only [Bool.not_eq_eq_eq_not, Bool.not_true, Bool.not_false, decide_eq_false_iff_not, decide_eq_true_eq] at *); first | omega | (have g0 := g rfl; omega) | (simp_all; done))
 refine rg ΦRF12_ok [0, 1, 6, 29] trivial ?_
 refine cn ?_ ?_
 ·intro h; try exact absurd h (by decide)
  try (exfalso; (try simp only [Bool.not_eq_eq_eq_not, Bool.not_true, Bool.not_false, decide_eq_false_iff_not, decide_eq_true_eq] at *); first | omega | (have g0 := g rfl; omega) | (simp_all; done))
 intro h; try exact absurd h (by decide)
 try (exfalso; (try simp only [Bool.not_eq_eq_eq_not, Bool.not_true, Bool.not_false, decide_eq_false_iff_not, decide_eq_true_eq] at *); first | omega | (have g0 := g rfl; omega) | (simp_all; done))
 refine rg ΦRF12_ok [0, 1, 6, 33] trivial ?_
 refine cn ?_ ?_
 ·intro h; try exact absurd h (by decide)
  try (exfalso; (try simp only [Bool.not_eq_eq_eq_not, Bool.not_true, Bool.not_false, decide_eq_false_iff_not, decide_eq_true_eq] at *); first | omega | (have g0 := g rfl; omega) | (simp_all; done))
 intro h; try exact absurd h (by decide)
 try (exfalso; (try simp only [Bool.not_eq_eq_eq_not, Bool.not_true, Bool.not_false, decide_eq_false_iff_not, decide_eq_true_eq] at *); first | omega | (have g0 := g rfl; omega) | (simp_all; done))
 refine rg ΦRF12_ok [0, 1, 6, 35] trivial ?_
 refine cn ?_ ?_
 ·intro h; try exact absurd h (by decide)
  try (exfalso; (try simp only [Bool.not_eq_eq_eq_not, Bool.not_true, Bool.not_false, decide_eq_false_iff_not, decide_eq_true_eq] at *); first | omega | (have g0 := g rfl; omega) | (simp_all; done))
 intro h; try exact absurd h (by decide)
 try (exfalso; (try simp only [Bool.not_eq_eq_eq_not, Bool.not_true, Bool.not_false, decide_eq_false_iff_not, decide_eq_true_eq] at *); first | omega | (have g0 := g rfl; omega) | (simp_all; done))
 refine rg ΦRF12_ok [0, 1, 6, 40] trivial ?_
 refine cn ?_ ?_
 ·intro h; try exact absurd h (by decide)
  try (exfalso; (try simp only [Bool.not_eq_eq_eq_not, Bool.not_true, Bool.not_false, decide_eq_false_iff_not, decide_eq_true_eq] at *); first | omega | (have g0 := g rfl; omega) | (simp_all; done))
 intro h; try exact absurd h (by decide)
 try (exfalso; (try simp only [Bool.not_eq_eq_eq_not, Bool.not_true, Bool.not_false, decide_eq_false_iff_not, decide_eq_true_eq] at *); first | omega | (have g0 := g rfl; omega) | (simp_all; done))
 refine rg ΦRF12_ok [0, 1, 6, 44] trivial ?_
 refine cn ?_ ?_
 ·intro h; try exact absurd h (by decide)
  try (exfalso; (try simp only [Bool.not_eq_eq_eq_not, Bool.not_true, Bool.not_false, decide_eq_false_iff_not, decide_eq_true_eq] at *); first | omega | (have g0 := g rfl; omega) | (simp_all; done))
  all_goals
   refine rgL ΦRF12_ok trivial ?_
   refine rg ΦRF12_ok [63] trivial ?_
   refine cn ?_ ?_
   ·intro h; try exact absurd h (by decide)
    try (exfalso; (try simp only [Bool.not_eq_eq_eq_not, Bool.not_true, Bool.not_false, decide_eq_false_iff_not, decide_eq_true_eq] at *); first | omega | (have g0 := g rfl; omega) | (simp_all; done))
    all_goals
     have hy : (if validB b = true then 0 else 4 : Int) = 4 := if_neg (by simp_all)
     refine rg ΦRF12_ok [4] trivial ?_
     first
     | exact fz hy
   ·intro h; try exact absurd h (by decide)
    try (exfalso; (try simp only [Bool.not_eq_eq_eq_not, Bool.not_true, Bool.not_false, decide_eq_false_iff_not, decide_eq_true_eq] at *); first | omega | (have g0 := g rfl; omega) | (simp_all; done))
    all_goals
     have hy : (if validB b = true then 0 else 4 : Int) = 0 := if_pos (by simp_all)
     refine rg ΦRF12_ok [4] trivial ?_
     first
     | exact fz hy
 ·intro h; try exact absurd h (by decide)
  try (exfalso; (try simp only [Bool.not_eq_eq_eq_not, Bool.not_true, Bool.not_false, decide_eq_false_iff_not, decide_eq_true_eq] at *); first | omega | (have g0 := g rfl; omega) | (simp_all; done)))
noncomputable def ΦRB12 : Fns := tab [(212, rfits12F)]
theorem ΦRB12_ok : Sound E ΦRB12 := sound_cons (by kernel_rfl) rfits12_ok (sound_nil)
@[go_sem] theorem ΦRB12_r : ΦRB12 212 = some rfits12F := rfl
@[go_sem] noncomputable def rbrk12F : PFn := PF [SNp 12] (fun (b : List UInt8) => b.length ≤ 4611686018427387904) (fun (b : List UInt8) => [.int .i64 (if validB b then 0 else 4)])
theorem rbrk12_ok : Pure E 161 rbrk12F := Pure.of_sig (rs := [.tmp 2]) (n := 61) Tryz.func161 rfl rfl rfl (Nat.le_of_ble_eq_true rfl) (by
 intro (b : List UInt8) hds
 refine st0 ?_
 refine rg ΦRB12_ok [1] (leafE 12 b) ?_
 refine rB ΦRB12_ok [1, 20] (leafE 12 b) fun K' hK => ?_
 repeat' first | (refine lf hK (leafE 12 b) ?_; clear hK K') | with_reducible apply And.intro | refine sA (leafE 12 b) (fun _ => ?_) fun _ => ?_ | refine sAb (leafE 12 b) (fun _ => ?_) fun _ => ?_ | refine sAl (leafE 12 b) (fun g => ?_) fun g => ?_ | exact sd | exact sde (leafE 12 b) | exact sdp (leafE 12 b) | refine stk (leafE 12 b) ?_ | fail
 all_goals
  refine cn ?_ ?_
  ·intro h; try exact absurd h (by decide)
   try (exfalso; (try simp only [Bool.not_eq_eq_eq_not, Bool.not_true, Bool.not_false, decide_eq_false_iff_not, decide_eq_true_eq] at *); first | omega | (have g0 := g rfl; omega) | (simp_all; done))
  intro h; try exact absurd h (by decide)
  try (exfalso; (try simp only [Bool.not_eq_eq_eq_not, Bool.not_true, Bool.not_false, decide_eq_false_iff_not, decide_eq_true_eq] at *); first | omega | (have g0 := g rfl; omega) | (simp_all; done))
  refine rB ΦRB12_ok [1, 39] (leafE 12 b) fun K' hK => ?_
  repeat' first | (refine lf hK (leafE 12 b) ?_; clear hK K') | with_reducible apply And.intro | refine sA (leafE 12 b) (fun _ => ?_) fun _ => ?_ | refine sAb (leafE 12 b) (fun _ => ?_) fun _ => ?_ | refine sAl (leafE 12 b) (fun g => ?_) fun g => ?_ | exact sd | exact sde (leafE 12 b) | exact sdp (leafE 12 b) | refine stk (leafE 12 b) ?_ | fail
  all_goals
   refine cn ?_ ?_
   ·intro h; try exact absurd h (by decide)
    try (exfalso; (try simp only [Bool.not_eq_eq_eq_not, Bool.not_true, Bool.not_false, decide_eq_false_iff_not, decide_eq_true_eq] at *); first | omega | (have g0 := g rfl; omega) | (simp_all; done))
   intro h; try exact absurd h (by decide)
   try (exfalso; (try simp only [Bool.not_eq_eq_eq_not, Bool.not_true, Bool.not_false, decide_eq_false_iff_not, decide_eq_true_eq] at *); first | omega | (have g0 := g rfl; omega) | (simp_all; done))
   refine rg ΦRB12_ok [1, 42] (leafE 12 b) ?_
   refine cn ?_ ?_
   ·intro h; try exact absurd h (by decide)
    try (exfalso; (try simp only [Bool.not_eq_eq_eq_not, Bool.not_true, Bool.not_false, decide_eq_false_iff_not, decide_eq_true_eq] at *); first | omega | (have g0 := g rfl; omega) | (simp_all; done))
   intro h; try exact absurd h (by decide)
   try (exfalso; (try simp only [Bool.not_eq_eq_eq_not, Bool.not_true, Bool.not_false, decide_eq_false_iff_not, decide_eq_true_eq] at *); first | omega | (have g0 := g rfl; omega) | (simp_all; done))
   refine rB ΦRB12_ok [1, 50] (leafE 12 b) fun K' hK => ?_
   repeat' first | (refine lf hK (leafE 12 b) ?_; clear hK K') | with_reducible apply And.intro | refine sA (leafE 12 b) (fun _ => ?_) fun _ => ?_ | refine sAb (leafE 12 b) (fun _ => ?_) fun _ => ?_ | refine sAl (leafE 12 b) (fun g => ?_) fun g => ?_ | exact sd | exact sde (leafE 12 b) | exact sdp (leafE 12 b) | refine stk (leafE 12 b) ?_ | fail
   all_goals
    refine cn ?_ ?_
    ·intro h; try exact absurd h (by decide)
     try (exfalso; (try simp only [Bool.not_eq_eq_eq_not, Bool.not_true, Bool.not_false, decide_eq_false_iff_not, decide_eq_true_eq] at *); first | omega | (have g0 := g rfl; omega) | (simp_all; done))
    intro h; try exact absurd h (by decide)
    try (exfalso; (try simp only [Bool.not_eq_eq_eq_not, Bool.not_true, Bool.not_false, decide_eq_false_iff_not, decide_eq_true_eq] at *); first | omega | (have g0 := g rfl; omega) | (simp_all; done))
    refine rg ΦRB12_ok [1, 55] (leafE 12 b) ?_
    refine cn ?_ ?_
    ·intro h; try exact absurd h (by decide)
     try (exfalso; (try simp only [Bool.not_eq_eq_eq_not, Bool.not_true, Bool.not_false, decide_eq_false_iff_not, decide_eq_true_eq] at *); first | omega | (have g0 := g rfl; omega) | (simp_all; done))
    intro h; try exact absurd h (by decide)
    try (exfalso; (try simp only [Bool.not_eq_eq_eq_not, Bool.not_true, Bool.not_false, decide_eq_false_iff_not, decide_eq_true_eq] at *); first | omega | (have g0 := g rfl; omega) | (simp_all; done))
    refine rg ΦRB12_ok [2] (leafE 12 b) ?_
    first
    | exact fz (leafE 12 b)
    | exact fz trivial)
@[go_sem] noncomputable def rdeep12F : PFn := PF [SNp 12] (fun (b : List UInt8) => True) (fun (b : List UInt8) => [.int .i64 1])
theorem rdeep12_ok : Pure E 160 rdeep12F := Pure.of_sig (rs := [.tmp 2]) (n := 25) Tryz.func160 rfl rfl rfl (Nat.le_of_ble_eq_true rfl) (by
 intro (b : List UInt8) hds
 refine st0 ?_
 refine rg sound_nil [1] (leafE 12 b) ?_
 refine rg sound_nil [1, 3] (leafE 12 b) ?_
 refine rg sound_nil [1, 3, 4] (leafE 12 b) ?_
 refine nx ?_
 refine VC.loopP (ι := Unit) [1, 3, 4] (fun i => []) (fun _ => [(1, .cells [.dat (.int .i64 0), .dat (.int .i64 12), .dat (.bool false), .dat (.lst (bytesD b)), .dat (.lst [])] false)]) (fun i => True) (fun i => 0) () (trivial) (ete (leafE 12 b)) ?_
 rintro u hp; try dsimp only at hp
 refine st0 ?_
 refine rg sound_nil [1, 3, 4, 10] (leafE 12 b) ?_
 refine cn ?_ ?_
 ·intro h; try exact absurd h (by decide)
  all_goals
   refine rg sound_nil [1, 3, 4, 5] (leafE 12 b) ?_
   refine rg sound_nil [1, 3, 4, 5, 21] (leafE 12 b) ?_
   refine cn ?_ ?_
   ·intro h; try exact absurd h (by decide)
    all_goals
     refine rgL sound_nil (leafE 12 b) ?_
     refine rgL sound_nil (leafE 12 b) ?_
     refine nx ?_
     exact ⟨(), trivial, ete (leafE 12 b), by omega⟩
   ·intro h; try exact absurd h (by decide)
    all_goals
     refine rgL sound_nil (leafE 12 b) ?_
     refine nx ?_
     exact ⟨(), trivial, ete (leafE 12 b), by omega⟩
 ·intro h; try exact absurd h (by decide)
  all_goals
   refine rg sound_nil [2] (leafE 12 b) ?_
   first
   | exact fz (leafE 12 b)
   | exact fz trivial)
noncomputable def ΦRW12 : Fns := tab [(160, rdeep12F), (57, list0F), (161, rbrk12F)]
theorem ΦRW12_ok : Sound E ΦRW12 := sound_cons (by kernel_rfl) rdeep12_ok (sound_cons (by kernel_rfl) list0_ok (sound_cons (by kernel_rfl) rbrk12_ok (sound_nil)))
@[go_sem] theorem ΦRW12_r : ΦRW12 160 = some rdeep12F ∧ ΦRW12 57 = some list0F ∧ ΦRW12 161 = some rbrk12F := ⟨rfl, rfl, rfl⟩
theorem leafA12 (b : List UInt8) : (T.mk 0 12 false b []).all = [T.mk 0 12 false b []] ∧ (T.mk 0 12 false b []).sz = 5 + b.length ∧ nodesD [T.mk 0 12 false b []] = [[.int .i64 0, .int .i64 12, .bool false, .lst (bytesD b), .lst []]] := by
 refine ⟨?_, ?_, ?_⟩
 ·rw [T.all_eq]; exact congrArg _ T.alls_nil
 ·rw [T.sz_mk, T.szs_nil, Nat.add_zero]
 ·rw [nodesD_cons, nodesD_nil, nodeC, nodesD_nil]
@[go_sem] noncomputable def rwrong12F : PFn := PF [SNp 12] (fun (b : List UInt8) => b.length ≤ 90000) (fun (b : List UInt8) => [.int .i64 (if validB b then 0 else 4), .int .i64 (if validB b then -1 else 0)])
theorem rwrong12_ok : Pure E 118 rwrong12F := Pure.of_sig (rs := [.tmp 2, .tmp 3]) (n := 32) Tryz.func118 rfl rfl rfl (Nat.le_of_ble_eq_true rfl) (by
 intro (b : List UInt8) hds
 obtain ⟨R, hR, hRc⟩ : ∃ R : Int, (if validB b = true then 0 else 4 : Int) = R ∧ (R = 0 ∧ validB b = true ∨ R = 4 ∧ validB b = false) := ⟨_, rfl, by cases validB b <;> simp⟩
 refine st0 ?_
 refine rg ΦRW12_ok [1] (And.intro (leafA12 b) (leafE 12 b)) ?_
 refine rg ΦRW12_ok [1, 4] (And.intro (leafA12 b) (leafE 12 b)) ?_
 refine rg ΦRW12_ok [1, 11] (And.intro (leafA12 b) (leafE 12 b)) ?_
 refine cn ?_ ?_
 ·intro h; try exact absurd h (by decide)
  try (exfalso; (try simp only [Bool.not_eq_eq_eq_not, Bool.not_true, Bool.not_false, decide_eq_false_iff_not, decide_eq_true_eq] at *); first | omega | (have g0 := g rfl; omega) | (simp_all; done))
  all_goals
   refine rg ΦRW12_ok [2, 3] (And.intro (leafA12 b) (leafE 12 b)) ?_
   first
   | exact fz hy
 ·intro h; try exact absurd h (by decide)
  try (exfalso; (try simp only [Bool.not_eq_eq_eq_not, Bool.not_true, Bool.not_false, decide_eq_false_iff_not, decide_eq_true_eq] at *); first | omega | (have g0 := g rfl; omega) | (simp_all; done))
  all_goals
   refine rg ΦRW12_ok [5] (And.intro (leafA12 b) (leafE 12 b)) ?_
   refine rg ΦRW12_ok [5, 16] (And.intro (leafA12 b) (leafE 12 b)) ?_
   refine cn ?_ ?_
   ·intro h; try exact absurd h (by decide)
    try (exfalso; (try simp only [Bool.not_eq_eq_eq_not, Bool.not_true, Bool.not_false, decide_eq_false_iff_not, decide_eq_true_eq] at *); first | omega | (have g0 := g rfl; omega) | (simp_all; done))
    all_goals
     refine rg ΦRW12_ok [2, 3] (And.intro (leafA12 b) (leafE 12 b)) ?_
     first
     | exact fz hy
   ·intro h; try exact absurd h (by decide)
    try (exfalso; (try simp only [Bool.not_eq_eq_eq_not, Bool.not_true, Bool.not_false, decide_eq_false_iff_not, decide_eq_true_eq] at *); first | omega | (have g0 := g rfl; omega) | (simp_all; done))
    all_goals
     refine rg ΦRW12_ok [5, 6] (And.intro (leafA12 b) (leafE 12 b)) ?_
     refine nx ?_
     refine VC.loopP (ι := Nat) [5] (fun i => [(6, .dat (.int .i64 (i : Int)))]) (fun _ => []) (fun i => i ≤ 1 ∧ (i = 1 → validB b = true)) (fun i => 1 - i) 0 (⟨by omega, fun h => by omega⟩) (ete (And.intro (leafA12 b) (leafE 12 b))) ?_
     rintro i hp; try dsimp only at hp
     refine st0 ?_
     refine rg ΦRW12_ok [5, 6, 20] (And.intro (leafA12 b) (leafE 12 b)) ?_
     refine cn ?_ ?_
     ·intro h; try exact absurd h (by decide)
      try (exfalso; (try simp only [Bool.not_eq_eq_eq_not, Bool.not_true, Bool.not_false, decide_eq_false_iff_not, decide_eq_true_eq] at *); first | omega | (have g0 := g rfl; omega) | (simp_all; done))
      all_goals
       obtain rfl : i = 0 := by omega
       refine rg ΦRW12_ok [5, 6, 7] (And.intro hR (And.intro (leafA12 b) (leafE 12 b))) ?_
       refine rg ΦRW12_ok [5, 6, 7, 29] (And.intro (leafA12 b) (leafE 12 b)) ?_
       refine cn ?_ ?_
       ·intro h; try exact absurd h (by decide)
        try (exfalso; (try simp only [Bool.not_eq_eq_eq_not, Bool.not_true, Bool.not_false, decide_eq_false_iff_not, decide_eq_true_eq] at *); first | omega | (have g0 := g rfl; omega) | (simp_all; done))
        all_goals
         have hv : ¬ validB b = true := by
          rcases hRc with h | h
          ·omega
          ·rw [h.2]; decide
         have h4 : R = 4 := by rcases hRc with h | h <;> omega
         have hy := And.intro h4 (And.intro (if_neg hv : (if validB b = true then 0 else 4 : Int) = 4) (if_neg hv : (if validB b = true then -1 else 0 : Int) = 0))
         refine rg ΦRW12_ok [2, 3] (And.intro (leafA12 b) (leafE 12 b)) ?_
         first
         | exact fz hy
       ·intro h; try exact absurd h (by decide)
        try (exfalso; (try simp only [Bool.not_eq_eq_eq_not, Bool.not_true, Bool.not_false, decide_eq_false_iff_not, decide_eq_true_eq] at *); first | omega | (have g0 := g rfl; omega) | (simp_all; done))
        all_goals
         refine rgL ΦRW12_ok (And.intro (leafA12 b) (leafE 12 b)) ?_
         refine nx ?_
         exact ⟨1, ⟨by omega, fun _ => by
          rcases hRc with h | h
          ·exact h.2
          ·omega⟩, ete (And.intro (leafA12 b) (leafE 12 b)), by omega⟩
     ·intro h; try exact absurd h (by decide)
      try (exfalso; (try simp only [Bool.not_eq_eq_eq_not, Bool.not_true, Bool.not_false, decide_eq_false_iff_not, decide_eq_true_eq] at *); first | omega | (have g0 := g rfl; omega) | (simp_all; done))
      all_goals
       have hv := hp.2 (by omega)
       have hy := And.intro (if_pos hv : (if validB b = true then 0 else 4 : Int) = 0) (if_pos hv : (if validB b = true then -1 else 0 : Int) = -1)
       refine rg ΦRW12_ok [2, 3] (And.intro (leafA12 b) (leafE 12 b)) ?_
       first
       | exact fz hy)
noncomputable def ΦRC12 : Fns := tab [(118, rwrong12F)]
theorem ΦRC12_ok : Sound E ΦRC12 := sound_cons (by kernel_rfl) rwrong12_ok (sound_nil)
@[go_sem] theorem ΦRC12_r : ΦRC12 118 = some rwrong12F := rfl
@[go_sem] noncomputable def rcheck12F : PFn := PF [SNp 12] (fun (b : List UInt8) => b.length ≤ 90000) (fun (b : List UInt8) => [.int .i64 (if validB b then 0 else 110)])
theorem rcheck12_ok : Pure E 83 rcheck12F := Pure.of_sig (rs := [.tmp 2]) (n := 12) Tryz.func83 rfl rfl rfl (Nat.le_of_ble_eq_true rfl) (by
 intro (b : List UInt8) hds
 refine st0 ?_
 refine rg ΦRC12_ok [1] (leafE 12 b) ?_
 refine rg ΦRC12_ok [3] (leafE 12 b) ?_
 refine rg ΦRC12_ok [11] (leafE 12 b) ?_
 refine cn ?_ ?_
 ·intro h; try exact absurd h (by decide)
  all_goals
   have hy : (if validB b = true then 0 else 110 : Int) = 110 := if_neg (by intro hv; rw [if_pos hv] at *; simp_all)
   refine rg ΦRC12_ok [2] (leafE 12 b) ?_
   first
   | exact fz hy
 ·intro h; try exact absurd h (by decide)
  all_goals
   have hy : (if validB b = true then 0 else 110 : Int) = 0 := if_pos (by cases hv : validB b <;> simp_all)
   refine rg ΦRC12_ok [2] (leafE 12 b) ?_
   first
   | exact fz hy)
end Go.Proofs.YtpajpkbipagjpaaGreatDoor.Oc
namespace Go.Proofs.YtpajpkbipagjpaaGreatDoor.Oc
open Go Go.RowKit Go.Proofs.YtpajpkbipagjpaaGreatDoor.Vm Go.Proofs.YtpajpkbipagjpaaGreatDoor.Tr Go.IntWalk
set_option maxRecDepth 100000
set_option maxHeartbeats 4000000
def othN : List Nat := [32, 39, 40, 41, 43, 44, 45, 46, 47, 58, 61, 63]
theorem prt_all : ∀ n : Fin 256, prtI (n.val : Int) = (decide (65 ≤ n.val ∧ n.val ≤ 90) || (decide (97 ≤ n.val ∧ n.val ≤ 122) || (decide (48 ≤ n.val ∧ n.val ≤ 57) || othN.contains n.val))) := by decide +kernel
theorem prt_at {c : Int} (h0 : 0 ≤ c) (h1 : c < 256) : prtI c = (decide (65 ≤ c.toNat ∧ c.toNat ≤ 90) || (decide (97 ≤ c.toNat ∧ c.toNat ≤ 122) || (decide (48 ≤ c.toNat ∧ c.toNat ≤ 57) || othN.contains c.toNat))) := by
 have := prt_all ⟨c.toNat, by omega⟩
 simp only at this
 rwa [show ((c.toNat : Nat) : Int) = c by omega] at this
theorem prt_yes {c : Int} (h0 : 0 ≤ c) (h1 : c < 256) (h : (65 ≤ c ∧ c ≤ 90) ∨ (97 ≤ c ∧ c ≤ 122) ∨ (48 ≤ c ∧ c ≤ 57)) : prtI c = true := by
 rw [prt_at h0 h1]
 rcases h with h | h | h
 ·rw [decide_eq_true (by omega), Bool.true_or]
 ·rw [decide_eq_true (p := 97 ≤ c.toNat ∧ c.toNat ≤ 122) (by omega), Bool.true_or, Bool.or_true]
 ·rw [decide_eq_true (p := 48 ≤ c.toNat ∧ c.toNat ≤ 57) (by omega), Bool.true_or, Bool.or_true, Bool.or_true]
def othB : List UInt8 := [32, 39, 40, 41, 43, 44, 45, 46, 47, 58, 61, 63]
theorem oth_at {i : Nat} (h : i < 12) : prtI ((othB.getD i 0).toNat : Int) = true := by
 have : ∀ j : Fin 12, prtI ((othB.getD j.val 0).toNat : Int) = true := by decide +kernel
 exact this ⟨i, h⟩
theorem prt_no {c : Int} (h0 : 0 ≤ c) (h1 : c < 256) (h : ¬ (65 ≤ c ∧ c ≤ 90)) (h2 : ¬ (97 ≤ c ∧ c ≤ 122)) (h3 : ¬ (48 ≤ c ∧ c ≤ 57)) (h4 : ∀ j, j < 12 → ((othB.getD j 0).toNat : Int) ≠ c) : prtI c = false := by
 rw [prt_at h0 h1, decide_eq_false (by omega), decide_eq_false (by omega), decide_eq_false (by omega), Bool.false_or, Bool.false_or, Bool.false_or]
 cases hc : othN.contains c.toNat with
 | false => rfl
 | true =>
   exfalso
   rw [List.contains_iff_mem] at hc
   obtain ⟨j, hj, e⟩ := List.mem_iff_getElem.1 hc
   have hj' : j < 12 := hj
   refine h4 j hj' ?_
   have : ∀ k : Fin 12, (othB.getD k.val 0).toNat = othN.getD k.val 0 := by decide +kernel
   rw [show (othB.getD j 0).toNat = othN.getD j 0 from this ⟨j, hj'⟩, List.getD_eq_getElem?_getD, List.getElem?_eq_getElem hj, Option.getD_some, e]; omega
@[go_sem] noncomputable def rprtF : PFn := PF [SI .u8] (fun (c : Int) => 0 ≤ c ∧ c < 256) (fun (c : Int) => [.bool (prtI c)])
theorem rprt_ok : Pure E 307 rprtF := Pure.of_sig (rs := [.tmp 2]) (n := 34) Tryz.func307 rfl rfl rfl (Nat.le_of_ble_eq_true rfl) (by
 intro (c : Int) hds
 obtain ⟨hc0, hc1⟩ := hds
 refine st0 ?_
 refine rg sound_nil [0] trivial ?_
 refine rB sound_nil [0, 25] trivial fun K' hK => ?_
 repeat' first | (refine lf hK trivial ?_; clear hK K') | with_reducible apply And.intro | refine sA trivial (fun _ => ?_) fun _ => ?_ | refine sAb trivial (fun _ => ?_) fun _ => ?_ | refine sAl trivial (fun g => ?_) fun g => ?_ | exact sd | exact sde trivial | exact sdp trivial | refine stk trivial ?_ | fail
 all_goals
  refine cn ?_ ?_
  ·intro h; try exact absurd h (by decide)
   try (exfalso; (try simp only [Bool.not_eq_eq_eq_not, Bool.not_true, Bool.not_false, decide_eq_false_iff_not, decide_eq_true_eq] at *); omega)
   all_goals
    have hy : prtI c = true := prt_yes hc0 hc1 (by (try simp only [Bool.not_eq_eq_eq_not, Bool.not_true, Bool.not_false, decide_eq_false_iff_not, decide_eq_true_eq] at *); omega)
    refine rg sound_nil [2] trivial ?_
    first
    | exact fz hy
  ·intro h; try exact absurd h (by decide)
   try (exfalso; (try simp only [Bool.not_eq_eq_eq_not, Bool.not_true, Bool.not_false, decide_eq_false_iff_not, decide_eq_true_eq] at *); omega)
   all_goals
    have hn : ¬ (65 ≤ c ∧ c ≤ 90) ∧ ¬ (97 ≤ c ∧ c ≤ 122) ∧ ¬ (48 ≤ c ∧ c ≤ 57) := by (try simp only [Bool.not_eq_eq_eq_not, Bool.not_true, Bool.not_false, decide_eq_false_iff_not, decide_eq_true_eq] at *); omega
    refine rg sound_nil [0, 3] trivial ?_
    refine nx ?_
    refine VC.loopP (ι := Nat) [0] (fun i => [(3, .dat (.int .i64 (i : Int)))]) (fun _ => []) (fun i => i ≤ 12 ∧ ∀ j, j < i → ((othB.getD j 0).toNat : Int) ≠ c) (fun i => 12 - i) 0 (⟨Nat.zero_le _, fun j hj => by omega⟩) (et) ?_
    rintro i hp; try dsimp only at hp
    refine st0 ?_
    refine rg sound_nil [0, 3, 27] trivial ?_
    refine cn ?_ ?_
    ·intro h; try exact absurd h (by decide)
     try (exfalso; (try simp only [Bool.not_eq_eq_eq_not, Bool.not_true, Bool.not_false, decide_eq_false_iff_not, decide_eq_true_eq] at *); omega)
     all_goals
      refine rg sound_nil [0, 3, 33] trivial ?_
      refine cn ?_ ?_
      ·intro h; try exact absurd h (by decide)
       try (exfalso; (try simp only [Bool.not_eq_eq_eq_not, Bool.not_true, Bool.not_false, decide_eq_false_iff_not, decide_eq_true_eq] at *); omega)
       all_goals
        have hc2 : ((othB.getD i 0).toNat : Int) = c := h
        have hy : prtI c = true := hc2 ▸ oth_at (by omega)
        refine rg sound_nil [2] trivial ?_
        first
        | exact fz hy
      ·intro h; try exact absurd h (by decide)
       try (exfalso; (try simp only [Bool.not_eq_eq_eq_not, Bool.not_true, Bool.not_false, decide_eq_false_iff_not, decide_eq_true_eq] at *); omega)
       all_goals
        refine rgL sound_nil trivial ?_
        refine nx ?_
        exact ⟨i + 1, ⟨by omega, fun j hj => by
         rcases Nat.lt_succ_iff_lt_or_eq.1 hj with hj | rfl
         ·exact hp.2 j hj
         ·exact h⟩, et, by omega⟩
    ·intro h; try exact absurd h (by decide)
     try (exfalso; (try simp only [Bool.not_eq_eq_eq_not, Bool.not_true, Bool.not_false, decide_eq_false_iff_not, decide_eq_true_eq] at *); omega)
     all_goals
      have hy : prtI c = false := prt_no hc0 hc1 hn.1 hn.2.1 hn.2.2 fun j hj => hp.2 j (by omega)
      refine rg sound_nil [2] trivial ?_
      first
      | exact fz hy)
end Go.Proofs.YtpajpkbipagjpaaGreatDoor.Oc
namespace Go.Proofs.YtpajpkbipagjpaaGreatDoor.Oc
open Go Go.RowKit Go.Proofs.YtpajpkbipagjpaaGreatDoor.Vm Go.Proofs.YtpajpkbipagjpaaGreatDoor.Tr Go.IntWalk
set_option maxRecDepth 100000
set_option maxHeartbeats 4000000
noncomputable def ΦEA : Fns := tab [(307, rprtF)]
theorem ΦEA_ok : Sound E ΦEA := sound_cons (by kernel_rfl) rprt_ok (sound_nil)
@[go_sem] theorem ΦEA_r : ΦEA 307 = some rprtF := rfl
@[go_sem] noncomputable def reachF : PFn := PF [SI .i64, SY] (fun (g : Int) (b : List UInt8) => g = 19 ∧ b.length ≤ 4611686018427387904) (fun (g : Int) (b : List UInt8) => [.bool (b.all prt8)])
theorem reach_ok : Pure E 256 reachF := Pure.of_sig (rs := [.tmp 4]) (n := 35) Tryz.func256 rfl rfl rfl (Nat.le_of_ble_eq_true rfl) (by
 intro (g : Int) (b : List UInt8) hds
 obtain ⟨rfl, hlen⟩ := hds
 refine st0 ?_
 refine rg ΦEA_ok [0, 1] prtI_eq ?_
 refine rg ΦEA_ok [0, 1, 5] prtI_eq ?_
 refine nx ?_
 refine VC.loopP (ι := Nat) [1] (fun i => [(0, .dat (.int .i64 19)), (5, .dat (.int .i64 (i : Int)))]) (fun _ => []) (fun i => i ≤ b.length ∧ ∀ j, j < i → prt8 (b.getD j 0) = true) (fun i => b.length - i) 0 (⟨Nat.zero_le _, fun j hj => by omega⟩) (et) ?_
 rintro i hp; try dsimp only at hp
 refine st0 ?_
 refine rg ΦEA_ok [0, 1, 5, 10] prtI_eq ?_
 refine cn ?_ ?_
 ·intro h; try exact absurd h (by decide)
  try (exfalso; (try simp only [Bool.not_eq_eq_eq_not, Bool.not_true, Bool.not_false, decide_eq_false_iff_not, decide_eq_true_eq] at *); omega)
  all_goals
   have hx0 : (b.getD i 0).toNat < 256 := (b.getD i 0).toNat_lt
   refine rg ΦEA_ok [0, 1, 5, 6] prtI_eq ?_
   refine rB ΦEA_ok [0, 1, 5, 34] prtI_eq fun K' hK => ?_
   repeat' first | (refine lf hK prtI_eq ?_; clear hK K') | with_reducible apply And.intro | refine sA prtI_eq (fun _ => ?_) fun _ => ?_ | refine sAb prtI_eq (fun _ => ?_) fun _ => ?_ | refine sAl prtI_eq (fun g => ?_) fun g => ?_ | exact sd | exact sde prtI_eq | exact sdp prtI_eq | refine stk prtI_eq ?_ | fail
   all_goals
    refine cn ?_ ?_
    ·intro h; try exact absurd h (by decide)
     try (exfalso; (try simp only [Bool.not_eq_eq_eq_not, Bool.not_true, Bool.not_false, decide_eq_false_iff_not, decide_eq_true_eq] at *); omega)
     all_goals
      have hy : b.all prt8 = false := by
       have := not_of (b := b) (i := i) (by omega) (by simp_all)
       simpa using this
      refine rg ΦEA_ok [4] prtI_eq ?_
      first
      | exact fz hy
    ·intro h; try exact absurd h (by decide)
     try (exfalso; (try simp only [Bool.not_eq_eq_eq_not, Bool.not_true, Bool.not_false, decide_eq_false_iff_not, decide_eq_true_eq] at *); omega)
     all_goals
      refine rgL ΦEA_ok prtI_eq ?_
      refine nx ?_
      exact ⟨i + 1, ⟨by omega, fun j hj => by
       rcases Nat.lt_succ_iff_lt_or_eq.1 hj with hj | rfl
       ·exact hp.2 j hj
       ·simp_all⟩, et, by omega⟩
 ·intro h; try exact absurd h (by decide)
  try (exfalso; (try simp only [Bool.not_eq_eq_eq_not, Bool.not_true, Bool.not_false, decide_eq_false_iff_not, decide_eq_true_eq] at *); omega)
  all_goals
   have hy : b.all prt8 = true := all_of hp.2 (by omega)
   refine rg ΦEA_ok [4] prtI_eq ?_
   first
   | exact fz hy)
end Go.Proofs.YtpajpkbipagjpaaGreatDoor.Oc
namespace Go.Proofs.YtpajpkbipagjpaaGreatDoor.Oc
open Go Go.RowKit Go.Proofs.YtpajpkbipagjpaaGreatDoor.Vm Go.Proofs.YtpajpkbipagjpaaGreatDoor.Tr Go.IntWalk
set_option maxRecDepth 100000
set_option maxHeartbeats 4000000
noncomputable def ΦRF19 : Fns := tab [(256, reachF)]
theorem ΦRF19_ok : Sound E ΦRF19 := sound_cons (by kernel_rfl) reach_ok (sound_nil)
@[go_sem] theorem ΦRF19_r : ΦRF19 256 = some reachF := rfl
@[go_sem] noncomputable def rfits19F : PFn := PF [SI .i64, SY] (fun (g : Int) (b : List UInt8) => g = 19 ∧ b.length ≤ 4611686018427387904) (fun (g : Int) (b : List UInt8) => [.int .i64 (if b.all prt8 then 0 else 4)])
theorem rfits19_ok : Pure E 212 rfits19F := Pure.of_sig (rs := [.tmp 4]) (n := 64) Tryz.func212 rfl rfl rfl (Nat.le_of_ble_eq_true rfl) (by
 intro (g : Int) (b : List UInt8) hds
 obtain ⟨rfl, hlen⟩ := hds
 refine st0 ?_
 refine rg ΦRF19_ok [0, 1] trivial ?_
 refine rg ΦRF19_ok [0, 1] trivial ?_
 refine rg ΦRF19_ok [0, 1, 6] trivial ?_
 refine rg ΦRF19_ok [0, 1, 6, 7] trivial ?_
 refine cn ?_ ?_
 ·intro h; try exact absurd h (by decide)
  try (exfalso; (try simp only [Bool.not_eq_eq_eq_not, Bool.not_true, Bool.not_false, decide_eq_false_iff_not, decide_eq_true_eq] at *); first | omega | (have g0 := g rfl; omega) | (simp_all; done))
 intro h; try exact absurd h (by decide)
 try (exfalso; (try simp only [Bool.not_eq_eq_eq_not, Bool.not_true, Bool.not_false, decide_eq_false_iff_not, decide_eq_true_eq] at *); first | omega | (have g0 := g rfl; omega) | (simp_all; done))
 refine rg ΦRF19_ok [0, 1, 6, 24] trivial ?_
 refine cn ?_ ?_
 ·intro h; try exact absurd h (by decide)
  try (exfalso; (try simp only [Bool.not_eq_eq_eq_not, Bool.not_true, Bool.not_false, decide_eq_false_iff_not, decide_eq_true_eq] at *); first | omega | (have g0 := g rfl; omega) | (simp_all; done))
 intro h; try exact absurd h (by decide)
 try (exfalso; (try simp only [Bool.not_eq_eq_eq_not, Bool.not_true, Bool.not_false, decide_eq_false_iff_not, decide_eq_true_eq] at *); first | omega | (have g0 := g rfl; omega) | (simp_all; done))
 refine rgL ΦRF19_ok trivial ?_
 refine cn ?_ ?_
 ·intro h; try exact absurd h (by decide)
  try (exfalso; (try simp only [Bool.not_eq_eq_eq_not, Bool.not_true, Bool.not_false, decide_eq_false_iff_not, decide_eq_true_eq] at *); first | omega | (have g0 := g rfl; omega) | (simp_all; done))
 intro h; try exact absurd h (by decide)
 try (exfalso; (try simp only [Bool.not_eq_eq_eq_not, Bool.not_true, Bool.not_false, decide_eq_false_iff_not, decide_eq_true_eq] at *); first | omega | (have g0 := g rfl; omega) | (simp_all; done))
 refine rg ΦRF19_ok [0, 1, 6, 29] trivial ?_
 refine cn ?_ ?_
 ·intro h; try exact absurd h (by decide)
  try (exfalso; (try simp only [Bool.not_eq_eq_eq_not, Bool.not_true, Bool.not_false, decide_eq_false_iff_not, decide_eq_true_eq] at *); first | omega | (have g0 := g rfl; omega) | (simp_all; done))
 intro h; try exact absurd h (by decide)
 try (exfalso; (try simp only [Bool.not_eq_eq_eq_not, Bool.not_true, Bool.not_false, decide_eq_false_iff_not, decide_eq_true_eq] at *); first | omega | (have g0 := g rfl; omega) | (simp_all; done))
 refine rg ΦRF19_ok [0, 1, 6, 33] trivial ?_
 refine cn ?_ ?_
 ·intro h; try exact absurd h (by decide)
  try (exfalso; (try simp only [Bool.not_eq_eq_eq_not, Bool.not_true, Bool.not_false, decide_eq_false_iff_not, decide_eq_true_eq] at *); first | omega | (have g0 := g rfl; omega) | (simp_all; done))
 intro h; try exact absurd h (by decide)
 try (exfalso; (try simp only [Bool.not_eq_eq_eq_not, Bool.not_true, Bool.not_false, decide_eq_false_iff_not, decide_eq_true_eq] at *); first | omega | (have g0 := g rfl; omega) | (simp_all; done))
 refine rg ΦRF19_ok [0, 1, 6, 35] trivial ?_
 refine cn ?_ ?_
 ·intro h; try exact absurd h (by decide)
  try (exfalso; (try simp only [Bool.not_eq_eq_eq_not, Bool.not_true, Bool.not_false, decide_eq_false_iff_not, decide_eq_true_eq] at *); first | omega | (have g0 := g rfl; omega) | (simp_all; done))
 intro h; try exact absurd h (by decide)
 try (exfalso; (try simp only [Bool.not_eq_eq_eq_not, Bool.not_true, Bool.not_false, decide_eq_false_iff_not, decide_eq_true_eq] at *); first | omega | (have g0 := g rfl; omega) | (simp_all; done))
 refine rg ΦRF19_ok [0, 1, 6, 40] trivial ?_
 refine cn ?_ ?_
 ·intro h; try exact absurd h (by decide)
  try (exfalso; (try simp only [Bool.not_eq_eq_eq_not, Bool.not_true, Bool.not_false, decide_eq_false_iff_not, decide_eq_true_eq] at *); first | omega | (have g0 := g rfl; omega) | (simp_all; done))
 intro h; try exact absurd h (by decide)
 try (exfalso; (try simp only [Bool.not_eq_eq_eq_not, Bool.not_true, Bool.not_false, decide_eq_false_iff_not, decide_eq_true_eq] at *); first | omega | (have g0 := g rfl; omega) | (simp_all; done))
 refine rg ΦRF19_ok [0, 1, 6, 44] trivial ?_
 refine cn ?_ ?_
 ·intro h; try exact absurd h (by decide)
  try (exfalso; (try simp only [Bool.not_eq_eq_eq_not, Bool.not_true, Bool.not_false, decide_eq_false_iff_not, decide_eq_true_eq] at *); first | omega | (have g0 := g rfl; omega) | (simp_all; done))
 intro h; try exact absurd h (by decide)
 try (exfalso; (try simp only [Bool.not_eq_eq_eq_not, Bool.not_true, Bool.not_false, decide_eq_false_iff_not, decide_eq_true_eq] at *); first | omega | (have g0 := g rfl; omega) | (simp_all; done))
 refine rg ΦRF19_ok [0, 1, 6, 48] trivial ?_
 refine cn ?_ ?_
 ·intro h; try exact absurd h (by decide)
  try (exfalso; (try simp only [Bool.not_eq_eq_eq_not, Bool.not_true, Bool.not_false, decide_eq_false_iff_not, decide_eq_true_eq] at *); first | omega | (have g0 := g rfl; omega) | (simp_all; done))
  all_goals
   refine cn ?_ ?_
   ·intro h; try exact absurd h (by decide)
    try (exfalso; (try simp only [Bool.not_eq_eq_eq_not, Bool.not_true, Bool.not_false, decide_eq_false_iff_not, decide_eq_true_eq] at *); first | omega | (have g0 := g rfl; omega) | (simp_all; done))
    all_goals
     refine rgL ΦRF19_ok trivial ?_
     refine rg ΦRF19_ok [63] trivial ?_
     refine cn ?_ ?_
     ·intro h; try exact absurd h (by decide)
      try (exfalso; (try simp only [Bool.not_eq_eq_eq_not, Bool.not_true, Bool.not_false, decide_eq_false_iff_not, decide_eq_true_eq] at *); first | omega | (have g0 := g rfl; omega) | (simp_all; done))
      all_goals
       have hy : (if b.all prt8 = true then 0 else 4 : Int) = 4 := if_neg (by simp_all)
       refine rg ΦRF19_ok [4] trivial ?_
       first
       | exact fz hy
     ·intro h; try exact absurd h (by decide)
      try (exfalso; (try simp only [Bool.not_eq_eq_eq_not, Bool.not_true, Bool.not_false, decide_eq_false_iff_not, decide_eq_true_eq] at *); first | omega | (have g0 := g rfl; omega) | (simp_all; done))
      all_goals
       have hy : (if b.all prt8 = true then 0 else 4 : Int) = 0 := if_pos (by simp_all)
       refine rg ΦRF19_ok [4] trivial ?_
       first
       | exact fz hy
   ·intro h; try exact absurd h (by decide)
    try (exfalso; (try simp only [Bool.not_eq_eq_eq_not, Bool.not_true, Bool.not_false, decide_eq_false_iff_not, decide_eq_true_eq] at *); first | omega | (have g0 := g rfl; omega) | (simp_all; done))
 ·intro h; try exact absurd h (by decide)
  try (exfalso; (try simp only [Bool.not_eq_eq_eq_not, Bool.not_true, Bool.not_false, decide_eq_false_iff_not, decide_eq_true_eq] at *); first | omega | (have g0 := g rfl; omega) | (simp_all; done)))
noncomputable def ΦRB19 : Fns := tab [(212, rfits19F)]
theorem ΦRB19_ok : Sound E ΦRB19 := sound_cons (by kernel_rfl) rfits19_ok (sound_nil)
@[go_sem] theorem ΦRB19_r : ΦRB19 212 = some rfits19F := rfl
@[go_sem] noncomputable def rbrk19F : PFn := PF [SNp 19] (fun (b : List UInt8) => b.length ≤ 4611686018427387904) (fun (b : List UInt8) => [.int .i64 (if b.all prt8 then 0 else 4)])
theorem rbrk19_ok : Pure E 161 rbrk19F := Pure.of_sig (rs := [.tmp 2]) (n := 61) Tryz.func161 rfl rfl rfl (Nat.le_of_ble_eq_true rfl) (by
 intro (b : List UInt8) hds
 refine st0 ?_
 refine rg ΦRB19_ok [1] (leafE 19 b) ?_
 refine rB ΦRB19_ok [1, 20] (leafE 19 b) fun K' hK => ?_
 repeat' first | (refine lf hK (leafE 19 b) ?_; clear hK K') | with_reducible apply And.intro | refine sA (leafE 19 b) (fun _ => ?_) fun _ => ?_ | refine sAb (leafE 19 b) (fun _ => ?_) fun _ => ?_ | refine sAl (leafE 19 b) (fun g => ?_) fun g => ?_ | exact sd | exact sde (leafE 19 b) | exact sdp (leafE 19 b) | refine stk (leafE 19 b) ?_ | fail
 all_goals
  refine cn ?_ ?_
  ·intro h; try exact absurd h (by decide)
   try (exfalso; (try simp only [Bool.not_eq_eq_eq_not, Bool.not_true, Bool.not_false, decide_eq_false_iff_not, decide_eq_true_eq] at *); first | omega | (have g0 := g rfl; omega) | (simp_all; done))
  intro h; try exact absurd h (by decide)
  try (exfalso; (try simp only [Bool.not_eq_eq_eq_not, Bool.not_true, Bool.not_false, decide_eq_false_iff_not, decide_eq_true_eq] at *); first | omega | (have g0 := g rfl; omega) | (simp_all; done))
  refine rB ΦRB19_ok [1, 39] (leafE 19 b) fun K' hK => ?_
  repeat' first | (refine lf hK (leafE 19 b) ?_; clear hK K') | with_reducible apply And.intro | refine sA (leafE 19 b) (fun _ => ?_) fun _ => ?_ | refine sAb (leafE 19 b) (fun _ => ?_) fun _ => ?_ | refine sAl (leafE 19 b) (fun g => ?_) fun g => ?_ | exact sd | exact sde (leafE 19 b) | exact sdp (leafE 19 b) | refine stk (leafE 19 b) ?_ | fail
  all_goals
   refine cn ?_ ?_
   ·intro h; try exact absurd h (by decide)
    try (exfalso; (try simp only [Bool.not_eq_eq_eq_not, Bool.not_true, Bool.not_false, decide_eq_false_iff_not, decide_eq_true_eq] at *); first | omega | (have g0 := g rfl; omega) | (simp_all; done))
   intro h; try exact absurd h (by decide)
   try (exfalso; (try simp only [Bool.not_eq_eq_eq_not, Bool.not_true, Bool.not_false, decide_eq_false_iff_not, decide_eq_true_eq] at *); first | omega | (have g0 := g rfl; omega) | (simp_all; done))
   refine rg ΦRB19_ok [1, 42] (leafE 19 b) ?_
   refine cn ?_ ?_
   ·intro h; try exact absurd h (by decide)
    try (exfalso; (try simp only [Bool.not_eq_eq_eq_not, Bool.not_true, Bool.not_false, decide_eq_false_iff_not, decide_eq_true_eq] at *); first | omega | (have g0 := g rfl; omega) | (simp_all; done))
   intro h; try exact absurd h (by decide)
   try (exfalso; (try simp only [Bool.not_eq_eq_eq_not, Bool.not_true, Bool.not_false, decide_eq_false_iff_not, decide_eq_true_eq] at *); first | omega | (have g0 := g rfl; omega) | (simp_all; done))
   refine rB ΦRB19_ok [1, 50] (leafE 19 b) fun K' hK => ?_
   repeat' first | (refine lf hK (leafE 19 b) ?_; clear hK K') | with_reducible apply And.intro | refine sA (leafE 19 b) (fun _ => ?_) fun _ => ?_ | refine sAb (leafE 19 b) (fun _ => ?_) fun _ => ?_ | refine sAl (leafE 19 b) (fun g => ?_) fun g => ?_ | exact sd | exact sde (leafE 19 b) | exact sdp (leafE 19 b) | refine stk (leafE 19 b) ?_ | fail
   all_goals
    refine cn ?_ ?_
    ·intro h; try exact absurd h (by decide)
     try (exfalso; (try simp only [Bool.not_eq_eq_eq_not, Bool.not_true, Bool.not_false, decide_eq_false_iff_not, decide_eq_true_eq] at *); first | omega | (have g0 := g rfl; omega) | (simp_all; done))
    intro h; try exact absurd h (by decide)
    try (exfalso; (try simp only [Bool.not_eq_eq_eq_not, Bool.not_true, Bool.not_false, decide_eq_false_iff_not, decide_eq_true_eq] at *); first | omega | (have g0 := g rfl; omega) | (simp_all; done))
    refine rg ΦRB19_ok [1, 55] (leafE 19 b) ?_
    refine cn ?_ ?_
    ·intro h; try exact absurd h (by decide)
     try (exfalso; (try simp only [Bool.not_eq_eq_eq_not, Bool.not_true, Bool.not_false, decide_eq_false_iff_not, decide_eq_true_eq] at *); first | omega | (have g0 := g rfl; omega) | (simp_all; done))
    intro h; try exact absurd h (by decide)
    try (exfalso; (try simp only [Bool.not_eq_eq_eq_not, Bool.not_true, Bool.not_false, decide_eq_false_iff_not, decide_eq_true_eq] at *); first | omega | (have g0 := g rfl; omega) | (simp_all; done))
    refine rg ΦRB19_ok [2] (leafE 19 b) ?_
    first
    | exact fz (leafE 19 b)
    | exact fz trivial)
@[go_sem] noncomputable def rdeep19F : PFn := PF [SNp 19] (fun (b : List UInt8) => True) (fun (b : List UInt8) => [.int .i64 1])
theorem rdeep19_ok : Pure E 160 rdeep19F := Pure.of_sig (rs := [.tmp 2]) (n := 25) Tryz.func160 rfl rfl rfl (Nat.le_of_ble_eq_true rfl) (by
 intro (b : List UInt8) hds
 refine st0 ?_
 refine rg sound_nil [1] (leafE 19 b) ?_
 refine rg sound_nil [1, 3] (leafE 19 b) ?_
 refine rg sound_nil [1, 3, 4] (leafE 19 b) ?_
 refine nx ?_
 refine VC.loopP (ι := Unit) [1, 3, 4] (fun i => []) (fun _ => [(1, .cells [.dat (.int .i64 0), .dat (.int .i64 19), .dat (.bool false), .dat (.lst (bytesD b)), .dat (.lst [])] false)]) (fun i => True) (fun i => 0) () (trivial) (ete (leafE 19 b)) ?_
 rintro u hp; try dsimp only at hp
 refine st0 ?_
 refine rg sound_nil [1, 3, 4, 10] (leafE 19 b) ?_
 refine cn ?_ ?_
 ·intro h; try exact absurd h (by decide)
  all_goals
   refine rg sound_nil [1, 3, 4, 5] (leafE 19 b) ?_
   refine rg sound_nil [1, 3, 4, 5, 21] (leafE 19 b) ?_
   refine cn ?_ ?_
   ·intro h; try exact absurd h (by decide)
    all_goals
     refine rgL sound_nil (leafE 19 b) ?_
     refine rgL sound_nil (leafE 19 b) ?_
     refine nx ?_
     exact ⟨(), trivial, ete (leafE 19 b), by omega⟩
   ·intro h; try exact absurd h (by decide)
    all_goals
     refine rgL sound_nil (leafE 19 b) ?_
     refine nx ?_
     exact ⟨(), trivial, ete (leafE 19 b), by omega⟩
 ·intro h; try exact absurd h (by decide)
  all_goals
   refine rg sound_nil [2] (leafE 19 b) ?_
   first
   | exact fz (leafE 19 b)
   | exact fz trivial)
noncomputable def ΦRW19 : Fns := tab [(160, rdeep19F), (57, list0F), (161, rbrk19F)]
theorem ΦRW19_ok : Sound E ΦRW19 := sound_cons (by kernel_rfl) rdeep19_ok (sound_cons (by kernel_rfl) list0_ok (sound_cons (by kernel_rfl) rbrk19_ok (sound_nil)))
@[go_sem] theorem ΦRW19_r : ΦRW19 160 = some rdeep19F ∧ ΦRW19 57 = some list0F ∧ ΦRW19 161 = some rbrk19F := ⟨rfl, rfl, rfl⟩
theorem leafA19 (b : List UInt8) : (T.mk 0 19 false b []).all = [T.mk 0 19 false b []] ∧ (T.mk 0 19 false b []).sz = 5 + b.length ∧ nodesD [T.mk 0 19 false b []] = [[.int .i64 0, .int .i64 19, .bool false, .lst (bytesD b), .lst []]] := by
 refine ⟨?_, ?_, ?_⟩
 ·rw [T.all_eq]; exact congrArg _ T.alls_nil
 ·rw [T.sz_mk, T.szs_nil, Nat.add_zero]
 ·rw [nodesD_cons, nodesD_nil, nodeC, nodesD_nil]
@[go_sem] noncomputable def rwrong19F : PFn := PF [SNp 19] (fun (b : List UInt8) => b.length ≤ 90000) (fun (b : List UInt8) => [.int .i64 (if b.all prt8 then 0 else 4), .int .i64 (if b.all prt8 then -1 else 0)])
theorem rwrong19_ok : Pure E 118 rwrong19F := Pure.of_sig (rs := [.tmp 2, .tmp 3]) (n := 32) Tryz.func118 rfl rfl rfl (Nat.le_of_ble_eq_true rfl) (by
 intro (b : List UInt8) hds
 obtain ⟨R, hR, hRc⟩ : ∃ R : Int, (if b.all prt8 = true then 0 else 4 : Int) = R ∧ (R = 0 ∧ b.all prt8 = true ∨ R = 4 ∧ b.all prt8 = false) := ⟨_, rfl, by cases b.all prt8 <;> simp⟩
 refine st0 ?_
 refine rg ΦRW19_ok [1] (And.intro (leafA19 b) (leafE 19 b)) ?_
 refine rg ΦRW19_ok [1, 4] (And.intro (leafA19 b) (leafE 19 b)) ?_
 refine rg ΦRW19_ok [1, 11] (And.intro (leafA19 b) (leafE 19 b)) ?_
 refine cn ?_ ?_
 ·intro h; try exact absurd h (by decide)
  try (exfalso; (try simp only [Bool.not_eq_eq_eq_not, Bool.not_true, Bool.not_false, decide_eq_false_iff_not, decide_eq_true_eq] at *); first | omega | (have g0 := g rfl; omega) | (simp_all; done))
  all_goals
   refine rg ΦRW19_ok [2, 3] (And.intro (leafA19 b) (leafE 19 b)) ?_
   first
   | exact fz hy
 ·intro h; try exact absurd h (by decide)
  try (exfalso; (try simp only [Bool.not_eq_eq_eq_not, Bool.not_true, Bool.not_false, decide_eq_false_iff_not, decide_eq_true_eq] at *); first | omega | (have g0 := g rfl; omega) | (simp_all; done))
  all_goals
   refine rg ΦRW19_ok [5] (And.intro (leafA19 b) (leafE 19 b)) ?_
   refine rg ΦRW19_ok [5, 16] (And.intro (leafA19 b) (leafE 19 b)) ?_
   refine cn ?_ ?_
   ·intro h; try exact absurd h (by decide)
    try (exfalso; (try simp only [Bool.not_eq_eq_eq_not, Bool.not_true, Bool.not_false, decide_eq_false_iff_not, decide_eq_true_eq] at *); first | omega | (have g0 := g rfl; omega) | (simp_all; done))
    all_goals
     refine rg ΦRW19_ok [2, 3] (And.intro (leafA19 b) (leafE 19 b)) ?_
     first
     | exact fz hy
   ·intro h; try exact absurd h (by decide)
    try (exfalso; (try simp only [Bool.not_eq_eq_eq_not, Bool.not_true, Bool.not_false, decide_eq_false_iff_not, decide_eq_true_eq] at *); first | omega | (have g0 := g rfl; omega) | (simp_all; done))
    all_goals
     refine rg ΦRW19_ok [5, 6] (And.intro (leafA19 b) (leafE 19 b)) ?_
     refine nx ?_
     refine VC.loopP (ι := Nat) [5] (fun i => [(6, .dat (.int .i64 (i : Int)))]) (fun _ => []) (fun i => i ≤ 1 ∧ (i = 1 → b.all prt8 = true)) (fun i => 1 - i) 0 (⟨by omega, fun h => by omega⟩) (ete (And.intro (leafA19 b) (leafE 19 b))) ?_
     rintro i hp; try dsimp only at hp
     refine st0 ?_
     refine rg ΦRW19_ok [5, 6, 20] (And.intro (leafA19 b) (leafE 19 b)) ?_
     refine cn ?_ ?_
     ·intro h; try exact absurd h (by decide)
      try (exfalso; (try simp only [Bool.not_eq_eq_eq_not, Bool.not_true, Bool.not_false, decide_eq_false_iff_not, decide_eq_true_eq] at *); first | omega | (have g0 := g rfl; omega) | (simp_all; done))
      all_goals
       obtain rfl : i = 0 := by omega
       refine rg ΦRW19_ok [5, 6, 7] (And.intro hR (And.intro (leafA19 b) (leafE 19 b))) ?_
       refine rg ΦRW19_ok [5, 6, 7, 29] (And.intro (leafA19 b) (leafE 19 b)) ?_
       refine cn ?_ ?_
       ·intro h; try exact absurd h (by decide)
        try (exfalso; (try simp only [Bool.not_eq_eq_eq_not, Bool.not_true, Bool.not_false, decide_eq_false_iff_not, decide_eq_true_eq] at *); first | omega | (have g0 := g rfl; omega) | (simp_all; done))
        all_goals
         have hv : ¬ b.all prt8 = true := by
          rcases hRc with h | h
          ·omega
          ·rw [h.2]; decide
         have h4 : R = 4 := by rcases hRc with h | h <;> omega
         have hy := And.intro h4 (And.intro (if_neg hv : (if b.all prt8 = true then 0 else 4 : Int) = 4) (if_neg hv : (if b.all prt8 = true then -1 else 0 : Int) = 0))
         refine rg ΦRW19_ok [2, 3] (And.intro (leafA19 b) (leafE 19 b)) ?_
         first
         | exact fz hy
       ·intro h; try exact absurd h (by decide)
        try (exfalso; (try simp only [Bool.not_eq_eq_eq_not, Bool.not_true, Bool.not_false, decide_eq_false_iff_not, decide_eq_true_eq] at *); first | omega | (have g0 := g rfl; omega) | (simp_all; done))
        all_goals
         refine rgL ΦRW19_ok (And.intro (leafA19 b) (leafE 19 b)) ?_
         refine nx ?_
         exact ⟨1, ⟨by omega, fun _ => by
          rcases hRc with h | h
          ·exact h.2
          ·omega⟩, ete (And.intro (leafA19 b) (leafE 19 b)), by omega⟩
     ·intro h; try exact absurd h (by decide)
      try (exfalso; (try simp only [Bool.not_eq_eq_eq_not, Bool.not_true, Bool.not_false, decide_eq_false_iff_not, decide_eq_true_eq] at *); first | omega | (have g0 := g rfl; omega) | (simp_all; done))
      all_goals
       have hv := hp.2 (by omega)
       have hy := And.intro (if_pos hv : (if b.all prt8 = true then 0 else 4 : Int) = 0) (if_pos hv : (if b.all prt8 = true then -1 else 0 : Int) = -1)
       refine rg ΦRW19_ok [2, 3] (And.intro (leafA19 b) (leafE 19 b)) ?_
       first
       | exact fz hy)
noncomputable def ΦRC19 : Fns := tab [(118, rwrong19F)]
theorem ΦRC19_ok : Sound E ΦRC19 := sound_cons (by kernel_rfl) rwrong19_ok (sound_nil)
@[go_sem] theorem ΦRC19_r : ΦRC19 118 = some rwrong19F := rfl
@[go_sem] noncomputable def rcheck19F : PFn := PF [SNp 19] (fun (b : List UInt8) => b.length ≤ 90000) (fun (b : List UInt8) => [.int .i64 (if b.all prt8 then 0 else 110)])
theorem rcheck19_ok : Pure E 83 rcheck19F := Pure.of_sig (rs := [.tmp 2]) (n := 12) Tryz.func83 rfl rfl rfl (Nat.le_of_ble_eq_true rfl) (by
 intro (b : List UInt8) hds
 refine st0 ?_
 refine rg ΦRC19_ok [1] (leafE 19 b) ?_
 refine rg ΦRC19_ok [3] (leafE 19 b) ?_
 refine rg ΦRC19_ok [11] (leafE 19 b) ?_
 refine cn ?_ ?_
 ·intro h; try exact absurd h (by decide)
  all_goals
   have hy : (if b.all prt8 = true then 0 else 110 : Int) = 110 := if_neg (by intro hv; rw [if_pos hv] at *; simp_all)
   refine rg ΦRC19_ok [2] (leafE 19 b) ?_
   first
   | exact fz hy
 ·intro h; try exact absurd h (by decide)
  all_goals
   have hy : (if b.all prt8 = true then 0 else 110 : Int) = 0 := if_pos (by cases hv : b.all prt8 <;> simp_all)
   refine rg ΦRC19_ok [2] (leafE 19 b) ?_
   first
   | exact fz hy)
end Go.Proofs.YtpajpkbipagjpaaGreatDoor.Oc
namespace Go.Proofs.YtpajpkbipagjpaaGreatDoor.Oc
open Go Go.RowKit Go.Proofs.YtpajpkbipagjpaaGreatDoor.Vm Go.Proofs.YtpajpkbipagjpaaGreatDoor.Tr Go.IntWalk
set_option maxRecDepth 100000
set_option maxHeartbeats 4000000
theorem Pure.of_label2 {f : Nat} {R : Bool × List UInt8 → List Vm.Data} (h12 : Pure E f (PF [SNp 12] (fun b : List UInt8 => b.length ≤ 90000) (fun b : List UInt8 => R (false, b)))) (h19 : Pure E f (PF [SNp 19] (fun b : List UInt8 => b.length ≤ 90000) (fun b : List UInt8 => R (true, b)))) :
 Pure E f (PF [SLb] (fun x : Bool × List UInt8 => x.2.length ≤ 90000) (fun x : Bool × List UInt8 => R x)) := by
 intro w J args ds hJ hG hR hpre
 have key : allS (fun ds r => ∃ p, Pure E f p ∧ p.pre ds ∧ p.res ds = r) [SLb] (fun x : Bool × List UInt8 => x.2.length ≤ 90000) (fun x : Bool × List UInt8 => R x) id := by
  rintro ⟨p, b⟩ hb
  cases p with
  | false =>
    refine ⟨_, h12, ?_, ?_⟩
    ·show ap False [SNp 12] _ [(SNp 12).enc b]
     rw [ap_cons, Sig.dec_enc, apO_some]; exact hb
    ·show ap [] [SNp 12] _ [(SNp 12).enc b] = _
     rw [ap_cons, Sig.dec_enc, apO_some]; rfl
  | true =>
    refine ⟨_, h19, ?_, ?_⟩
    ·show ap False [SNp 19] _ [(SNp 19).enc b]
     rw [ap_cons, Sig.dec_enc, apO_some]; exact hb
    ·show ap [] [SNp 19] _ [(SNp 19).enc b] = _
     rw [ap_cons, Sig.dec_enc, apO_some]; rfl
 obtain ⟨p, hp, h1, h2⟩ := allS_ok (z := []) _ _ _ id key ds hpre
 rw [PF_res, ← h2]
 exact hp w J args ds hJ hG hR h1
@[go_sem] noncomputable def rcheckLF : PFn := PF [SLb] (fun x : Bool × List UInt8 => x.2.length ≤ 90000) (fun x : Bool × List UInt8 => [.int .i64 (if fits2 x.1 x.2 then 0 else 110)])
theorem rcheckL_ok : Pure E 83 rcheckLF := Pure.of_label2 (R := fun x => [.int .i64 (if fits2 x.1 x.2 then 0 else 110)]) rcheck12_ok rcheck19_ok
end Go.Proofs.YtpajpkbipagjpaaGreatDoor.Oc
namespace Go.Proofs.YtpajpkbipagjpaaGreatDoor.Oc
open Go Go.RowKit Go.Proofs.YtpajpkbipagjpaaGreatDoor.Vm Go.Proofs.YtpajpkbipagjpaaGreatDoor.Tr Go.IntWalk
set_option maxRecDepth 100000
set_option maxHeartbeats 4000000
theorem kind_at {k : Int} (h : 1 ≤ k ∧ k ≤ 3) : ([[.str []], [.str [99, 111, 109, 109, 111, 110, 78, 97, 109, 101]], [.str [111, 114, 103, 97, 110, 105, 122, 97, 116, 105, 111, 110, 78, 97, 109, 101]], [.str [99, 111, 117, 110, 116, 114, 121, 78, 97, 109, 101]]] : List (List Vm.Data)).getD k.toNat [] = [.str (kindN k)] := by
 have : k = 1 ∨ k = 2 ∨ k = 3 := by omega
 rcases this with rfl | rfl | rfl <;> rfl
theorem kind_no {k : Int} (h : k < 1 ∨ 3 < k) : kindN k = [] := by unfold kindN; (repeat' split) <;> first | rfl | omega
@[go_sem] noncomputable def rkindF : PFn := PF [SI .i64] (fun (k : Int) => True) (fun (k : Int) => [.str (kindN k)])
theorem rkind_ok : Pure E 81 rkindF := Pure.of_sig (rs := [.tmp 2]) (n := 13) Tryz.func81 rfl rfl rfl (Nat.le_of_ble_eq_true rfl) (by
 intro (k : Int) hds
 refine st0 ?_
 refine rg sound_nil [0] trivial ?_
 refine rB sound_nil [0, 8] trivial fun K' hK => ?_
 repeat' first | (refine lf hK trivial ?_; clear hK K') | with_reducible apply And.intro | refine sA trivial (fun _ => ?_) fun _ => ?_ | refine sAb trivial (fun _ => ?_) fun _ => ?_ | refine sAl trivial (fun g => ?_) fun g => ?_ | exact sd | exact sde trivial | exact sdp trivial | refine stk trivial ?_ | fail
 all_goals
  refine cn ?_ ?_
  ·intro h; try exact absurd h (by decide)
   try (exfalso; (try simp only [Bool.not_eq_eq_eq_not, Bool.not_true, Bool.not_false, decide_eq_false_iff_not, decide_eq_true_eq] at *); omega)
   all_goals
    have hy := kind_no (k := k) (by first | exact .inl (by omega) | exact .inr (by omega))
    refine rg sound_nil [2] trivial ?_
    first
    | exact fz hy
    | exact fz trivial
  ·intro h; try exact absurd h (by decide)
   try (exfalso; (try simp only [Bool.not_eq_eq_eq_not, Bool.not_true, Bool.not_false, decide_eq_false_iff_not, decide_eq_true_eq] at *); omega)
   all_goals
    have hk : 1 ≤ k ∧ k ≤ 3 := by constructor <;> omega
    refine rg sound_nil [2] (kind_at hk) ?_
    first
    | exact fz hy
    | exact fz trivial)
end Go.Proofs.YtpajpkbipagjpaaGreatDoor.Oc
