/- What functions of the program, of its library and of the document compute: their contracts, and laws about what they compute (X07). No condition. -/
import Derived.Test.YtpajpkbipagjpaaGreatDoorX06
import Derived.Test.YtpajpkbipagjpaaGreatDoorX03
import Derived.Test.YtpajpkbipagjpaaGreatDoorX04
import Derived.Shelf.Spec.SlicesInsert
import Derived.Lib.AppendZerosOnto
import Derived.Laws.NewBlocks
import Derived.Test.YtpajpkbipagjpaaGreatDoorX02
import Derived.Test.YtpajpkbipagjpaaGreatDoorX05
set_option linter.unusedVariables false
set_option linter.unusedSimpArgs false
namespace Go.Proofs.YtpajpkbipagjpaaGreatDoor.Oc
open Go Go.RowKit Go.Proofs.YtpajpkbipagjpaaGreatDoor.Vm Go.Proofs.YtpajpkbipagjpaaGreatDoor.Tr Go.IntWalk
set_option maxRecDepth 100000
set_option maxHeartbeats 4000000
def grp (n j : Nat) : List UInt8 := if j < 9 ∧ n / 2 ^ (63 - 7 * j) = 0 then [] else [UInt8.ofNat (n / 2 ^ (63 - 7 * j) % 128 + if j = 9 then 0 else 128)]
def encTo (n j : Nat) : List UInt8 := (List.range j).flatMap (grp n)
def enc1 (n : Nat) : List UInt8 := encTo n 10
theorem encTo_succ (n j : Nat) : encTo n (j + 1) = encTo n j ++ grp n j := by simp [encTo, List.range_succ]
theorem encTo_zero (n : Nat) : encTo n 0 = [] := rfl
theorem grp_skip {n j : Nat} (h : j < 9) (h' : n / 2 ^ (63 - 7 * j) = 0) : grp n j = [] := if_pos ⟨h, h'⟩
theorem grp_more {n j : Nat} (h : j < 9) (h' : ¬ n / 2 ^ (63 - 7 * j) = 0) : grp n j = [UInt8.ofNat (n / 2 ^ (63 - 7 * j) % 128 + 128)] := by
 unfold grp; rw [if_neg (fun e => h' e.2), if_neg (by omega)]
theorem grp_last {n j : Nat} (h : j = 9) : grp n j = [UInt8.ofNat (n / 2 ^ (63 - 7 * j) % 128)] := by
 unfold grp; rw [if_neg (by omega), if_pos h]; rfl
theorem shr_at (n j : Nat) (h : j ≤ 9) : (n : Int).fdiv (2 ^ min (63 - 7 * (j : Int)).toNat 64) = ((n / 2 ^ (63 - 7 * j) : Nat) : Int) := by
 have e : min (63 - 7 * (j : Int)).toNat 64 = 63 - 7 * j := by omega
 rw [e, Int.fdiv_eq_ediv_of_nonneg _ (by exact Int.le_of_lt (Int.pow_pos (by decide)))]
 simp
theorem and127 : ∀ b : Fin 256, bits .and .u8 (b.val : Int) 127 = ((b.val % 128 : Nat) : Int) := by decide +kernel
theorem or128 : ∀ b : Fin 128, bits .or .u8 (b.val : Int) 128 = ((b.val + 128 : Nat) : Int) := by decide +kernel
theorem low7 (x : Nat) : bits .and .u8 (IntKind.u8.wrap (x : Int)) 127 = ((x % 128 : Nat) : Int) := by
 have h := and127 ⟨x % 256, Nat.mod_lt _ (by decide)⟩
 rw [show IntKind.u8.wrap (x : Int) = ((x % 256 : Nat) : Int) by rw [IntKind.wrap_u8]; omega]
 rw [h]
 simp only [Int.natCast_inj]; omega
theorem high (x : Nat) : bits .or .u8 ((x % 128 : Nat) : Int) 128 = ((x % 128 + 128 : Nat) : Int) := or128 ⟨x % 128, Nat.mod_lt _ (by decide)⟩
theorem byte_snoc0 (l : List UInt8) (x : Nat) (h : x < 256) : bytesD l ++ [[.int .u8 (x : Int)]] = bytesD (l ++ [UInt8.ofNat x]) := by
 rw [← bytesD_snoc, UInt8.toNat_ofNat', Nat.mod_eq_of_lt h]
theorem byte_snoc7 (l : List UInt8) (x : Nat) : bytesD l ++ [[.int .u8 ((x % 128 : Nat) : Int)]] = bytesD (l ++ [UInt8.ofNat (x % 128)]) := byte_snoc0 l _ (by have := Nat.mod_lt x (show 0 < 128 by decide); omega)
theorem byte_snoc8 (l : List UInt8) (x : Nat) : bytesD l ++ [[.int .u8 ((x % 128 + 128 : Nat) : Int)]] = bytesD (l ++ [UInt8.ofNat (x % 128 + 128)]) := byte_snoc0 l _ (by have := Nat.mod_lt x (show 0 < 128 by decide); omega)
theorem grp_len (n j : Nat) : (grp n j).length ≤ 1 := by unfold grp; split <;> simp
theorem encTo_len (n j : Nat) : (encTo n j).length ≤ j := by
 induction j with
 | zero => simp [encTo]
 | succ j ih => rw [encTo_succ, List.length_append]; have := grp_len n j; omega
def num (l : List Nat) (k : Nat) : Nat := if k = 0 then l.getD 1 0 + 40 * l.getD 0 0 else l.getD (k + 1) 0
theorem num_zero (l : List Nat) (k : Nat) (h : k = 0) : num l k = l.getD (k + 1) 0 + 40 * l.getD 0 0 := by subst h; rfl
theorem num_pos (l : List Nat) (k : Nat) (h : ¬ k = 0) : num l k = l.getD (k + 1) 0 := if_neg h
@[go_sem] theorem getD_drop1 (l : List Nat) (k : Nat) : (l.drop 1).getD k 0 = l.getD (k + 1) 0 := by simp [List.getD_eq_getElem?_getD, Nat.add_comm]
def encN (l : List Nat) (k : Nat) : List UInt8 := (List.range k).flatMap fun i => enc1 (num l i)
theorem encN_len (l : List Nat) (k : Nat) : (encN l k).length ≤ 10 * k := by
 induction k with
 | zero => simp [encN]
 | succ k ih =>
   have e : encN l (k + 1) = encN l k ++ enc1 (num l k) := by simp [encN, List.range_succ]
   rw [e, List.length_append]; have := encTo_len (num l k) 10; unfold enc1; omega
def enc (l : List Nat) : List UInt8 := encN l (l.length - 1)
def encO (l : List Nat) : List UInt8 := if may l then enc l else []
theorem encN_succ (l : List Nat) (k : Nat) : encN l (k + 1) = encN l k ++ enc1 (num l k) := by simp [encN, List.range_succ]
theorem encO_len (l : List Nat) : (encO l).length ≤ 200 := by
 unfold encO
 split
 ·rename_i h
  have := of_decide_eq_true h
  have := encN_len l (l.length - 1)
  unfold enc; omega
 ·simp
theorem ocE : (∀ n j : Nat, j ≤ 9 → (n : Int).fdiv (2 ^ min (63 - 7 * (j : Int)).toNat 64) = ((n / 2 ^ (63 - 7 * j) : Nat) : Int)) ∧ (∀ x : Nat, bits .and .u8 (IntKind.u8.wrap (x : Int)) 127 = ((x % 128 : Nat) : Int)) ∧ (∀ x : Nat, bits .or .u8 ((x % 128 : Nat) : Int) 128 = ((x % 128 + 128 : Nat) : Int)) ∧ (∀ (l : List Nat) (k : Nat), (l.drop 1).getD k 0 = l.getD (k + 1) 0) ∧ (∀ l : List Nat, List.take ((l.length : Int) - 1).toNat (List.drop 1 l) = List.drop 1 l) := ⟨shr_at, low7, high, getD_drop1, fun l => List.take_of_length_le (by rw [List.length_drop]; omega)⟩
noncomputable def ΦBY : Fns := tab [(149, checkF)]
theorem ΦBY_ok : Sound E ΦBY := sound_cons (by kernel_rfl) check_ok (sound_nil)
@[go_sem] theorem ΦBY_r : ΦBY 149 = some checkF ∧ ΦBY 150 = none ∧ ΦBY 199 = none := ⟨rfl, rfl, rfl⟩
@[go_sem] theorem ΦBY_c : callable Tryz.prog 150 = true ∧ callable Tryz.prog 199 = true := ⟨by kernel_rfl, by kernel_rfl⟩
theorem grp_skipF {n j : Nat} (h : j < 9) (h' : (n : Int).fdiv (2 ^ min (63 - 7 * (j : Int)).toNat 64) = 0) : grp n j = [] := by
 rw [shr_at n j (by omega)] at h'; exact grp_skip h (Int.ofNat.inj h')
theorem grp_moreF {n j : Nat} (h : j < 9) (h' : ¬ (n : Int).fdiv (2 ^ min (63 - 7 * (j : Int)).toNat 64) = 0) : grp n j = [UInt8.ofNat (n / 2 ^ (63 - 7 * j) % 128 + 128)] := by
 rw [shr_at n j (by omega)] at h'; exact grp_more h (fun e => h' (by rw [e]; rfl))
theorem num_wrap {l : List Nat} {k : Nat} (h : k = 0) (h2 : l.getD 1 0 + 40 * l.getD 0 0 ≤ 9223372036854775807) : IntKind.u64.wrap ((l.getD (k + 1) 0 : Int) + 40 * (l.getD 0 0 : Int)) = ((num l k : Nat) : Int) := by
 subst h; rw [num_zero l 0 rfl, Nat.zero_add, u64_in _ (by omega)]; omega
theorem encO_yes {l : List Nat} (h : may l = true) : encO l = enc l := if_pos h
theorem may_not {p : Bool} (h : ¬ (if p = true then 0 else 140 : Int) = 0) : p = false := by cases p <;> simp_all
theorem may_is {p : Bool} (h : (if p = true then 0 else 140 : Int) = 0) : p = true := by cases p <;> simp_all
@[go_sem] noncomputable def bytesO : OFn := OF [SN] (fun (l : List Nat) => l.length ≤ 4611686018427387904) 5 1 (fun (l : List Nat) => bytesD (encO l)) (fun (l : List Nat) => [.int .i64 (if may l then 0 else 140)])
@[go_sem] noncomputable def bytesF : PFn := bytesO.shut
theorem bytes_own : Own E 105 bytesO := Own.of_sig (rs := [.tmp 2, .tmp 3]) (n := 45) Tryz.func105 rfl rfl rfl (Nat.le_of_ble_eq_true rfl) (by
 intro (l : List Nat) hds
 refine st0 ?_
 refine rg ΦBY_ok [0, 8, 9] ocE ?_
 refine rg ΦBY_ok [0, 4, 8, 9] ocE ?_
 refine rg ΦBY_ok [0, 4, 8, 9, 13] ocE ?_
 refine cn ?_ ?_
 ·intro h; try exact absurd h (by decide)
  all_goals
   have hm : may l = false := may_not (by assumption)
   have eo : encO l = [] := by simp [encO, hm]
   refine rg ΦBY_ok [2, 3] ocE ?_
   exact fz (And.intro hm eo)
 ·intro h; try exact absurd h (by decide)
  all_goals
   have hm : may l = true := may_is (by assumption)
   have hml := of_decide_eq_true hm
   have hl1 : (List.drop 1 l).length = l.length - 1 := List.length_drop
   refine rg ΦBY_ok [0, 5, 8, 9] ocE ?_
   refine rg ΦBY_ok [0, 5, 8, 9, 16, 17, 18] ocE ?_
   refine nx ?_
   refine VC.loopM (ι := Nat) [0, 5, 16, 17] (fun k => [(18, .dat (.int .i64 (k : Int)))]) marks (fun k => (1, .cells [.sl 2 0 (encN l k).length] false) :: (2, .arr 5 1 (bytesD (encN l k)) 0) :: marksH k) (fun k => k ≤ l.length - 1) (fun k => l.length - 1 - k) 0 (Nat.zero_le _) ?_ ?_
   ·refine (Ent.nilC 1 0 2 5 1 (cs := [.nilsl]) (fz := false) (by decide) (by simp -implicitDefEqProofs only [go_sem, Nat.reduceLT, Nat.reduceAdd, Nat.reduceEqDiff, reduceIte, Nat.reduceMul, Nat.reduceSub, reduceCtorEq, Int.reduceNe, Int.reduceEq, ne_eq, Nat.reduceLeDiff, Nat.reduceMod, Nat.reduceDiv]) (by decide) (by simp -implicitDefEqProofs only [go_sem, Nat.reduceLT, Nat.reduceAdd, Nat.reduceEqDiff, reduceIte, Nat.reduceMul, Nat.reduceSub, reduceCtorEq, Int.reduceNe, Int.reduceEq, ne_eq, Nat.reduceLeDiff, Nat.reduceMod, Nat.reduceDiv]) rfl).trans (Ent.to rfl rfl rfl ?_ ?_)
    ·simp -implicitDefEqProofs only [go_sem, Nat.reduceLT, Nat.reduceAdd, Nat.reduceEqDiff, reduceIte, Nat.reduceMul, Nat.reduceSub, reduceCtorEq, Int.reduceNe, Int.reduceEq, ne_eq, Nat.reduceLeDiff, Nat.reduceMod, Nat.reduceDiv]; (try simp only [D.dat.injEq, Vm.Data.int.injEq, true_and, and_true, and_self, eq_self]); (try omega); (try ((repeat' apply And.intro) <;> first | omega | rfl))
    ·(repeat' (first | exact all_nil | exact marks_tail [] rfl (by simp) | (refine all_cons ?_ ?_))) <;> (simp -implicitDefEqProofs only [go_sem, Nat.reduceLT, Nat.reduceAdd, Nat.reduceEqDiff, reduceIte, Nat.reduceMul, Nat.reduceSub, reduceCtorEq, Int.reduceNe, Int.reduceEq, ne_eq, Nat.reduceLeDiff, Nat.reduceMod, Nat.reduceDiv]; (try rfl); skip)
   intro k hk; (try dsimp only at hk)
   refine st0 ?_
   refine rg ΦBY_ok [0, 5, 8, 9, 16, 17, 18, 19] ocE ?_
   refine cn ?_ ?_
   ·intro h; try exact absurd h (by decide)
    all_goals
     refine rg ΦBY_ok [0, 5, 6, 7, 8, 9, 16, 17, 18] ocE ?_
     refine rg ΦBY_ok [0, 5, 7, 8, 9, 16, 17, 18, 24] ocE ?_
     refine cn ?_ ?_
     ·intro h; try exact absurd h (by decide)
      all_goals
       refine rgL ΦBY_ok ocE ?_
       first
       | rw [num_wrap (by omega) (by omega)]
       | rw [show (l.getD (k + 1) 0 : Int) = ((num l k : Nat) : Int) by rw [num_pos l k (by omega)]]
       refine rB ΦBY_ok [0, 5, 8, 9, 16, 17, 18, 32] ocE fun K' hK => ?_
       repeat' first | with_reducible apply And.intro | exact sd | exact sde ocE | exact sdp ocE | refine stk ocE ?_ | fail
       refine ec (rs := [.tmp 2]) (n := 4) Tryz.func150 rfl rfl rfl ?_
       refine rg ΦBY_ok [1] trivial ?_
       refine rg ΦBY_ok [2] trivial ?_
       refine nx ?_
       refine rt ocE ?_
       repeat' first | (refine lf hK ocE ?_; clear hK K') | with_reducible apply And.intro | exact sd | exact sde ocE | exact sdp ocE | refine stk ocE ?_ | fail
       all_goals
        refine nx ?_
        refine re (rs := []) (n := 26) (100 + k) 4 Tryz.func199 rfl rfl rfl fun A B hA hB => ?_
        refine rg ΦBY_ok [0, 1, 3] ocE ?_
        refine nx ?_
        refine VC.loopS (ι := Nat) [0, 1] (fun j => [(3, .dat (.int .i64 (63 - 7 * (j : Int))))]) (fun j => [(1, .cells [.sl 2 0 (encN l k ++ encTo (num l k) j).length] false), (2, .arr 5 1 (bytesD (encN l k ++ encTo (num l k) j)) 0)]) (fun j => j ≤ 10) (fun j => 10 - j) 0 (Nat.zero_le _) ?_ ?_
        ·refine Ent.to rfl rfl rfl ?_ ?_
         ·simp -implicitDefEqProofs only [go_sem, Nat.reduceLT, Nat.reduceAdd, Nat.reduceEqDiff, reduceIte, Nat.reduceMul, Nat.reduceSub, reduceCtorEq, Int.reduceNe, Int.reduceEq, ne_eq, Nat.reduceLeDiff, Nat.reduceMod, Nat.reduceDiv]; (try simp only [D.dat.injEq, Vm.Data.int.injEq, true_and, and_true, and_self, eq_self]); (try omega); (try ((repeat' apply And.intro) <;> first | omega | rfl))
         ·apply all_at
          ·simp -implicitDefEqProofs only [go_sem, Nat.reduceLT, Nat.reduceAdd, Nat.reduceEqDiff, reduceIte, Nat.reduceMul, Nat.reduceSub, reduceCtorEq, Int.reduceNe, Int.reduceEq, ne_eq, Nat.reduceLeDiff, Nat.reduceMod, Nat.reduceDiv]; simp only [encTo_zero, List.append_nil]; exact rfl
          ·(repeat' (first | exact all_nil | exact marks_tail [_, _, _, _, _] rfl (by simp) | (refine all_cons ?_ ?_))) <;> (simp -implicitDefEqProofs only [go_sem, Nat.reduceLT, Nat.reduceAdd, Nat.reduceEqDiff, reduceIte, Nat.reduceMul, Nat.reduceSub, reduceCtorEq, Int.reduceNe, Int.reduceEq, ne_eq, Nat.reduceLeDiff, Nat.reduceMod, Nat.reduceDiv]; (try rfl); skip)
        intro j hj; (try dsimp only at hj)
        refine st0 ?_
        have hb : (encN l k ++ encTo (num l k) j).length ≤ 300 := by
         have := encN_len l k; have := encTo_len (num l k) j; rw [List.length_append]; omega
        refine rg ΦBY_ok [0, 1, 3, 5] ocE ?_
        refine cn ?_ ?_
        ·intro h; try exact absurd h (by decide)
         all_goals
          refine rB ΦBY_ok [0, 1, 3, 15] ocE fun K' hK => ?_
          repeat' first | (refine lf hK ocE ?_; clear hK K') | with_reducible apply And.intro | refine sA ocE (fun _ => ?_) fun _ => ?_ | refine sAb ocE (fun _ => ?_) fun _ => ?_ | refine sAl ocE (fun g => ?_) fun g => ?_ | exact sd | exact sde ocE | exact sdp ocE | refine stk ocE ?_ | fail
          all_goals
           refine cn ?_ ?_
           ·intro h; try exact absurd h (by decide)
            all_goals
             refine rgL ΦBY_ok ocE ?_
             refine nx ?_
             have eg : encTo (num l k) (j + 1) = encTo (num l k) j ++ grp (num l k) j := encTo_succ _ _
             have es := shr_at (num l k) j (by omega)
             first | rw [grp_skipF (by omega) (by assumption), List.append_nil] at eg | rw [grp_moreF (by omega) (by assumption)] at eg | rw [grp_last (by omega)] at eg
             refine ⟨j + 1, by omega, Ent.to rfl rfl rfl ?_ ?_, by omega⟩
             ·simp -implicitDefEqProofs only [go_sem, Nat.reduceLT, Nat.reduceAdd, Nat.reduceEqDiff, reduceIte, Nat.reduceMul, Nat.reduceSub, reduceCtorEq, Int.reduceNe, Int.reduceEq, ne_eq, Nat.reduceLeDiff, Nat.reduceMod, Nat.reduceDiv]; (try simp (disch := omega) only [i64_in, tmodn, tdivn]); (try simp only [D.dat.injEq, Vm.Data.int.injEq, true_and, and_true, and_self, eq_self]); (try omega); (try ((repeat' apply And.intro) <;> first | omega | rfl))
             ·apply all_at
              ·simp -implicitDefEqProofs only [go_sem, Nat.reduceLT, Nat.reduceAdd, Nat.reduceEqDiff, reduceIte, Nat.reduceMul, Nat.reduceSub, reduceCtorEq, Int.reduceNe, Int.reduceEq, ne_eq, Nat.reduceLeDiff, Nat.reduceMod, Nat.reduceDiv]; (try simp only [eg, es, low7, high]); first | done | exact rfl
              ·(repeat' (first | exact all_nil | exact marks_tail [_, _, _, _, _] rfl (by simp) | exact marks_tail [_, _, _, _, _, _] rfl (by simp) | (refine all_cons ?_ ?_))) <;> (simp -implicitDefEqProofs only [go_sem, Nat.reduceLT, Nat.reduceAdd, Nat.reduceEqDiff, reduceIte, Nat.reduceMul, Nat.reduceSub, reduceCtorEq, Int.reduceNe, Int.reduceEq, ne_eq, Nat.reduceLeDiff, Nat.reduceMod, Nat.reduceDiv]; (try rfl); (try simp only [es, low7, high]); try first | rfl | (simp [List.length_append, Nat.add_assoc]; done) | (rw [byte_snoc8, List.append_assoc]; done) | (rw [byte_snoc7, List.append_assoc]; done))
           ·intro h; try exact absurd h (by decide)
            all_goals
             refine rB ΦBY_ok [0, 1, 3, 25] ocE fun K' hK => ?_
             repeat' first | with_reducible apply And.intro | exact sd | exact sde ocE | exact sdp ocE | refine stk ocE ?_ | fail
             refine yd hA ?_
             refine rg ΦBY_ok [5, 8, 34] ocE ?_
             refine rgL ΦBY_ok ocE ?_
             refine nx ?_
             refine yb hB ?_
             refine rg ΦBY_ok [5, 8, 36] ocE ?_
             refine cn ?_ ?_
             ·intro h; try exact absurd h (by decide)
              all_goals
               refine rgL ΦBY_ok ocE ?_
               refine rgL ΦBY_ok ocE ?_
               refine nx ?_
               refine rt ocE ?_
               repeat' first | (refine lf hK ocE ?_; clear hK K') | with_reducible apply And.intro | exact sd | exact sde ocE | exact sdp ocE | refine stk ocE ?_ | fail
               all_goals
                refine cn ?_ ?_
                ·intro h; try exact absurd h (by decide)
                 all_goals
                  refine nx ?_
                  refine rt ocE ?_
                  refine ya ?_
                  refine rgL ΦBY_ok ocE ?_
                  refine nx ?_
                  have ej : j = 10 := by omega
                  subst ej
                  have ee : encN l k ++ encTo (num l k) 10 = encN l (k + 1) := (encN_succ l k).symm
                  rw [ee]
                  refine ⟨k + 1, by omega, Ent.to rfl (marks_succ k).symm rfl ?_ ?_, by omega⟩
                  ·simp -implicitDefEqProofs only [go_sem, Nat.reduceLT, Nat.reduceAdd, Nat.reduceEqDiff, reduceIte, Nat.reduceMul, Nat.reduceSub, reduceCtorEq, Int.reduceNe, Int.reduceEq, ne_eq, Nat.reduceLeDiff, Nat.reduceMod, Nat.reduceDiv]; (try simp (disch := omega) only [i64_in, tmodn, tdivn]); (try simp only [D.dat.injEq, Vm.Data.int.injEq, true_and, and_true, and_self, eq_self]); (try omega); (try ((repeat' apply And.intro) <;> first | omega | rfl))
                  ·dsimp only; rw [marksH_succ]; (repeat' (first | exact all_nil | exact marks_tail [_, _, _, _, _] rfl (by simp) | exact marks_tail [_, _, _, _] rfl (by simp) | (refine all_cons ?_ ?_))) <;> (simp -implicitDefEqProofs only [go_sem, Nat.reduceLT, Nat.reduceAdd, Nat.reduceEqDiff, reduceIte, Nat.reduceMul, Nat.reduceSub, reduceCtorEq, Int.reduceNe, Int.reduceEq, ne_eq, Nat.reduceLeDiff, Nat.reduceMod, Nat.reduceDiv]; (try rfl); skip)
                ·intro h; try exact absurd h (by decide)
                 all_goals
                  refine rgL ΦBY_ok ocE ?_
                  refine nx ?_
                  have eg : encTo (num l k) (j + 1) = encTo (num l k) j ++ grp (num l k) j := encTo_succ _ _
                  have es := shr_at (num l k) j (by omega)
                  first | rw [grp_skipF (by omega) (by assumption), List.append_nil] at eg | rw [grp_moreF (by omega) (by assumption)] at eg | rw [grp_last (by omega)] at eg
                  refine ⟨j + 1, by omega, Ent.to rfl rfl rfl ?_ ?_, by omega⟩
                  ·simp -implicitDefEqProofs only [go_sem, Nat.reduceLT, Nat.reduceAdd, Nat.reduceEqDiff, reduceIte, Nat.reduceMul, Nat.reduceSub, reduceCtorEq, Int.reduceNe, Int.reduceEq, ne_eq, Nat.reduceLeDiff, Nat.reduceMod, Nat.reduceDiv]; (try simp (disch := omega) only [i64_in, tmodn, tdivn]); (try simp only [D.dat.injEq, Vm.Data.int.injEq, true_and, and_true, and_self, eq_self]); (try omega); (try ((repeat' apply And.intro) <;> first | omega | rfl))
                  ·apply all_at
                   ·simp -implicitDefEqProofs only [go_sem, Nat.reduceLT, Nat.reduceAdd, Nat.reduceEqDiff, reduceIte, Nat.reduceMul, Nat.reduceSub, reduceCtorEq, Int.reduceNe, Int.reduceEq, ne_eq, Nat.reduceLeDiff, Nat.reduceMod, Nat.reduceDiv]; (try simp only [eg, es, low7, high]); first | done | exact rfl
                   ·(repeat' (first | exact all_nil | exact marks_tail [_, _, _, _, _] rfl (by simp) | exact marks_tail [_, _, _, _, _, _] rfl (by simp) | (refine all_cons ?_ ?_))) <;> (simp -implicitDefEqProofs only [go_sem, Nat.reduceLT, Nat.reduceAdd, Nat.reduceEqDiff, reduceIte, Nat.reduceMul, Nat.reduceSub, reduceCtorEq, Int.reduceNe, Int.reduceEq, ne_eq, Nat.reduceLeDiff, Nat.reduceMod, Nat.reduceDiv]; (try rfl); (try simp only [es, low7, high]); try first | rfl | (simp [List.length_append, Nat.add_assoc]; done) | (rw [byte_snoc8, List.append_assoc]; done) | (rw [byte_snoc7, List.append_assoc]; done))
             ·intro h; try exact absurd h (by decide)
              all_goals
               refine rgL ΦBY_ok ocE ?_
               refine nx ?_
               refine rt ocE ?_
               repeat' first | (refine lf hK ocE ?_; clear hK K') | with_reducible apply And.intro | exact sd | exact sde ocE | exact sdp ocE | refine stk ocE ?_ | fail
               all_goals
                refine cn ?_ ?_
                ·intro h; try exact absurd h (by decide)
                 all_goals
                  refine nx ?_
                  refine rt ocE ?_
                  refine ya ?_
                  refine rgL ΦBY_ok ocE ?_
                  refine nx ?_
                  have ej : j = 10 := by omega
                  subst ej
                  have ee : encN l k ++ encTo (num l k) 10 = encN l (k + 1) := (encN_succ l k).symm
                  rw [ee]
                  refine ⟨k + 1, by omega, Ent.to rfl (marks_succ k).symm rfl ?_ ?_, by omega⟩
                  ·simp -implicitDefEqProofs only [go_sem, Nat.reduceLT, Nat.reduceAdd, Nat.reduceEqDiff, reduceIte, Nat.reduceMul, Nat.reduceSub, reduceCtorEq, Int.reduceNe, Int.reduceEq, ne_eq, Nat.reduceLeDiff, Nat.reduceMod, Nat.reduceDiv]; (try simp (disch := omega) only [i64_in, tmodn, tdivn]); (try simp only [D.dat.injEq, Vm.Data.int.injEq, true_and, and_true, and_self, eq_self]); (try omega); (try ((repeat' apply And.intro) <;> first | omega | rfl))
                  ·dsimp only; rw [marksH_succ]; (repeat' (first | exact all_nil | exact marks_tail [_, _, _, _, _] rfl (by simp) | exact marks_tail [_, _, _, _] rfl (by simp) | (refine all_cons ?_ ?_))) <;> (simp -implicitDefEqProofs only [go_sem, Nat.reduceLT, Nat.reduceAdd, Nat.reduceEqDiff, reduceIte, Nat.reduceMul, Nat.reduceSub, reduceCtorEq, Int.reduceNe, Int.reduceEq, ne_eq, Nat.reduceLeDiff, Nat.reduceMod, Nat.reduceDiv]; (try rfl); skip)
                ·intro h; try exact absurd h (by decide)
                 all_goals
                  refine rgL ΦBY_ok ocE ?_
                  refine nx ?_
                  have eg : encTo (num l k) (j + 1) = encTo (num l k) j ++ grp (num l k) j := encTo_succ _ _
                  have es := shr_at (num l k) j (by omega)
                  first | rw [grp_skipF (by omega) (by assumption), List.append_nil] at eg | rw [grp_moreF (by omega) (by assumption)] at eg | rw [grp_last (by omega)] at eg
                  refine ⟨j + 1, by omega, Ent.to rfl rfl rfl ?_ ?_, by omega⟩
                  ·simp -implicitDefEqProofs only [go_sem, Nat.reduceLT, Nat.reduceAdd, Nat.reduceEqDiff, reduceIte, Nat.reduceMul, Nat.reduceSub, reduceCtorEq, Int.reduceNe, Int.reduceEq, ne_eq, Nat.reduceLeDiff, Nat.reduceMod, Nat.reduceDiv]; (try simp (disch := omega) only [i64_in, tmodn, tdivn]); (try simp only [D.dat.injEq, Vm.Data.int.injEq, true_and, and_true, and_self, eq_self]); (try omega); (try ((repeat' apply And.intro) <;> first | omega | rfl))
                  ·apply all_at
                   ·simp -implicitDefEqProofs only [go_sem, Nat.reduceLT, Nat.reduceAdd, Nat.reduceEqDiff, reduceIte, Nat.reduceMul, Nat.reduceSub, reduceCtorEq, Int.reduceNe, Int.reduceEq, ne_eq, Nat.reduceLeDiff, Nat.reduceMod, Nat.reduceDiv]; (try simp only [eg, es, low7, high]); first | done | exact rfl
                   ·(repeat' (first | exact all_nil | exact marks_tail [_, _, _, _, _] rfl (by simp) | exact marks_tail [_, _, _, _, _, _] rfl (by simp) | (refine all_cons ?_ ?_))) <;> (simp -implicitDefEqProofs only [go_sem, Nat.reduceLT, Nat.reduceAdd, Nat.reduceEqDiff, reduceIte, Nat.reduceMul, Nat.reduceSub, reduceCtorEq, Int.reduceNe, Int.reduceEq, ne_eq, Nat.reduceLeDiff, Nat.reduceMod, Nat.reduceDiv]; (try rfl); (try simp only [es, low7, high]); try first | rfl | (simp [List.length_append, Nat.add_assoc]; done) | (rw [byte_snoc8, List.append_assoc]; done) | (rw [byte_snoc7, List.append_assoc]; done))
        ·intro h; try exact absurd h (by decide)
         all_goals
          refine nx ?_
          refine rt ocE ?_
          refine ya ?_
          refine rgL ΦBY_ok ocE ?_
          refine nx ?_
          have ej : j = 10 := by omega
          subst ej
          have ee : encN l k ++ encTo (num l k) 10 = encN l (k + 1) := (encN_succ l k).symm
          rw [ee]
          refine ⟨k + 1, by omega, Ent.to rfl (marks_succ k).symm rfl ?_ ?_, by omega⟩
          ·simp -implicitDefEqProofs only [go_sem, Nat.reduceLT, Nat.reduceAdd, Nat.reduceEqDiff, reduceIte, Nat.reduceMul, Nat.reduceSub, reduceCtorEq, Int.reduceNe, Int.reduceEq, ne_eq, Nat.reduceLeDiff, Nat.reduceMod, Nat.reduceDiv]; (try simp (disch := omega) only [i64_in, tmodn, tdivn]); (try simp only [D.dat.injEq, Vm.Data.int.injEq, true_and, and_true, and_self, eq_self]); (try omega); (try ((repeat' apply And.intro) <;> first | omega | rfl))
          ·dsimp only; rw [marksH_succ]; (repeat' (first | exact all_nil | exact marks_tail [_, _, _, _, _] rfl (by simp) | exact marks_tail [_, _, _, _] rfl (by simp) | (refine all_cons ?_ ?_))) <;> (simp -implicitDefEqProofs only [go_sem, Nat.reduceLT, Nat.reduceAdd, Nat.reduceEqDiff, reduceIte, Nat.reduceMul, Nat.reduceSub, reduceCtorEq, Int.reduceNe, Int.reduceEq, ne_eq, Nat.reduceLeDiff, Nat.reduceMod, Nat.reduceDiv]; (try rfl); skip)
     ·intro h; try exact absurd h (by decide)
      all_goals
       first
       | rw [num_wrap (by omega) (by omega)]
       | rw [show (l.getD (k + 1) 0 : Int) = ((num l k : Nat) : Int) by rw [num_pos l k (by omega)]]
       refine rB ΦBY_ok [0, 5, 8, 9, 16, 17, 18, 32] ocE fun K' hK => ?_
       repeat' first | with_reducible apply And.intro | exact sd | exact sde ocE | exact sdp ocE | refine stk ocE ?_ | fail
       refine ec (rs := [.tmp 2]) (n := 4) Tryz.func150 rfl rfl rfl ?_
       refine rg ΦBY_ok [1] trivial ?_
       refine rg ΦBY_ok [2] trivial ?_
       refine nx ?_
       refine rt ocE ?_
       repeat' first | (refine lf hK ocE ?_; clear hK K') | with_reducible apply And.intro | exact sd | exact sde ocE | exact sdp ocE | refine stk ocE ?_ | fail
       all_goals
        refine nx ?_
        refine re (rs := []) (n := 26) (100 + k) 4 Tryz.func199 rfl rfl rfl fun A B hA hB => ?_
        refine rg ΦBY_ok [0, 1, 3] ocE ?_
        refine nx ?_
        refine VC.loopS (ι := Nat) [0, 1] (fun j => [(3, .dat (.int .i64 (63 - 7 * (j : Int))))]) (fun j => [(1, .cells [.sl 2 0 (encN l k ++ encTo (num l k) j).length] false), (2, .arr 5 1 (bytesD (encN l k ++ encTo (num l k) j)) 0)]) (fun j => j ≤ 10) (fun j => 10 - j) 0 (Nat.zero_le _) ?_ ?_
        ·refine Ent.to rfl rfl rfl ?_ ?_
         ·simp -implicitDefEqProofs only [go_sem, Nat.reduceLT, Nat.reduceAdd, Nat.reduceEqDiff, reduceIte, Nat.reduceMul, Nat.reduceSub, reduceCtorEq, Int.reduceNe, Int.reduceEq, ne_eq, Nat.reduceLeDiff, Nat.reduceMod, Nat.reduceDiv]; (try simp only [D.dat.injEq, Vm.Data.int.injEq, true_and, and_true, and_self, eq_self]); (try omega); (try ((repeat' apply And.intro) <;> first | omega | rfl))
         ·apply all_at
          ·simp -implicitDefEqProofs only [go_sem, Nat.reduceLT, Nat.reduceAdd, Nat.reduceEqDiff, reduceIte, Nat.reduceMul, Nat.reduceSub, reduceCtorEq, Int.reduceNe, Int.reduceEq, ne_eq, Nat.reduceLeDiff, Nat.reduceMod, Nat.reduceDiv]; simp only [encTo_zero, List.append_nil]; exact rfl
          ·(repeat' (first | exact all_nil | exact marks_tail [_, _, _, _, _] rfl (by simp) | (refine all_cons ?_ ?_))) <;> (simp -implicitDefEqProofs only [go_sem, Nat.reduceLT, Nat.reduceAdd, Nat.reduceEqDiff, reduceIte, Nat.reduceMul, Nat.reduceSub, reduceCtorEq, Int.reduceNe, Int.reduceEq, ne_eq, Nat.reduceLeDiff, Nat.reduceMod, Nat.reduceDiv]; (try rfl); skip)
        intro j hj; (try dsimp only at hj)
        refine st0 ?_
        have hb : (encN l k ++ encTo (num l k) j).length ≤ 300 := by
         have := encN_len l k; have := encTo_len (num l k) j; rw [List.length_append]; omega
        refine rg ΦBY_ok [0, 1, 3, 5] ocE ?_
        refine cn ?_ ?_
        ·intro h; try exact absurd h (by decide)
         all_goals
          refine rB ΦBY_ok [0, 1, 3, 15] ocE fun K' hK => ?_
          repeat' first | (refine lf hK ocE ?_; clear hK K') | with_reducible apply And.intro | refine sA ocE (fun _ => ?_) fun _ => ?_ | refine sAb ocE (fun _ => ?_) fun _ => ?_ | refine sAl ocE (fun g => ?_) fun g => ?_ | exact sd | exact sde ocE | exact sdp ocE | refine stk ocE ?_ | fail
          all_goals
           refine cn ?_ ?_
           ·intro h; try exact absurd h (by decide)
            all_goals
             refine rgL ΦBY_ok ocE ?_
             refine nx ?_
             have eg : encTo (num l k) (j + 1) = encTo (num l k) j ++ grp (num l k) j := encTo_succ _ _
             have es := shr_at (num l k) j (by omega)
             first | rw [grp_skipF (by omega) (by assumption), List.append_nil] at eg | rw [grp_moreF (by omega) (by assumption)] at eg | rw [grp_last (by omega)] at eg
             refine ⟨j + 1, by omega, Ent.to rfl rfl rfl ?_ ?_, by omega⟩
             ·simp -implicitDefEqProofs only [go_sem, Nat.reduceLT, Nat.reduceAdd, Nat.reduceEqDiff, reduceIte, Nat.reduceMul, Nat.reduceSub, reduceCtorEq, Int.reduceNe, Int.reduceEq, ne_eq, Nat.reduceLeDiff, Nat.reduceMod, Nat.reduceDiv]; (try simp (disch := omega) only [i64_in, tmodn, tdivn]); (try simp only [D.dat.injEq, Vm.Data.int.injEq, true_and, and_true, and_self, eq_self]); (try omega); (try ((repeat' apply And.intro) <;> first | omega | rfl))
             ·apply all_at
              ·simp -implicitDefEqProofs only [go_sem, Nat.reduceLT, Nat.reduceAdd, Nat.reduceEqDiff, reduceIte, Nat.reduceMul, Nat.reduceSub, reduceCtorEq, Int.reduceNe, Int.reduceEq, ne_eq, Nat.reduceLeDiff, Nat.reduceMod, Nat.reduceDiv]; (try simp only [eg, es, low7, high]); first | done | exact rfl
              ·(repeat' (first | exact all_nil | exact marks_tail [_, _, _, _, _] rfl (by simp) | exact marks_tail [_, _, _, _, _, _] rfl (by simp) | (refine all_cons ?_ ?_))) <;> (simp -implicitDefEqProofs only [go_sem, Nat.reduceLT, Nat.reduceAdd, Nat.reduceEqDiff, reduceIte, Nat.reduceMul, Nat.reduceSub, reduceCtorEq, Int.reduceNe, Int.reduceEq, ne_eq, Nat.reduceLeDiff, Nat.reduceMod, Nat.reduceDiv]; (try rfl); (try simp only [es, low7, high]); try first | rfl | (simp [List.length_append, Nat.add_assoc]; done) | (rw [byte_snoc8, List.append_assoc]; done) | (rw [byte_snoc7, List.append_assoc]; done))
           ·intro h; try exact absurd h (by decide)
            all_goals
             refine rB ΦBY_ok [0, 1, 3, 25] ocE fun K' hK => ?_
             repeat' first | with_reducible apply And.intro | exact sd | exact sde ocE | exact sdp ocE | refine stk ocE ?_ | fail
             refine yd hA ?_
             refine rg ΦBY_ok [5, 8, 34] ocE ?_
             refine rgL ΦBY_ok ocE ?_
             refine nx ?_
             refine yb hB ?_
             refine rg ΦBY_ok [5, 8, 36] ocE ?_
             refine cn ?_ ?_
             ·intro h; try exact absurd h (by decide)
              all_goals
               refine rgL ΦBY_ok ocE ?_
               refine rgL ΦBY_ok ocE ?_
               refine nx ?_
               refine rt ocE ?_
               repeat' first | (refine lf hK ocE ?_; clear hK K') | with_reducible apply And.intro | exact sd | exact sde ocE | exact sdp ocE | refine stk ocE ?_ | fail
               all_goals
                refine cn ?_ ?_
                ·intro h; try exact absurd h (by decide)
                 all_goals
                  refine nx ?_
                  refine rt ocE ?_
                  refine ya ?_
                  refine rgL ΦBY_ok ocE ?_
                  refine nx ?_
                  have ej : j = 10 := by omega
                  subst ej
                  have ee : encN l k ++ encTo (num l k) 10 = encN l (k + 1) := (encN_succ l k).symm
                  rw [ee]
                  refine ⟨k + 1, by omega, Ent.to rfl (marks_succ k).symm rfl ?_ ?_, by omega⟩
                  ·simp -implicitDefEqProofs only [go_sem, Nat.reduceLT, Nat.reduceAdd, Nat.reduceEqDiff, reduceIte, Nat.reduceMul, Nat.reduceSub, reduceCtorEq, Int.reduceNe, Int.reduceEq, ne_eq, Nat.reduceLeDiff, Nat.reduceMod, Nat.reduceDiv]; (try simp (disch := omega) only [i64_in, tmodn, tdivn]); (try simp only [D.dat.injEq, Vm.Data.int.injEq, true_and, and_true, and_self, eq_self]); (try omega); (try ((repeat' apply And.intro) <;> first | omega | rfl))
                  ·dsimp only; rw [marksH_succ]; (repeat' (first | exact all_nil | exact marks_tail [_, _, _, _, _] rfl (by simp) | exact marks_tail [_, _, _, _] rfl (by simp) | (refine all_cons ?_ ?_))) <;> (simp -implicitDefEqProofs only [go_sem, Nat.reduceLT, Nat.reduceAdd, Nat.reduceEqDiff, reduceIte, Nat.reduceMul, Nat.reduceSub, reduceCtorEq, Int.reduceNe, Int.reduceEq, ne_eq, Nat.reduceLeDiff, Nat.reduceMod, Nat.reduceDiv]; (try rfl); skip)
                ·intro h; try exact absurd h (by decide)
                 all_goals
                  refine rgL ΦBY_ok ocE ?_
                  refine nx ?_
                  have eg : encTo (num l k) (j + 1) = encTo (num l k) j ++ grp (num l k) j := encTo_succ _ _
                  have es := shr_at (num l k) j (by omega)
                  first | rw [grp_skipF (by omega) (by assumption), List.append_nil] at eg | rw [grp_moreF (by omega) (by assumption)] at eg | rw [grp_last (by omega)] at eg
                  refine ⟨j + 1, by omega, Ent.to rfl rfl rfl ?_ ?_, by omega⟩
                  ·simp -implicitDefEqProofs only [go_sem, Nat.reduceLT, Nat.reduceAdd, Nat.reduceEqDiff, reduceIte, Nat.reduceMul, Nat.reduceSub, reduceCtorEq, Int.reduceNe, Int.reduceEq, ne_eq, Nat.reduceLeDiff, Nat.reduceMod, Nat.reduceDiv]; (try simp (disch := omega) only [i64_in, tmodn, tdivn]); (try simp only [D.dat.injEq, Vm.Data.int.injEq, true_and, and_true, and_self, eq_self]); (try omega); (try ((repeat' apply And.intro) <;> first | omega | rfl))
                  ·apply all_at
                   ·simp -implicitDefEqProofs only [go_sem, Nat.reduceLT, Nat.reduceAdd, Nat.reduceEqDiff, reduceIte, Nat.reduceMul, Nat.reduceSub, reduceCtorEq, Int.reduceNe, Int.reduceEq, ne_eq, Nat.reduceLeDiff, Nat.reduceMod, Nat.reduceDiv]; (try simp only [eg, es, low7, high]); first | done | exact rfl
                   ·(repeat' (first | exact all_nil | exact marks_tail [_, _, _, _, _] rfl (by simp) | exact marks_tail [_, _, _, _, _, _] rfl (by simp) | (refine all_cons ?_ ?_))) <;> (simp -implicitDefEqProofs only [go_sem, Nat.reduceLT, Nat.reduceAdd, Nat.reduceEqDiff, reduceIte, Nat.reduceMul, Nat.reduceSub, reduceCtorEq, Int.reduceNe, Int.reduceEq, ne_eq, Nat.reduceLeDiff, Nat.reduceMod, Nat.reduceDiv]; (try rfl); (try simp only [es, low7, high]); try first | rfl | (simp [List.length_append, Nat.add_assoc]; done) | (rw [byte_snoc8, List.append_assoc]; done) | (rw [byte_snoc7, List.append_assoc]; done))
             ·intro h; try exact absurd h (by decide)
              all_goals
               refine rgL ΦBY_ok ocE ?_
               refine nx ?_
               refine rt ocE ?_
               repeat' first | (refine lf hK ocE ?_; clear hK K') | with_reducible apply And.intro | exact sd | exact sde ocE | exact sdp ocE | refine stk ocE ?_ | fail
               all_goals
                refine cn ?_ ?_
                ·intro h; try exact absurd h (by decide)
                 all_goals
                  refine nx ?_
                  refine rt ocE ?_
                  refine ya ?_
                  refine rgL ΦBY_ok ocE ?_
                  refine nx ?_
                  have ej : j = 10 := by omega
                  subst ej
                  have ee : encN l k ++ encTo (num l k) 10 = encN l (k + 1) := (encN_succ l k).symm
                  rw [ee]
                  refine ⟨k + 1, by omega, Ent.to rfl (marks_succ k).symm rfl ?_ ?_, by omega⟩
                  ·simp -implicitDefEqProofs only [go_sem, Nat.reduceLT, Nat.reduceAdd, Nat.reduceEqDiff, reduceIte, Nat.reduceMul, Nat.reduceSub, reduceCtorEq, Int.reduceNe, Int.reduceEq, ne_eq, Nat.reduceLeDiff, Nat.reduceMod, Nat.reduceDiv]; (try simp (disch := omega) only [i64_in, tmodn, tdivn]); (try simp only [D.dat.injEq, Vm.Data.int.injEq, true_and, and_true, and_self, eq_self]); (try omega); (try ((repeat' apply And.intro) <;> first | omega | rfl))
                  ·dsimp only; rw [marksH_succ]; (repeat' (first | exact all_nil | exact marks_tail [_, _, _, _, _] rfl (by simp) | exact marks_tail [_, _, _, _] rfl (by simp) | (refine all_cons ?_ ?_))) <;> (simp -implicitDefEqProofs only [go_sem, Nat.reduceLT, Nat.reduceAdd, Nat.reduceEqDiff, reduceIte, Nat.reduceMul, Nat.reduceSub, reduceCtorEq, Int.reduceNe, Int.reduceEq, ne_eq, Nat.reduceLeDiff, Nat.reduceMod, Nat.reduceDiv]; (try rfl); skip)
                ·intro h; try exact absurd h (by decide)
                 all_goals
                  refine rgL ΦBY_ok ocE ?_
                  refine nx ?_
                  have eg : encTo (num l k) (j + 1) = encTo (num l k) j ++ grp (num l k) j := encTo_succ _ _
                  have es := shr_at (num l k) j (by omega)
                  first | rw [grp_skipF (by omega) (by assumption), List.append_nil] at eg | rw [grp_moreF (by omega) (by assumption)] at eg | rw [grp_last (by omega)] at eg
                  refine ⟨j + 1, by omega, Ent.to rfl rfl rfl ?_ ?_, by omega⟩
                  ·simp -implicitDefEqProofs only [go_sem, Nat.reduceLT, Nat.reduceAdd, Nat.reduceEqDiff, reduceIte, Nat.reduceMul, Nat.reduceSub, reduceCtorEq, Int.reduceNe, Int.reduceEq, ne_eq, Nat.reduceLeDiff, Nat.reduceMod, Nat.reduceDiv]; (try simp (disch := omega) only [i64_in, tmodn, tdivn]); (try simp only [D.dat.injEq, Vm.Data.int.injEq, true_and, and_true, and_self, eq_self]); (try omega); (try ((repeat' apply And.intro) <;> first | omega | rfl))
                  ·apply all_at
                   ·simp -implicitDefEqProofs only [go_sem, Nat.reduceLT, Nat.reduceAdd, Nat.reduceEqDiff, reduceIte, Nat.reduceMul, Nat.reduceSub, reduceCtorEq, Int.reduceNe, Int.reduceEq, ne_eq, Nat.reduceLeDiff, Nat.reduceMod, Nat.reduceDiv]; (try simp only [eg, es, low7, high]); first | done | exact rfl
                   ·(repeat' (first | exact all_nil | exact marks_tail [_, _, _, _, _] rfl (by simp) | exact marks_tail [_, _, _, _, _, _] rfl (by simp) | (refine all_cons ?_ ?_))) <;> (simp -implicitDefEqProofs only [go_sem, Nat.reduceLT, Nat.reduceAdd, Nat.reduceEqDiff, reduceIte, Nat.reduceMul, Nat.reduceSub, reduceCtorEq, Int.reduceNe, Int.reduceEq, ne_eq, Nat.reduceLeDiff, Nat.reduceMod, Nat.reduceDiv]; (try rfl); (try simp only [es, low7, high]); try first | rfl | (simp [List.length_append, Nat.add_assoc]; done) | (rw [byte_snoc8, List.append_assoc]; done) | (rw [byte_snoc7, List.append_assoc]; done))
        ·intro h; try exact absurd h (by decide)
         all_goals
          refine nx ?_
          refine rt ocE ?_
          refine ya ?_
          refine rgL ΦBY_ok ocE ?_
          refine nx ?_
          have ej : j = 10 := by omega
          subst ej
          have ee : encN l k ++ encTo (num l k) 10 = encN l (k + 1) := (encN_succ l k).symm
          rw [ee]
          refine ⟨k + 1, by omega, Ent.to rfl (marks_succ k).symm rfl ?_ ?_, by omega⟩
          ·simp -implicitDefEqProofs only [go_sem, Nat.reduceLT, Nat.reduceAdd, Nat.reduceEqDiff, reduceIte, Nat.reduceMul, Nat.reduceSub, reduceCtorEq, Int.reduceNe, Int.reduceEq, ne_eq, Nat.reduceLeDiff, Nat.reduceMod, Nat.reduceDiv]; (try simp (disch := omega) only [i64_in, tmodn, tdivn]); (try simp only [D.dat.injEq, Vm.Data.int.injEq, true_and, and_true, and_self, eq_self]); (try omega); (try ((repeat' apply And.intro) <;> first | omega | rfl))
          ·dsimp only; rw [marksH_succ]; (repeat' (first | exact all_nil | exact marks_tail [_, _, _, _, _] rfl (by simp) | exact marks_tail [_, _, _, _] rfl (by simp) | (refine all_cons ?_ ?_))) <;> (simp -implicitDefEqProofs only [go_sem, Nat.reduceLT, Nat.reduceAdd, Nat.reduceEqDiff, reduceIte, Nat.reduceMul, Nat.reduceSub, reduceCtorEq, Int.reduceNe, Int.reduceEq, ne_eq, Nat.reduceLeDiff, Nat.reduceMod, Nat.reduceDiv]; (try rfl); skip)
   ·intro h; try exact absurd h (by decide)
    all_goals
     refine rg ΦBY_ok [2, 3] ocE ?_
     refine nx ?_
     refine ownK_r (ownS_marks (h := [_, _]) rfl (by simp) ?_)
     rw [show k = l.length - 1 by omega]
     simp -implicitDefEqProofs only [go_sem]
     rw [encO_yes hm, if_pos hm]
     exact ⟨rfl, rfl, rfl⟩)
theorem bytes_ok : Pure E 105 bytesF := bytes_own.pure
end Go.Proofs.YtpajpkbipagjpaaGreatDoor.Oc
namespace Go.Proofs.YtpajpkbipagjpaaGreatDoor.Oc
open Go Go.RowKit Go.Lib
theorem LI.mixed : Tryz.prog.follows .mixedOrders = true := by kernel_rfl
theorem LI.t0 : Tryz.prog.underlying 0 = some (TypeDesc.tuple #[]) := by kernel_rfl
theorem LI.a0 : ∀ w, (isAgg 0).run Tryz.prog w = .ok false w := fun w => by kernel_rfl
theorem LI.z0 : ∀ w, (Go.sizeOf 0).run Tryz.prog w = .ok 1 w := fun w => by kernel_rfl
theorem LI.v0 : ∀ w, (zeroValue 0).run Tryz.prog w = .ok (Value.tuple #[]) w := fun w => by kernel_rfl
theorem LI.t3 : Tryz.prog.underlying 3 = some (TypeDesc.int IntKind.i64) := by kernel_rfl
theorem LI.a3 : ∀ w, (isAgg 3).run Tryz.prog w = .ok false w := fun w => by kernel_rfl
theorem LI.z3 : ∀ w, (Go.sizeOf 3).run Tryz.prog w = .ok 1 w := fun w => by kernel_rfl
theorem LI.v3 : ∀ w, (zeroValue 3).run Tryz.prog w = .ok (Value.int IntKind.i64 0) w := fun w => by kernel_rfl
theorem LI.t4 : Tryz.prog.underlying 4 = some (TypeDesc.bool) := by kernel_rfl
theorem LI.a4 : ∀ w, (isAgg 4).run Tryz.prog w = .ok false w := fun w => by kernel_rfl
theorem LI.z4 : ∀ w, (Go.sizeOf 4).run Tryz.prog w = .ok 1 w := fun w => by kernel_rfl
theorem LI.v4 : ∀ w, (zeroValue 4).run Tryz.prog w = .ok (Value.bool false) w := fun w => by kernel_rfl
theorem LI.t158 : Tryz.prog.underlying 158 = some (TypeDesc.int IntKind.u64) := by kernel_rfl
theorem LI.a158 : ∀ w, (isAgg 158).run Tryz.prog w = .ok false w := fun w => by kernel_rfl
theorem LI.z158 : ∀ w, (Go.sizeOf 158).run Tryz.prog w = .ok 1 w := fun w => by kernel_rfl
theorem LI.v158 : ∀ w, (zeroValue 158).run Tryz.prog w = .ok (Value.int IntKind.u64 0) w := fun w => by kernel_rfl
theorem LI.t151 : Tryz.prog.underlying 151 = some (TypeDesc.slice 158) := by kernel_rfl
theorem LI.a151 : ∀ w, (isAgg 151).run Tryz.prog w = .ok false w := fun w => by kernel_rfl
theorem LI.z151 : ∀ w, (Go.sizeOf 151).run Tryz.prog w = .ok 1 w := fun w => by kernel_rfl
theorem LI.v151 : ∀ w, (zeroValue 151).run Tryz.prog w = .ok (Value.slice none 0 0) w := fun w => by kernel_rfl
theorem LI.i158 : (Tryz.prog.info? 158).map (fun i => (i.zero, i.size, i.bytes)) = some (some (Value.int IntKind.u64 0), 1, 8) := by kernel_rfl
set_option maxHeartbeats 4000000 in
set_option maxRecDepth 100000 in
theorem ins_shift (b off n c i vb voff m vc : Nat) (cs vs : List Value) (w : World) (hi : i < n) (hm : 0 < m) (hroom : n + m ≤ c) (hc63 : c ≤ 9223372036854775807) (hvb : vb ≠ b)
 (hcl : cs.length = n) (hvl : vs.length = m)
 (hcs : ∀ j v, cs[j]? = some v → w.cell? ⟨b, off + j, none⟩ = some v) (hsp : ∀ j, j < n + m → (w.cell? ⟨b, off + j, none⟩).isSome = true) (hfz : ∀ j, j < n + m → w.frozen? ⟨b, off + j, none⟩ = false)
 (hvs : ∀ j v, vs[j]? = some v → w.cell? ⟨vb, voff + j, none⟩ = some v) (h1c : ∀ v ∈ cs, v.oneCell' = true) (h1v : ∀ v ∈ vs, v.oneCell' = true)
 (tA tB : TypeId) (kA kB : Nat) (hsa : w.shape? vb = some (tA, kA)) (hsb : w.shape? b = some (tB, kB)) (hkB : kB ≠ 0) (hfa : w.frozen? ⟨vb, voff, none⟩ = false) (hfe : w.frozen? ⟨vb, kA, none⟩ = false) :
 Calls Tryz.prog 155 #[.slice (some ⟨b, off, none⟩) n c, .int .i64 i, .slice (some ⟨vb, voff, none⟩) m vc] w fun e w' =>
  e = .returned (.slice (some ⟨b, off, none⟩) (n + m) c) ∧ w' = (w.drew.setCells b (off + (i + m)) (cs.drop i)).setCells b (off + i) vs := by
 have t0 := LI.t0; have a0 := LI.a0; have z0 := LI.z0; have v0 := LI.v0; have t3 := LI.t3; have a3 := LI.a3; have z3 := LI.z3; have v3 := LI.v3; have t4 := LI.t4; have a4 := LI.a4; have z4 := LI.z4; have v4 := LI.v4; have t158 := LI.t158; have a158 := LI.a158; have z158 := LI.z158; have v158 := LI.v158; have t151 := LI.t151; have a151 := LI.a151; have z151 := LI.z151; have v151 := LI.v151
 have u0 := run_underlying LI.t0; have u3 := run_underlying LI.t3; have u4 := run_underlying LI.t4; have u158 := run_underlying LI.t158; have u151 := run_underlying LI.t151
 have hz1 : ¬ ((m : Int) = 0) := by omega
 have hz2 : ¬ ((i : Int) = (n : Int)) := by omega
 have hsz : (Tryz.prog.info? 158).map (·.size) = some 1 := by
  obtain ⟨i0, hi0, h0, h1, h2⟩ := info_parts LI.i158
  rw [hi0]; simp [h1]
 have hov : ∀ lb cb, (callFunc 204 #[.slice (some ⟨vb, voff, none⟩) m vc, .slice (some ⟨b, off + (i + m), none⟩) lb cb]).run Tryz.prog w = .ok (.value (.bool false)) w := fun lb cb => by
  rw [run_callFunc_extern Tryz.func204 (by kernel_rfl) (by kernel_rfl) (by kernel_rfl) (e := Extern.SlicesOverlaps.overlaps #[151, 151] #[4]) (by kernel_rfl),
   Lib.run_overlaps_apart w 151 4 158 LI.t151 1 LI.z158 ⟨vb, voff, none⟩ ⟨b, off + (i + m), none⟩ m vc lb cb hvb tA tB kA kB hsa hsb hkB hfa hfe]
  rfl
 have hdl : (cs.drop i).length = n - i := by rw [List.length_drop, hcl]
 have mixed := LI.mixed
 have hw1 : IntKind.i64.wrap ((i : Int) + (m : Int)) = (i : Int) + (m : Int) := by rw [IntKind.wrap_i64]; omega
 have hb1 : (0 : Int) ≤ (i : Int) + (m : Int) := by omega
 have hin : i ≤ n := by omega
 have htn : ((i : Int) + (m : Int)).toNat = i + m := by omega
 have hb2 : ¬ (c = i + m) := by omega
 have hb3 : (i : Int) ≤ (n : Int) + (m : Int) := by omega
 have hb4 : ¬ (c = i) := by omega
 have hcp1 : ∀ ty dc sc, (Builtin.copy_ #[151, 151] ty #[.slice (some ⟨b, off + (i + m), none⟩) (n + m - (i + m)) dc, .slice (some ⟨b, off + i, none⟩) (n + m - i) sc]).run Tryz.prog w.drew = .ok (goInt (cs.drop i).length) (w.drew.setCells b (off + (i + m)) (cs.drop i)) := fun ty dc sc =>
  run_copy_cells w.drew _ _ ty 158 b (off + (i + m)) (n + m - (i + m)) dc ⟨b, off + i, none⟩ (n + m - i) sc (cs.drop i) LI.t151 hsz (by rw [hdl]; simp only [Nat.min_def]; split <;> omega)
   (fun j v hj => by rw [Addr.add_lit, Nat.add_assoc]; exact hcs (i + j) v (by rwa [List.getElem?_drop] at hj))
   (fun j hj => by rw [Nat.add_assoc]; exact hsp _ (by omega)) (fun j hj => by rw [Nat.add_assoc]; exact hfz _ (by omega)) (fun v hv => h1c v (List.mem_of_mem_drop hv))
 obtain ⟨W1, hW1⟩ : ∃ W1, W1 = w.drew.setCells b (off + (i + m)) (cs.drop i) := ⟨_, rfl⟩
 have hsp1 : ∀ k, k < n + m → (W1.cell? ⟨b, off + k, none⟩).isSome = true := fun k hk => by
  rw [hW1]
  exact isSome_setCells b _ _ _ (fun j hj => by rw [Nat.add_assoc]; exact hsp _ (by omega)) _ (hsp k hk)
 have hcp2 : ∀ (W : World), (∀ x, W.cell? x = W1.cell? x) → (∀ x, W.frozen? x = W1.frozen? x) → ∀ ty dc, (Builtin.copy_ #[151, 151] ty #[.slice (some ⟨b, off + i, none⟩) (n + m - i) dc, .slice (some ⟨vb, voff, none⟩) m vc]).run Tryz.prog W = .ok (goInt vs.length) (W.setCells b (off + i) vs) := fun W hWc hWf ty dc =>
  run_copy_cells W _ _ ty 158 b (off + i) (n + m - i) dc ⟨vb, voff, none⟩ m vc vs LI.t151 hsz (by rw [hvl]; simp only [Nat.min_def]; split <;> omega)
   (fun j v hj => by
    rw [Addr.add_lit, hWc, hW1, World.cell?_setCells_out b _ _ _ _ (fun h _ => absurd h hvb)]
    exact hvs j v hj)
   (fun j hj => by rw [hWc, Nat.add_assoc]; exact hsp1 _ (by omega)) (fun j hj => by rw [hWf, hW1, World.frozen?_setCells, Nat.add_assoc]; exact hfz _ (by omega)) h1v
 rw [← hW1] at hcp1
 go_enter Tryz.func155, Tryz.ntmps155
 go_wp2_with (simp only [hov])
 go_region_law_o (refine step_copy_runI rfl _ _ 151 151 rfl _ _ (by simp [Act.eval, Act.put]) (by simp [Act.eval, Act.put]) (hcp1 _ _ _) ?_)
 go_wp2_with (at_builtin; refine wpList_copy_runI _ rfl _ _ 151 151 rfl _ _ rfl rfl (hcp2 _ (fun _ => rfl) (fun _ => rfl) _ _) ?_)
 go_ret
 first | exact ⟨rfl, rfl⟩ | exact ⟨rfl, by rw [hW1]⟩
set_option maxHeartbeats 4000000 in
set_option maxRecDepth 100000 in
theorem ins_grow (b off n c i vb voff m vc : Nat) (cs vs : List Value) (w : World) (hi : i < n) (hm : 0 < m) (hnc : n ≤ c) (hroom : c < n + m) (hbig : (n + m) * 8 ≤ 140737488355328)
 (hcl : cs.length = n) (hvl : vs.length = m)
 (hcs : ∀ j v, cs[j]? = some v → w.cell? ⟨b, off + j, none⟩ = some v)
 (hvs : ∀ j v, vs[j]? = some v → w.cell? ⟨vb, voff + j, none⟩ = some v) (h1c : ∀ v ∈ cs, v.oneCell' = true) (h1v : ∀ v ∈ vs, v.oneCell' = true) :
 Calls Tryz.prog 155 #[.slice (some ⟨b, off, none⟩) n c, .int .i64 i, .slice (some ⟨vb, voff, none⟩) m vc] w fun e w' =>
  e = .returned (.slice (some ⟨w.heap.size, 0, none⟩) (n + m) (grownCap w (n + m) c 158)) ∧
  w' = (((w.alloc (.cells ((cs.take i).toArray ++ Builtin.zeroCells (Value.int .u64 0).cells (n + m - i) ++ Builtin.zeroCells (Value.int .u64 0).cells (grownCap w (n + m) c 158 - (n + m))) 158)).drew.setCells w.heap.size i vs).drew).setCells w.heap.size (i + m) (cs.drop i) := by
 have t0 := LI.t0; have a0 := LI.a0; have z0 := LI.z0; have v0 := LI.v0; have t3 := LI.t3; have a3 := LI.a3; have z3 := LI.z3; have v3 := LI.v3; have t4 := LI.t4; have a4 := LI.a4; have z4 := LI.z4; have v4 := LI.v4; have t158 := LI.t158; have a158 := LI.a158; have z158 := LI.z158; have v158 := LI.v158; have t151 := LI.t151; have a151 := LI.a151; have z151 := LI.z151; have v151 := LI.v151
 have u0 := run_underlying LI.t0; have u3 := run_underlying LI.t3; have u4 := run_underlying LI.t4; have u158 := run_underlying LI.t158; have u151 := run_underlying LI.t151
 have mixed := LI.mixed
 obtain ⟨i0, hi0, hz0, hzs, hzb⟩ := info_parts LI.i158
 have hz1 : ¬ ((m : Int) = 0) := by omega
 have hz2 : ¬ ((i : Int) = (n : Int)) := by omega
 have hz3 : (c : Int) < (n : Int) + (m : Int) := by omega
 have hsz : (Tryz.prog.info? 158).map (·.size) = some 1 := by rw [hi0]; simp [hzs]
 have hbw : b < w.heap.size := block_lt_of_cell (hcs 0 _ (List.getElem?_eq_getElem (by omega)))
 have hvw : vb < w.heap.size := block_lt_of_cell (hvs 0 _ (List.getElem?_eq_getElem (by omega)))
 have hkk : (n : Int) + (m : Int) - (i : Int) = ((n + m - i : Nat) : Int) := by omega
 have hik : i + (n + m - i) = n + m := by omega
 have hold : (Builtin.firstCells i0.size i (.slice (some ⟨b, off, none⟩) i c)).run Tryz.prog w.drew = .ok (cs.take i).toArray w.drew := by
  rw [hzs]
  exact run_firstCells_some w.drew 1 i ⟨b, off, none⟩ i c (cs.take i) (by rw [List.length_take]; omega) (fun j v hj => by
   rw [Addr.add_lit]
   rw [List.getElem?_take] at hj
   split at hj
   ·exact hcs j v hj
   ·cases hj)
 have hrz : ∀ ty, (Builtin.append_ #[151, 3] ty #[.slice (some ⟨b, off, none⟩) i c, .int .i64 ((n : Int) + (m : Int) - (i : Int))]).run Tryz.prog w =
  .ok (.slice (some ⟨w.heap.size, 0, none⟩) (n + m) (grownCap w (n + m) c 158)) (w.drew.alloc (.cells ((cs.take i).toArray ++ Builtin.zeroCells (Value.int .u64 0).cells (n + m - i) ++ Builtin.zeroCells (Value.int .u64 0).cells (grownCap w (n + m) c 158 - (n + m))) 158)) := fun ty => by
  have h := Lib.run_append_grow_zeros w 151 3 ty 158 i0 _ .i64 .i64 LI.t151 LI.t3 hi0 hz0 (some ⟨b, off, none⟩) i c (cs.take i) hold (n + m - i) (by omega) (by omega) (by omega) (by omega) (by rw [hzb]; omega) (by rw [hzb, hik]; exact growslice_fits hroom hbig)
  rw [hik] at h
  rw [hkk]
  exact h
 obtain ⟨G, hG⟩ : ∃ G, G = grownCap w (n + m) c 158 := ⟨_, rfl⟩
 obtain ⟨ROW, hROW⟩ : ∃ ROW : Array Value, ROW = (cs.take i).toArray ++ Builtin.zeroCells (Value.int .u64 0).cells (n + m - i) ++ Builtin.zeroCells (Value.int .u64 0).cells (G - (n + m)) := ⟨_, rfl⟩
 rw [← hG] at hrz ⊢
 rw [← hROW] at hrz ⊢
 have hRl : n + m ≤ ROW.size := by
  rw [hROW]
  simp [Builtin.zeroCells, Value.cells]
  omega
 obtain ⟨W1, hW1⟩ : ∃ W1, W1 = w.drew.alloc (.cells ROW 158) := ⟨_, rfl⟩
 rw [← hW1] at hrz
 have hN : ∀ j, j < n + m → (W1.cell? ⟨w.heap.size, j, none⟩).isSome = true := fun j hj => by
  rw [hW1, World.cell?_alloc_at (w := w.drew) ROW _ w.heap.size j rfl, Array.getElem?_eq_getElem (by omega)]; rfl
 have hNf : ∀ j, W1.frozen? ⟨w.heap.size, j, none⟩ = false := fun j => by rw [hW1]; exact World.frozen?_alloc_at (w := w.drew) ROW _ w.heap.size j rfl
 have hOb : ∀ j v, w.cell? ⟨b, j, none⟩ = some v → W1.cell? ⟨b, j, none⟩ = some v := fun j v h => by rw [hW1, World.cell?_alloc_past (w := w.drew) _ b j hbw]; exact h
 have hOv : ∀ j v, w.cell? ⟨vb, j, none⟩ = some v → W1.cell? ⟨vb, j, none⟩ = some v := fun j v h => by rw [hW1, World.cell?_alloc_past (w := w.drew) _ vb j hvw]; exact h
 have hcpA : ∀ (W : World), (∀ x, W.cell? x = W1.cell? x) → (∀ x, W.frozen? x = W1.frozen? x) → ∀ ty dc, (Builtin.copy_ #[151, 151] ty #[.slice (some ⟨w.heap.size, i, none⟩) (n + m - i) dc, .slice (some ⟨vb, voff, none⟩) m vc]).run Tryz.prog W = .ok (goInt vs.length) (W.setCells w.heap.size i vs) := fun W hWc hWf ty dc =>
  run_copy_cells W _ _ ty 158 w.heap.size i (n + m - i) dc ⟨vb, voff, none⟩ m vc vs LI.t151 hsz (by rw [hvl]; simp only [Nat.min_def]; split <;> omega)
   (fun j v hj => by rw [Addr.add_lit, hWc]; exact hOv _ v (hvs j v hj))
   (fun j hj => by rw [hWc]; exact hN _ (by omega)) (fun j hj => by rw [hWf]; exact hNf _) h1v
 have hGn : n + m ≤ G := by rw [hG]; exact grownCap_ge w _ _ _
 have hG63 : G ≤ 9223372036854775807 := by
  have := grownCap_le_maxLen w (n + m) c 158 (by unfold maxLen; omega)
  rw [← hG] at this
  unfold maxLen at this
  omega
 have hGi : ¬ (G = i) := by omega
 have hGim : ¬ (G = i + m) := by omega
 have hci : ¬ (c = i) := by omega
 have hbN : b ≠ w.heap.size := by omega
 have hdl : (cs.drop i).length = n - i := by rw [List.length_drop, hcl]
 have hcpB : ∀ (W : World), (∀ x, W.cell? x = (W1.setCells w.heap.size i vs).cell? x) → (∀ x, W.frozen? x = (W1.setCells w.heap.size i vs).frozen? x) → ∀ ty dc sc, (Builtin.copy_ #[151, 151] ty #[.slice (some ⟨w.heap.size, i + m, none⟩) (n + m - (i + m)) dc, .slice (some ⟨b, off + i, none⟩) (n - i) sc]).run Tryz.prog W = .ok (goInt (cs.drop i).length) (W.setCells w.heap.size (i + m) (cs.drop i)) := fun W hWc hWf ty dc sc =>
  run_copy_cells W _ _ ty 158 w.heap.size (i + m) (n + m - (i + m)) dc ⟨b, off + i, none⟩ (n - i) sc (cs.drop i) LI.t151 hsz (by rw [hdl]; simp only [Nat.min_def]; split <;> omega)
   (fun j v hj => by
    rw [Addr.add_lit, hWc, World.cell?_setCells_out _ _ _ _ _ (fun h _ => absurd h hbN), Nat.add_assoc]
    exact hOb _ v (hcs (i + j) v (by rwa [List.getElem?_drop] at hj)))
   (fun j hj => by rw [hWc]; exact isSome_setCells _ _ _ _ (fun t ht => hN _ (by omega)) _ (hN _ (by omega)))
   (fun j hj => by rw [hWf, World.frozen?_setCells]; exact hNf _) (fun v hv => h1c v (List.mem_of_mem_drop hv))
 subst hW1
 have hE1 : ∀ x, ((w.alloc (.cells ROW 158)).drew).cell? x = (w.drew.alloc (.cells ROW 158)).cell? x := fun x => rfl
 have hE2 : ∀ x, ((w.alloc (.cells ROW 158)).drew).frozen? x = (w.drew.alloc (.cells ROW 158)).frozen? x := fun x => rfl
 have hF1 : ∀ x, (((w.alloc (.cells ROW 158)).drew.setCells w.heap.size i vs).drew).cell? x = ((w.drew.alloc (.cells ROW 158)).setCells w.heap.size i vs).cell? x := fun x => rfl
 have hF2 : ∀ x, (((w.alloc (.cells ROW 158)).drew.setCells w.heap.size i vs).drew).frozen? x = ((w.drew.alloc (.cells ROW 158)).setCells w.heap.size i vs).frozen? x := fun x => rfl
 have hw1 : IntKind.i64.wrap ((i : Int) + (m : Int)) = (i : Int) + (m : Int) := by rw [IntKind.wrap_i64]; omega
 have hb1 : (0 : Int) ≤ (i : Int) + (m : Int) := by omega
 have hin : i ≤ n := by omega
 have htn : ((i : Int) + (m : Int)).toNat = i + m := by omega
 have hb3 : (i : Int) ≤ (n : Int) := by omega
 clear hkk hik hold hROW hG hRl
 go_enter Tryz.func155, Tryz.ntmps155
 go_wp2_with (first
  | (at_builtin; refine Lib.wpList_append_run _ rfl _ _ _ _ rfl _ _ rfl rfl _ _ (hrz _) ?_)
  | (at_builtin; refine wpList_copy_runI _ rfl _ _ 151 151 rfl _ _ rfl rfl (hcpA _ hE1 hE2 _ _) ?_)
  | (at_builtin; refine wpList_copy_runI _ rfl _ _ 151 151 rfl _ _ rfl rfl (hcpB _ (fun _ => rfl) (fun _ => rfl) _ _ _) ?_))
 go_region_law_o (refine step_copy_runI rfl _ _ 151 151 rfl (.slice (some ⟨w.heap.size, i + m, none⟩) (n + m - (i + m)) (G - (i + m))) (.slice (some ⟨b, off + i, none⟩) (n - i) (c - i)) (by simp [Act.eval, Act.put]) (by simp [Act.eval, Act.put]) (hcpB _ hF1 hF2 3 (G - (i + m)) (c - i)) ?_)
 go_wp2
 go_ret
 exact ⟨rfl, rfl⟩
end Go.Proofs.YtpajpkbipagjpaaGreatDoor.Oc
namespace Go.Proofs.YtpajpkbipagjpaaGreatDoor.Oc
open Go Go.RowKit Go.Proofs.YtpajpkbipagjpaaGreatDoor.Vm
theorem Sim.rowAt {Γ : Ctx} {st : St} {a : Act} {aL : List Act} {β : Nat → Pl} {w : World} (S : Sim Γ st a aL β w) {l e fz n : Nat} {xs : List (List Vm.Data)} {v : Value} (hf : find st.h l = some (.arr e 1 xs fz)) (hn : xs.length = n) (h1 : 1 ≤ n) (hv : RVD w (Im Γ β st.h w) β (.sl l 0 n) v) :
 ∃ b cap cur, β l = .blk b cap 1 ∧ v = .slice (some ⟨b, 0, none⟩) n cap ∧ n ≤ cap ∧ cap ≤ maxLen ∧ w.heap[b]? = some (.cells cur e (0, 0)) ∧ cur.size = cap ∧ Γ.w0.heap.size ≤ b ∧ (∀ x ∈ xs, x.length = 1) ∧
  ∀ (j : Nat) (d : Vm.Data), xs.flatten[j]? = some d → d.one = true ∧ ∃ u, cur[j]? = some u ∧ RV w (Im Γ β st.h w) d u := by
 obtain ⟨p1, p2, p3, p4⟩ := S.heap l _ hf
 rcases p4 with h | ⟨b, cap, cur, hb, hge, hh, hc1, hc2, hcs, hcells⟩
 ·have := h.2; subst this; simp at hn; omega
 ·simp only [RVD] at hv
  rcases hv with ⟨hn', _⟩ | ⟨b', c', sz', ad, hb', hcap, rfl, had⟩
  ·rw [hb] at hn'; cases hn'
  ·rw [hb] at hb'; injection hb' with e1 e2 e3; subst e1 e2 e3
   have : ad = some ⟨b, 0, none⟩ := by
    rcases had with h | h
    ·simpa using h
    ·exact absurd h.2 (by omega)
   subst this
   exact ⟨b, cap, cur, hb, by simp, by omega, hc2, hh, by simpa using hcs, hge, p3, hcells⟩
theorem flat1 {xs : List (List Vm.Data)} (h : ∀ x ∈ xs, x.length = 1) : xs.flatten.length = xs.length := by
 induction xs with
 | nil => rfl
 | cons x r ih => simp only [List.flatten_cons, List.length_append, List.length_cons]; rw [ih fun y hy => h y (by simp [hy]), h x (by simp)]; omega
theorem cell_at {w : World} {b e j : Nat} {cur : Array Value} (h : w.heap[b]? = some (.cells cur e (0, 0))) : w.cell? ⟨b, j, none⟩ = cur[j]? := by simp [World.cell?, h]
theorem frz_at {w : World} {b e j : Nat} {cur : Array Value} (h : w.heap[b]? = some (.cells cur e (0, 0))) : w.frozen? ⟨b, j, none⟩ = false := by simp [World.frozen?, h]
theorem insert_ok {st : St} {l l2 n fz2 : Nat} {xs : List (List Vm.Data)} {x : Vm.Data} {K : D → St → Prop} (hf : find st.h l = some (.arr 158 1 xs 0)) (hn : xs.length = n) (h1 : 1 ≤ n) (hn2 : n ≤ 1000000) (hf2 : find st.h l2 = some (.arr 158 1 [[x]] fz2)) (hne : l ≠ l2) (hm : st.noMark l)
 (hK : K (.sl l 0 (n + 1)) ((st.erase l).add l (.arr 158 1 ([x] :: xs) 0))) : VCcall E 155 [.sl l 0 n, .dat (.int .i64 0), .sl l2 0 1] st K := by
 intro Γ a aL β w args hΓ S hargs
 simp only [RVDs] at hargs
 obtain ⟨v1, r1, e1, hv1, v2, r2, e2, hv2, v3, r3, e3, hv3, e4⟩ := hargs
 subst e4
 have hA : args = #[v1, v2, v3] := by
  apply Array.ext'; rw [e1, e2, e3]
 subst hA
 simp only [RVD, RV] at hv2
 subst hv2
 obtain ⟨b, cap, cur, hb, rfl, hnc, hcm, hh, hcs, hge, hx1, hcells⟩ := Sim.rowAt S hf hn h1 hv1
 obtain ⟨vb, vc, cur2, hb2, rfl, hnc2, hcm2, hh2, hcs2, hge2, hx2, hcells2⟩ := Sim.rowAt S hf2 rfl (by simp) hv3
 have hvb : vb ≠ b := by
  rintro rfl
  exact hne (S.apart l l2 _ _ _ _ _ _ _ hf hf2 hb hb2)
 have hP : E.P = Γ.P := by rw [← hΓ]
 have hfl := flat1 hx1
 obtain ⟨hx1o, u, hu, hru⟩ := hcells2 0 x (by simp)
 have hblt : b < w.heap.size := (Array.getElem?_eq_some_iff.1 hh).1
 -- the old values
 let cs : List Value := cur.toList.take n
 have hcl : cs.length = n := by simp [cs, hcs]; omega
 have hcsj : ∀ j v, cs[j]? = some v → cur[j]? = some v := fun j v hj => by
  simp only [cs] at hj
  rw [List.getElem?_take] at hj
  split at hj
  ·simpa using hj
  ·cases hj
 have hcsj' : ∀ j, j < n → cs[j]? = cur[j]? := fun j hj => by
  simp only [cs]
  rw [List.getElem?_take, if_pos hj]; simp
 have h1c : ∀ v ∈ cs, v.oneCell' = true := by
  intro v hv
  obtain ⟨j, hj, e⟩ := List.mem_iff_getElem.1 hv
  have hj' : j < n := by rw [hcl] at hj; exact hj
  have hd : xs.flatten[j]? = some (xs.flatten[j]'(by omega)) := List.getElem?_eq_getElem (by omega)
  obtain ⟨ho, y, hy, hr⟩ := hcells j _ hd
  have : cs[j]? = some v := by rw [List.getElem?_eq_getElem hj, e]
  rw [hcsj j v this] at hy
  injection hy with hy
  subst hy
  exact RV.one hr ho
 have h1v : ∀ v ∈ [u], v.oneCell' = true := by
  intro v hv
  simp at hv; subst hv
  exact RV.one hru hx1o
 have hfinal : ∀ (cur' : Array Value) (cap' : Nat), n + 1 ≤ cap' → cur'.size = cap' → cur'[0]? = some u → (∀ j, j < n → cur'[1 + j]? = cs[j]?) → ∀ (j : Nat) (d : Vm.Data), ([x] :: xs).flatten[j]? = some d → d.one = true ∧ ∃ v, cur'[j]? = some v ∧ RV w (Im Γ β st.h w) d v := by
  intro cur' cap' _ _ h0 hs j d hj
  cases j with
  | zero => simp at hj; subst hj; exact ⟨hx1o, u, h0, hru⟩
  | succ j =>
    have hj' : xs.flatten[j]? = some d := by simpa using hj
    have hlt : j < n := by
     have := (List.getElem?_eq_some_iff.1 hj').1
     omega
    obtain ⟨ho, y, hy, hr⟩ := hcells j d hj'
    refine ⟨ho, y, ?_, hr⟩
    rw [show j + 1 = 1 + j by omega, hs j hlt, hcsj' j hlt, hy]
 have hxl : ∀ y ∈ [x] :: xs, y.length = 1 := by
  intro y hy
  rcases List.mem_cons.1 hy with rfl | hy
  ·rfl
  ·exact hx1 y hy
 have hcsw : ∀ j v, cs[j]? = some v → w.cell? ⟨b, 0 + j, none⟩ = some v := fun j v hj => by rw [Nat.zero_add, cell_at hh]; exact hcsj j v hj
 have hvsw : ∀ j v, [u][j]? = some v → w.cell? ⟨vb, 0 + j, none⟩ = some v := fun j v hj => by
  rw [cell_at hh2]
  cases j with
  | zero => simp at hj; subst hj; exact hu
  | succ j => simp at hj
 refine (callsIn_wide (n := 0)).2 ?_
 show Calls Tryz.prog 155 _ _ _
 by_cases hroom : n + 1 ≤ cap
 ·refine (ins_shift b 0 n cap 0 vb 0 1 vc cs [u] w (by omega) (by omega) hroom (by unfold maxLen at hcm; omega) hvb hcl rfl hcsw (fun j hj => by rw [Nat.zero_add, cell_at hh, Array.getElem?_eq_getElem (by omega)]; rfl) (fun j _ => frz_at hh) hvsw h1c h1v
   158 158 vc cap (by simp [World.shape?, hh2, hcs2]) (by simp [World.shape?, hh, hcs]) (by omega) (frz_at hh2) (frz_at hh2)).mono ?_
  rintro e w' ⟨rfl, rfl⟩
  obtain ⟨c1, g1, g2, g3, g4⟩ := setCells_at (b := b) (e := 158) (fr := (0, 0)) (cs.drop 0) (0 + (0 + 1)) w.drew cur hh (by simp [hcl]; omega)
  obtain ⟨c2, k1, k2, k3, k4⟩ := setCells_at (b := b) (e := 158) (fr := (0, 0)) [u] (0 + 0) _ c1 g1 (by simp; omega)
  have S1 := S.refill (l := l) (xs' := [x] :: xs) (w' := (w.drew.setCells b (0 + (0 + 1)) (cs.drop 0)).setCells b (0 + 0) [u]) (cur' := c2) hf hb
   (setCells_below hge _ _ _ (setCells_below hge _ _ _ S.below.drew)) (by rw [setCells_size, setCells_size]; rfl) (fun k hk => by rw [setCells_other hk, setCells_other hk]; rfl) k1 (by rw [k2, g2, hcs, Nat.mul_one]) (by simp; omega) hxl
   (hfinal c2 cap hroom (by rw [k2, g2, hcs]) (by have := k3 0 (by simp); simpa using this) fun j hj => by
    rw [k4 (1 + j) (by simp)]
    have := g3 j (by simp [hcl]; omega)
    simpa using this)
  have hf' : find (st.setB l (.arr 158 1 ([x] :: xs) 0)).h l = some (.arr 158 1 ([x] :: xs) 0) := by simp only [St.setB, find_hSet, if_true, hf, Option.map_some]
  have R := S1.rename (l := l) (l' := l) hf' hm hm
  refine ⟨_, .sl l 0 (n + 1), _, _, rfl, R.1, ?_, ?_⟩
  ·refine RVD.row (b := b) (cap := cap) (sz := 1) ?_ hroom
   rw [upd_same]; exact hb
  ·have he : (st.setB l (.arr 158 1 ([x] :: xs) 0)).erase l = st.erase l := by
    have key : ∀ (h : List (Nat × Blk)) (B : Blk), hErase l (hSet l B h) = hErase l h := by
     intro h B
     induction h with
     | nil => rfl
     | cons y r ih =>
       simp only [hSet]
       by_cases e : y.1 = l
       ·rw [if_pos e]; simp only [hErase, if_true, if_pos e]
       ·rw [if_neg e]; simp only [hErase, if_neg e, ih]
    simp only [St.erase, St.setB, key]
   rw [he]; exact hK
 ·have hcapn : cap = n := by omega
  refine (ins_grow b 0 n cap 0 vb 0 1 vc cs [u] w (by omega) (by omega) hnc (by omega) (by omega) hcl rfl hcsw hvsw h1c h1v).mono ?_
  rintro e w' ⟨rfl, rfl⟩
  have hG : n + 1 ≤ grownCap w (n + 1) cap 158 := grownCap_ge _ _ _ _
  have hG2 : grownCap w (n + 1) cap 158 ≤ maxLen := grownCap_le_maxLen _ _ _ _ (by unfold maxLen; omega)
  generalize grownCap w (n + 1) cap 158 = G at hG hG2 ⊢
  have hR : ((cs.take 0).toArray ++ Builtin.zeroCells (Value.int .u64 0).cells (n + 1 - 0) ++ Builtin.zeroCells (Value.int .u64 0).cells (G - (n + 1))).size = G := by
   simp [Builtin.zeroCells, Value.cells]; omega
  generalize (cs.take 0).toArray ++ Builtin.zeroCells (Value.int .u64 0).cells (n + 1 - 0) ++ Builtin.zeroCells (Value.int .u64 0).cells (G - (n + 1)) = ROW at hR ⊢
  have S2 := (S.drop l hm).row l 158 1 0 G [] ROW ⟨hm.1, noMark_erase l l _ hm.2⟩ (by decide) (Nat.zero_le _) (fun y hy => by cases hy) (Nat.zero_le _) hG2 (by omega) (fun j d hj => by simp at hj)
  have hnew : (w.alloc (.cells ROW 158)).heap[w.heap.size]? = some (.cells ROW 158 (0, 0)) := World.alloc_heap_new w _
  have hsz : (w.alloc (.cells ROW 158)).heap.size = w.heap.size + 1 := World.size_alloc _ _
  obtain ⟨c1, g1, g2, g3, g4⟩ := setCells_at (b := w.heap.size) (e := 158) (fr := (0, 0)) [u] 0 (w.alloc (.cells ROW 158)).drew ROW hnew (by simp; omega)
  obtain ⟨c2, k1, k2, k3, k4⟩ := setCells_at (b := w.heap.size) (e := 158) (fr := (0, 0)) (cs.drop 0) (0 + 1) ((w.alloc (.cells ROW 158)).drew.setCells w.heap.size 0 [u]).drew c1 g1 (by simp [hcl]; omega)
  have hge' : Γ.w0.heap.size ≤ w.heap.size := S.below.size
  have K1 : Keeps w (Im Γ β st.h w) w (Im Γ β (st.erase l).h w) := Im.drop Γ st β w l
  have K2 := Im.alloc (S.drop l hm) l (.arr 158 1 [] 0) (.cells ROW 158) G 1
  have S3 := S2.refill (l := l) (xs := []) (xs' := [x] :: xs) (w' := ((w.alloc (.cells ROW 158)).drew.setCells w.heap.size 0 [u]).drew.setCells w.heap.size (0 + 1) (cs.drop 0)) (cur' := c2) (by show find ((l, _) :: _) l = _; rw [find_cons, if_pos rfl]) (upd_same _ _ _)
   (setCells_below hge' _ _ _ (setCells_below hge' _ _ _ S2.below.drew).drew) (by rw [setCells_size]; show ((w.alloc (.cells ROW 158)).drew.setCells w.heap.size 0 [u]).heap.size = _; rw [setCells_size]; rfl) (fun k hk => by rw [setCells_other hk]; show ((w.alloc (.cells ROW 158)).drew.setCells w.heap.size 0 [u]).heap[k]? = _; rw [setCells_other hk]; rfl) k1 (by rw [k2, g2, hR, Nat.mul_one]) (by simp; omega) hxl
   (fun j d hj => by
    obtain ⟨ho, y, hy, hr⟩ := hfinal c2 G hG (by rw [k2, g2, hR]) (by
     rw [k4 0 (by omega)]
     have := g3 0 (by simp)
     simpa using this) (fun j hj => by
     have := k3 j (by simp [hcl]; omega)
     simpa using this) j d hj
    exact ⟨ho, y, hy, RV.keeps K2 d y (RV.keeps K1 d y hr)⟩)
  refine ⟨_, .sl l 0 (n + 1), _, _, rfl, S3, ?_, ?_⟩
  ·exact RVD.row (upd_same _ _ _) hG
  ·rw [setB_add]; exact hK
end Go.Proofs.YtpajpkbipagjpaaGreatDoor.Oc
namespace Go.Proofs.YtpajpkbipagjpaaGreatDoor.Oc
open Go Go.RowKit Go.Proofs.YtpajpkbipagjpaaGreatDoor.Vm Go.Proofs.YtpajpkbipagjpaaGreatDoor.Tr Go.IntWalk
set_option maxRecDepth 100000
set_option maxHeartbeats 4000000
noncomputable def ΦRD : Fns := tab [(105, bytesF), (103, beqF)]
theorem ΦRD_ok : Sound E ΦRD := sound_cons (by kernel_rfl) bytes_ok (sound_cons (by kernel_rfl) beq_ok (sound_nil))
@[go_sem] theorem ΦRD_r : ΦRD 105 = some bytesF ∧ ΦRD 103 = some beqF ∧ ΦRD 155 = none := ⟨rfl, rfl, rfl⟩
@[go_sem] theorem ΦRD_c : callable Tryz.prog 155 = true := by kernel_rfl
def scanS (p : Nat × List Nat) (c : UInt8) : Nat × List Nat := if c.toNat < 128 then (0, p.2 ++ [p.1 * 128 + c.toNat % 128]) else (p.1 * 128 + c.toNat % 128, p.2)
def scanN (b : List UInt8) (k : Nat) : Nat × List Nat := (b.take k).foldl scanS (0, [])
def okS (b : List UInt8) : Bool := (List.range b.length).all fun k => decide ((scanN b k).1 ≤ 72057594037927935)
def fixS : List Nat → List Nat
 | [] => []
 | x :: r => min (x / 40) 2 :: (x - 40 * min (x / 40) 2) :: r
def readX (b : List UInt8) : List Nat := fixS (scanN b b.length).2
def readS (b : List UInt8) : Option (List Nat) := if okS b = true ∧ may (readX b) = true ∧ enc (readX b) = b then some (readX b) else none
theorem scanN_zero (b : List UInt8) : scanN b 0 = (0, []) := rfl
theorem scanN_succ (b : List UInt8) (k : Nat) (h : k < b.length) : scanN b (k + 1) = scanS (scanN b k) (b.getD k 0) := by
 unfold scanN
 rw [List.take_add_one, List.getElem?_eq_getElem h, Option.toList_some, List.foldl_append, List.getD_eq_getElem?_getD, List.getElem?_eq_getElem h]
 rfl
theorem scanN_len (b : List UInt8) (k : Nat) (h : k ≤ b.length) : (scanN b k).2.length ≤ k := by
 induction k with
 | zero => simp [scanN_zero]
 | succ k ih =>
   rw [scanN_succ b k (by omega)]
   have := ih (by omega)
   unfold scanS
   split <;> simp <;> omega
theorem scanN_le (b : List UInt8) (k : Nat) (h : k ≤ b.length) (hj : ∀ j, j < k → (scanN b j).1 ≤ 72057594037927935) : ∀ x ∈ (scanN b k).2, x ≤ 9223372036854775807 := by
 induction k with
 | zero => simp [scanN_zero]
 | succ k ih =>
   rw [scanN_succ b k (by omega)]
   have h1 := ih (by omega) fun j hj' => hj j (by omega)
   have h2 := hj k (by omega)
   unfold scanS
   split
   ·intro x hx
    simp only [List.mem_append, List.mem_singleton] at hx
    rcases hx with hx | rfl
    ·exact h1 x hx
    ·have := Nat.mod_lt (b.getD k 0).toNat (show 0 < 128 by decide); omega
   ·exact h1
theorem numsD_cons (x : Nat) (r : List Nat) : numsD (x :: r) = [.int .u64 (x : Int)] :: numsD r := rfl
theorem fixS_len (l : List Nat) : (fixS l).length ≤ l.length + 1 := by
 cases l <;> simp [fixS]
theorem readX_len (b : List UInt8) : (readX b).length ≤ b.length + 1 := by
 have := fixS_len (scanN b b.length).2
 have := scanN_len b b.length (Nat.le_refl _)
 unfold readX; omega
theorem okS_no (b : List UInt8) (k : Nat) (h : k < b.length) (h' : ¬ (scanN b k).1 ≤ 72057594037927935) : okS b = false := by
 cases e : okS b with
 | false => rfl
 | true =>
   unfold okS at e
   have := List.all_eq_true.1 e k (List.mem_range.2 h)
   exact absurd (of_decide_eq_true this) h'
theorem okS_yes (b : List UInt8) (h : ∀ k, k < b.length → (scanN b k).1 ≤ 72057594037927935) : okS b = true := by
 unfold okS
 refine List.all_eq_true.2 fun k hk => decide_eq_true (h k (List.mem_range.1 hk))
theorem readS_none (b : List UInt8) (h : ¬ (okS b = true ∧ may (readX b) = true ∧ enc (readX b) = b)) : readS b = none := if_neg h
theorem readS_some (b : List UInt8) (h : okS b = true ∧ may (readX b) = true ∧ enc (readX b) = b) : readS b = some (readX b) := if_pos h
theorem or7 (n c : Nat) (h : n ≤ 72057594037927935) (hc : c < 128) : bits .or .u64 ((n * 128 : Nat) : Int) (c : Int) = ((n * 128 + c : Nat) : Int) := by
 have e1 : BitVec.ofInt 64 ((n * 128 : Nat) : Int) = BitVec.ofNat 64 (n * 128) := BitVec.ofInt_natCast ..
 have e2 : BitVec.ofInt 64 (c : Int) = BitVec.ofNat 64 c := BitVec.ofInt_natCast ..
 show IntKind.u64.wrap (((BitVec.ofInt 64 ((n * 128 : Nat) : Int)) ||| (BitVec.ofInt 64 (c : Int))).toNat : Int) = _
 rw [e1, e2, BitVec.toNat_or, BitVec.toNat_ofNat, BitVec.toNat_ofNat, Nat.mod_eq_of_lt (by omega), Nat.mod_eq_of_lt (by omega)]
 have := Nat.shiftLeft_add_eq_or_of_lt (i := 7) (b := c) (by omega) n
 rw [Nat.shiftLeft_eq] at this
 rw [← this, IntKind.wrap_u64]
 omega
theorem and7 (c : UInt8) : bits .and .u8 (c.toNat : Int) 127 = ((c.toNat % 128 : Nat) : Int) := and127 ⟨c.toNat, UInt8.toNat_lt c⟩
theorem shl7 (n : Nat) (h : n ≤ 72057594037927935) : IntKind.u64.wrap ((n : Int) * 2 ^ min (7 : Int).toNat 64) = ((n * 128 : Nat) : Int) := by
 rw [show min (7 : Int).toNat 64 = 7 from rfl, IntKind.wrap_u64]; omega
theorem conv7 (c : Nat) : IntKind.u64.wrap ((c % 128 : Nat) : Int) = ((c % 128 : Nat) : Int) := u64_in _ (by omega)
theorem rdE : (∀ c : UInt8, bits .and .u8 (c.toNat : Int) 127 = ((c.toNat % 128 : Nat) : Int)) ∧ (∀ n : Nat, n ≤ 72057594037927935 → IntKind.u64.wrap ((n : Int) * 2 ^ min (7 : Int).toNat 64) = ((n * 128 : Nat) : Int)) ∧ (∀ c : Nat, IntKind.u64.wrap ((c % 128 : Nat) : Int) = ((c % 128 : Nat) : Int)) ∧
 (∀ n c : Nat, n ≤ 72057594037927935 → bits .or .u64 ((n * 128 : Nat) : Int) ((c % 128 : Nat) : Int) = ((n * 128 + c % 128 : Nat) : Int)) :=
 ⟨and7, shl7, conv7, fun n c h => or7 n (c % 128) h (Nat.mod_lt _ (by decide))⟩
theorem min40' (x : Nat) : (if (2 : Int) < (x : Int) / 40 then (2 : Int) else (x : Int) / 40) = ((min (x / 40) 2 : Nat) : Int) := by split <;> omega
theorem sub40' (x : Nat) : (x : Int) - 40 * ((min (x / 40) 2 : Nat) : Int) = ((x - 40 * min (x / 40) 2 : Nat) : Int) := by omega
theorem may_notB {p : Bool} (h : (!decide ((if p = true then 0 else 140 : Int) = 0)) = true) : p = false := by cases p <;> simp_all
theorem may_isB {p : Bool} (h : (!decide ((if p = true then 0 else 140 : Int) = 0)) = false) : p = true := by cases p <;> simp_all
theorem readS_noneA {b : List UInt8} (h : may (readX b) = false) : readS b = none := readS_none b fun e => by rw [h] at e; exact absurd e.2.1 (by decide)
theorem readS_noneB {b : List UInt8} (h : ¬ encO (readX b) = b) : readS b = none := readS_none b fun e => h (by rw [encO_yes e.2.1]; exact e.2.2)
theorem readS_yes {b : List UInt8} (h1 : okS b = true) (h2 : may (readX b) = true) (h3 : encO (readX b) = b) : readS b = some (readX b) := readS_some b ⟨h1, h2, by rw [encO_yes h2] at h3; exact h3⟩
theorem readX_nil {b : List UInt8} (h : (scanN b b.length).2.length = 0) : (scanN b b.length).2 = readX b := by unfold readX; rw [List.eq_nil_of_length_eq_zero h]; rfl
theorem readX_cons {b : List UInt8} {x : Nat} {r : List Nat} (h : (scanN b b.length).2 = x :: r) : readX b = min (x / 40) 2 :: (x - 40 * min (x / 40) 2) :: r := by unfold readX; rw [h]; rfl
theorem nums2 (x y : Nat) (r : List Nat) : [Vm.Data.int .u64 (x : Int)] :: [Vm.Data.int .u64 (y : Int)] :: numsD r = numsD (x :: y :: r) := rfl
@[go_sem] noncomputable def readF : PFn := PF [SY] (fun (b : List UInt8) => b.length ≤ 100000) (fun (b : List UInt8) => [.lst (numsD ((readS b).getD [])), .int .i64 (if (readS b).isSome then 0 else 140)])
theorem read_ok : Pure E 112 readF := Pure.of_sig (rs := [.tmp 2, .tmp 3]) (n := 65) Tryz.func112 rfl rfl rfl (Nat.le_of_ble_eq_true rfl) (by
 intro (b : List UInt8) hds
 refine st0 ?_
 refine rg ΦRD_ok [0] rdE ?_
 refine rg ΦRD_ok [0, 4] rdE ?_
 refine rg ΦRD_ok [0, 4, 5] rdE ?_
 refine rg ΦRD_ok [0, 4, 5, 11, 12, 13] rdE ?_
 refine nx ?_
 refine VC.loopP (ι := Nat) [0, 11, 12] (fun k => [(13, .dat (.int .i64 (k : Int))), (5, .dat (.int .u64 (((scanN b k).1 : Nat) : Int))), (4, .sl 1 0 (scanN b k).2.length)]) (fun k => [(1, .arr 158 1 (numsD (scanN b k).2) 0)]) (fun k => k ≤ b.length ∧ ∀ j, j < k → (scanN b j).1 ≤ 72057594037927935) (fun k => b.length - k) 0 ⟨Nat.zero_le _, fun j hj => absurd hj (Nat.not_lt_zero _)⟩ ?_ ?_
 ·refine (Ent.nilT 4 1 158 1 (by decide) (by simp -implicitDefEqProofs only [go_sem, Nat.reduceLT, Nat.reduceAdd, Nat.reduceEqDiff, reduceIte, Nat.reduceMul, Nat.reduceSub, reduceCtorEq, Int.reduceNe, Int.reduceEq, ne_eq, Nat.reduceLeDiff, Nat.reduceMod, Nat.reduceDiv]) (by simp -implicitDefEqProofs only [go_sem, Nat.reduceLT, Nat.reduceAdd, Nat.reduceEqDiff, reduceIte, Nat.reduceMul, Nat.reduceSub, reduceCtorEq, Int.reduceNe, Int.reduceEq, ne_eq, Nat.reduceLeDiff, Nat.reduceMod, Nat.reduceDiv])).trans (Ent.to rfl rfl rfl ?_ ?_)
  ·simp -implicitDefEqProofs only [go_sem, Nat.reduceLT, Nat.reduceAdd, Nat.reduceEqDiff, reduceIte, Nat.reduceMul, Nat.reduceSub, reduceCtorEq, Int.reduceNe, Int.reduceEq, ne_eq, Nat.reduceLeDiff, Nat.reduceMod, Nat.reduceDiv, scanN_zero]; (try simp only [D.dat.injEq, Vm.Data.int.injEq, true_and, and_true, and_self, eq_self]); (try omega); (try ((repeat' apply And.intro) <;> first | omega | rfl))
  ·(repeat' (first | exact all_nil | (refine all_cons ?_ ?_))) <;> (simp -implicitDefEqProofs only [go_sem, Nat.reduceLT, Nat.reduceAdd, Nat.reduceEqDiff, reduceIte, Nat.reduceMul, Nat.reduceSub, reduceCtorEq, Int.reduceNe, Int.reduceEq, ne_eq, Nat.reduceLeDiff, Nat.reduceMod, Nat.reduceDiv]; (try rfl); try rfl)
 intro k hp; (try dsimp only at hp); obtain ⟨hk, hj⟩ := hp; have hsl := scanN_len b k hk
 refine st0 ?_
 refine rg ΦRD_ok [0, 4, 5, 11, 12, 13, 14] rdE ?_
 refine cn ?_ ?_
 ·intro h; try exact absurd h (by decide)
  all_goals
   refine rg ΦRD_ok [0, 4, 5, 7, 11, 12, 13] rdE ?_
   refine rg ΦRD_ok [0, 4, 5, 7, 11, 12, 13, 18] rdE ?_
   refine cn ?_ ?_
   ·intro h; try exact absurd h (by decide)
    all_goals
     have hy := readS_none b (fun e => by rw [okS_no b k (by omega) (by omega)] at e; exact absurd e.1 (by decide))
     refine rg ΦRD_ok [2, 3] rdE ?_
     exact fz hy
   ·intro h; try exact absurd h (by decide)
    all_goals
     refine rg ΦRD_ok [0, 4, 5, 7, 11, 12, 13] rdE ?_
     refine rg ΦRD_ok [0, 4, 5, 11, 12, 13, 26] rdE ?_
     refine cn ?_ ?_
     ·intro h; try exact absurd h (by decide)
      all_goals
       refine rgL ΦRD_ok rdE ?_
       refine rgL ΦRD_ok rdE ?_
       refine nx ?_
       have es := scanN_succ b k (by omega)
       first | rw [scanS, if_pos (by omega)] at es | rw [scanS, if_neg (by omega)] at es
       refine ⟨k + 1, ⟨by omega, fun j h' => ?_⟩, Ent.to rfl rfl rfl ?_ ?_, by omega⟩
       ·rcases Nat.lt_or_ge j k with h2 | h2
        ·exact hj j h2
        ·obtain rfl : j = k := by omega
         omega
       ·simp -implicitDefEqProofs only [go_sem, Nat.reduceLT, Nat.reduceAdd, Nat.reduceEqDiff, reduceIte, Nat.reduceMul, Nat.reduceSub, reduceCtorEq, Int.reduceNe, Int.reduceEq, ne_eq, Nat.reduceLeDiff, Nat.reduceMod, Nat.reduceDiv, es]; (try simp (disch := omega) only [and7, shl7, conv7, or7]); (try simp (disch := omega) only [i64_in, tmodn, tdivn]); (try simp only [List.length_append, List.length_cons, List.length_nil]); (try simp only [D.dat.injEq, Vm.Data.int.injEq, true_and, and_true, and_self, eq_self]); (try omega); (try ((repeat' apply And.intro) <;> first | omega | rfl)); (try trace_state)
       ·(repeat' (first | exact all_nil | (refine all_cons ?_ ?_))) <;> (simp -implicitDefEqProofs only [go_sem, Nat.reduceLT, Nat.reduceAdd, Nat.reduceEqDiff, reduceIte, Nat.reduceMul, Nat.reduceSub, reduceCtorEq, Int.reduceNe, Int.reduceEq, ne_eq, Nat.reduceLeDiff, Nat.reduceMod, Nat.reduceDiv]; (try rfl); try (first | (rw [es]; done) | (rw [es]; simp only [numsD_snoc]; done) | (rw [es]; simp (disch := omega) only [and7, shl7, conv7, or7, numsD_snoc]; done)))
     ·intro h; try exact absurd h (by decide)
      all_goals
       refine rgL ΦRD_ok rdE ?_
       refine nx ?_
       have es := scanN_succ b k (by omega)
       first | rw [scanS, if_pos (by omega)] at es | rw [scanS, if_neg (by omega)] at es
       refine ⟨k + 1, ⟨by omega, fun j h' => ?_⟩, Ent.to rfl rfl rfl ?_ ?_, by omega⟩
       ·rcases Nat.lt_or_ge j k with h2 | h2
        ·exact hj j h2
        ·obtain rfl : j = k := by omega
         omega
       ·simp -implicitDefEqProofs only [go_sem, Nat.reduceLT, Nat.reduceAdd, Nat.reduceEqDiff, reduceIte, Nat.reduceMul, Nat.reduceSub, reduceCtorEq, Int.reduceNe, Int.reduceEq, ne_eq, Nat.reduceLeDiff, Nat.reduceMod, Nat.reduceDiv, es]; (try simp (disch := omega) only [and7, shl7, conv7, or7]); (try simp (disch := omega) only [i64_in, tmodn, tdivn]); (try simp only [List.length_append, List.length_cons, List.length_nil]); (try simp only [D.dat.injEq, Vm.Data.int.injEq, true_and, and_true, and_self, eq_self]); (try omega); (try ((repeat' apply And.intro) <;> first | omega | rfl)); (try trace_state)
       ·(repeat' (first | exact all_nil | (refine all_cons ?_ ?_))) <;> (simp -implicitDefEqProofs only [go_sem, Nat.reduceLT, Nat.reduceAdd, Nat.reduceEqDiff, reduceIte, Nat.reduceMul, Nat.reduceSub, reduceCtorEq, Int.reduceNe, Int.reduceEq, ne_eq, Nat.reduceLeDiff, Nat.reduceMod, Nat.reduceDiv]; (try rfl); try (first | (rw [es]; done) | (rw [es]; simp only [numsD_snoc]; done) | (rw [es]; simp (disch := omega) only [and7, shl7, conv7, or7, numsD_snoc]; done)))
 ·intro h; try exact absurd h (by decide)
  all_goals
   refine rg ΦRD_ok [0, 4, 34] rdE ?_
   refine cn ?_ ?_
   ·intro h; try exact absurd h (by decide)
    all_goals
     obtain ⟨x, r, hxr⟩ : ∃ x r, (scanN b k).2 = x :: r := List.exists_cons_of_length_pos (by omega)
     have hx : x ≤ 9223372036854775807 := scanN_le b k hk hj x (by rw [hxr]; simp)
     rw [hxr]; simp only [numsD_cons, List.length_cons]
     have hrl0 : r.length + 1 ≤ k := by rw [hxr] at hsl; simpa using hsl
     have ee := And.intro (min40' x) (sub40' x)
     refine rg ΦRD_ok [0, 4, 8] ee ?_
     refine rg ΦRD_ok [0, 4, 8] ee ?_
     refine rBL ΦRD_ok  ee fun K' hK => ?_
     repeat' first | with_reducible apply And.intro | exact sd | exact sde ee | exact sdp ee | refine stk ee ?_ | fail
     apply insert_ok
     ·simp -implicitDefEqProofs only [go_sem, Nat.reduceLT, Nat.reduceAdd, Nat.reduceEqDiff, reduceIte, Nat.reduceMul, Nat.reduceSub, reduceCtorEq, Int.reduceNe, Int.reduceEq, ne_eq, Nat.reduceLeDiff, Nat.reduceMod, Nat.reduceDiv]; exact rfl
     ·simp only [List.length_cons, numsD_len]
     ·omega
     ·omega
     ·simp -implicitDefEqProofs only [go_sem, Nat.reduceLT, Nat.reduceAdd, Nat.reduceEqDiff, reduceIte, Nat.reduceMul, Nat.reduceSub, reduceCtorEq, Int.reduceNe, Int.reduceEq, ne_eq, Nat.reduceLeDiff, Nat.reduceMod, Nat.reduceDiv]; exact rfl
     ·decide
     ·simp -implicitDefEqProofs only [go_sem, Nat.reduceLT, Nat.reduceAdd, Nat.reduceEqDiff, reduceIte, Nat.reduceMul, Nat.reduceSub, reduceCtorEq, Int.reduceNe, Int.reduceEq, ne_eq, Nat.reduceLeDiff, Nat.reduceMod, Nat.reduceDiv]
     refine rt ee ?_
     repeat' first | (refine lfL hK ee ?_; clear hK K') | with_reducible apply And.intro | exact sd | exact sde ee | exact sdp ee | refine stk ee ?_ | fail
     all_goals
      obtain rfl : k = b.length := by omega
      have hrl := readX_len b
      have hel := encO_len (readX b)
      first
      | rw [readX_nil (by omega)]
      | (have e0 := readX_cons hxr
         have e1 := congrArg List.length e0
         simp only [List.length_cons] at e1
         rw [nums2, ← e0, ← e1])
      refine rg ΦRD_ok [0, 4, 9, 10] rdE ?_
      refine rB ΦRD_ok [4, 63] rdE fun K' hK => ?_
      repeat' first | (refine lf hK rdE ?_; clear hK K') | with_reducible apply And.intro | refine sA rdE (fun _ => ?_) fun _ => ?_ | refine sAb rdE (fun _ => ?_) fun _ => ?_ | refine sAl rdE (fun g => ?_) fun g => ?_ | exact sd | exact sde rdE | exact sdp rdE | refine stk rdE ?_ | fail
      all_goals
       refine cn ?_ ?_
       ·intro h; try exact absurd h (by decide)
        all_goals
         have hy : readS b = none := by first | exact readS_noneA (may_notB (by assumption)) | exact readS_noneB (by assumption)
         refine rg ΦRD_ok [2, 3] rdE ?_
         exact fz hy
       ·intro h; try exact absurd h (by decide)
        all_goals
         have hy := readS_yes (okS_yes b (fun j hj' => hj j (by omega))) (may_isB (by assumption)) (by assumption)
         refine rg ΦRD_ok [2, 3] rdE ?_
         exact fz hy
   ·intro h; try exact absurd h (by decide)
    all_goals
     obtain rfl : k = b.length := by omega
     have hrl := readX_len b
     have hel := encO_len (readX b)
     first
     | rw [readX_nil (by omega)]
     | (have e0 := readX_cons hxr
        have e1 := congrArg List.length e0
        simp only [List.length_cons] at e1
        rw [nums2, ← e0, ← e1])
     refine rg ΦRD_ok [0, 4, 9, 10] rdE ?_
     refine rB ΦRD_ok [4, 63] rdE fun K' hK => ?_
     repeat' first | (refine lf hK rdE ?_; clear hK K') | with_reducible apply And.intro | refine sA rdE (fun _ => ?_) fun _ => ?_ | refine sAb rdE (fun _ => ?_) fun _ => ?_ | refine sAl rdE (fun g => ?_) fun g => ?_ | exact sd | exact sde rdE | exact sdp rdE | refine stk rdE ?_ | fail
     all_goals
      refine cn ?_ ?_
      ·intro h; try exact absurd h (by decide)
       all_goals
        have hy : readS b = none := by first | exact readS_noneA (may_notB (by assumption)) | exact readS_noneB (by assumption)
        refine rg ΦRD_ok [2, 3] rdE ?_
        exact fz hy
      ·intro h; try exact absurd h (by decide)
       all_goals
        have hy := readS_yes (okS_yes b (fun j hj' => hj j (by omega))) (may_isB (by assumption)) (by assumption)
        refine rg ΦRD_ok [2, 3] rdE ?_
        exact fz hy)
end Go.Proofs.YtpajpkbipagjpaaGreatDoor.Oc
namespace Go.Proofs.YtpajpkbipagjpaaGreatDoor.Oc
open Go Go.RowKit Go.Proofs.YtpajpkbipagjpaaGreatDoor.Vm Go.Proofs.YtpajpkbipagjpaaGreatDoor.Tr Go.IntWalk
set_option maxRecDepth 100000
set_option maxHeartbeats 4000000
def puE : Lib.NumEnd Nat → Vm.Data
 | .ok n => .nili
 | _ => .iface 293 (.ptr [])
theorem puF : (∀ n, puE (.ok n) = .nili) ∧ puE Lib.NumEnd.syntax = .iface 293 (.ptr []) ∧ puE Lib.NumEnd.range = .iface 293 (.ptr []) ∧ (∀ n, puNum (.ok n) = n) ∧ puNum Lib.NumEnd.syntax = 0 ∧ puNum Lib.NumEnd.range = 9223372036854775807 ∧
 (∀ n, puErr (.ok n) = .nili) ∧ puErr Lib.NumEnd.syntax = .iface 291 (.int .i64 2) ∧ puErr Lib.NumEnd.range = .iface 291 (.int .i64 1) ∧ [80, 97, 114, 115, 101, 85, 105, 110, 116] = pub := ⟨fun _ => rfl, rfl, rfl, fun _ => rfl, rfl, rfl, fun _ => rfl, rfl, rfl, rfl⟩
noncomputable def ΦP1 : Fns := tab [(206, fmtUF), (196, parseIF), (197, toErrF)]
theorem ΦP1_ok : Sound E ΦP1 := sound_cons (by kernel_rfl) fmtU_ok (sound_cons (by kernel_rfl) parseI_ok (sound_cons (by kernel_rfl) toErr_ok (sound_nil)))
@[go_sem] theorem ΦP1_r : ΦP1 206 = some fmtUF ∧ ΦP1 196 = some parseIF ∧ ΦP1 197 = some toErrF := ⟨rfl, rfl, rfl⟩
theorem dec_len (n : Nat) (h : n ≤ 9223372036854775807) : (Lib.decDigits n).length ≤ 20 := by
 rw [Lib.decDigits_length]
 rcases Nat.eq_zero_or_pos n with rfl | h1
 ·decide +kernel
 ·have := Lib.numDigits_eq n h1 (by omega); split at this <;> omega
def textS (l : List Nat) : List UInt8 := Lib.join (l.map Lib.decDigits) [46]
theorem joinTail_len (s : List UInt8) : ∀ l : List (List UInt8), (∀ x ∈ l, x.length ≤ 20) → (Lib.joinTail [46] l).length ≤ 21 * l.length := by
 intro l
 induction l with
 | nil => intro _; simp [Lib.joinTail]
 | cons x l ih =>
   intro h
   have h1 := ih fun y hy => h y (by simp [hy])
   have h2 := h x (by simp)
   rw [show Lib.joinTail [46] (x :: l) = 46 :: (x ++ Lib.joinTail [46] l) by simp [Lib.joinTail]]
   simp only [List.length_append, List.length_cons]
   omega
theorem textS_len (l : List Nat) (h : mx l ≤ 9223372036854775807) : (textS l).length ≤ 21 * l.length := by
 have hl := (mx_all l _).1 h
 cases l with
 | nil => simp [textS, Lib.join]
 | cons x l =>
   unfold textS
   rw [List.map_cons, Lib.join_cons, List.length_append]
   have h1 := joinTail_len [46] (l.map Lib.decDigits) (fun y hy => by
    obtain ⟨n, hn, rfl⟩ := List.mem_map.1 hy
    exact dec_len n (hl n (by simp [hn])))
   have h2 := dec_len x (hl x (by simp))
   simp only [List.length_map, List.length_cons] at h1 ⊢
   omega
theorem strsD_snoc (l : List (List UInt8)) (s : List UInt8) : strsD l ++ [[.str s]] = strsD (l ++ [s]) := by simp [strsD]
theorem map_take_succ (l : List Nat) (k : Nat) (h : k < l.length) : (l.take (k + 1)).map Lib.decDigits = (l.take k).map Lib.decDigits ++ [Lib.decDigits (l.getD k 0)] := by
 rw [List.take_add_one, List.getElem?_eq_getElem h, List.getD_eq_getElem?_getD, List.getElem?_eq_getElem h]
 simp only [List.map_append, Option.toList_some, List.map_cons, List.map_nil, Option.getD_some]
theorem mx_ge (l : List Nat) (k : Nat) (h : k < l.length) : l.getD k 0 ≤ mx l := by
 have := (mx_all l (mx l)).1 (Nat.le_refl _) (l.getD k 0) (by rw [List.getD_eq_getElem?_getD, List.getElem?_eq_getElem h]; exact List.getElem_mem h)
 exact this
theorem take_strs (l : List Nat) (k : Nat) (h : k ≤ l.length) : (strsD ((l.take k).map Lib.decDigits)).take k = strsD ((l.take k).map Lib.decDigits) := List.take_of_length_le (by rw [strsD_len, List.length_map, List.length_take]; omega)
noncomputable def fmtPF : PFn := PFn.of fmtUA (fun u => u < 18446744073709551616) (fun u => [.str (Lib.decDigits u)])
@[go_sem] theorem fmtP_pre (u : Nat) : fmtPF.pre [.int .u64 (u : Int), .int .i64 10] = (u < 18446744073709551616) := PFn.of_pre fmtU_inj u
@[go_sem] theorem fmtP_res (u : Nat) : fmtPF.res [.int .u64 (u : Int), .int .i64 10] = [.str (Lib.decDigits u)] := PFn.of_res fmtU_inj u
theorem fmtP_ok : Pure E 156 fmtPF := by
 refine Pure.of_body (rs := [.tmp 4]) (n := 8) Tryz.func156 rfl rfl rfl fun ds hds => ?_
 obtain ⟨u, rfl, hds⟩ := hds
 rw [show fmtPF.res (fmtUA u) = [.str (Lib.decDigits u)] from fmtP_res u]
 refine ⟨Nat.le_of_ble_eq_true rfl, ?_⟩
 show VC E none _ (pureSt 8 [.int .u64 (u : Int), .int .i64 10]) _
 refine st0 ?_
 refine rg ΦP1_ok [0, 1] trivial ?_
 refine rg ΦP1_ok [4] trivial ?_
 exact fz trivial
noncomputable def parseUF : PFn := PFn.of parseIA (fun s => s.length ≤ 1000000) (fun s => [.int .u64 (puNum (puN s)), puE (puN s)])
@[go_sem] theorem parseU_pre (s : List UInt8) : parseUF.pre [.str s, .int .i64 10, .int .i64 63] = (s.length ≤ 1000000) := PFn.of_pre parseI_inj s
@[go_sem] theorem parseU_res (s : List UInt8) : parseUF.res [.str s, .int .i64 10, .int .i64 63] = [.int .u64 (puNum (puN s)), puE (puN s)] := PFn.of_res parseI_inj s
theorem parseU_ok : Pure E 148 parseUF := by
 refine Pure.of_body (rs := [.tmp 6, .tmp 7]) (n := 26) Tryz.func148 rfl rfl rfl fun ds hds => ?_
 obtain ⟨s, rfl, hds⟩ := hds
 rw [show parseUF.res (parseIA s) = [.int .u64 (puNum (puN s)), puE (puN s)] from parseU_res s]
 refine ⟨Nat.le_of_ble_eq_true rfl, ?_⟩
 show VC E none _ (pureSt 26 [.str s, .int .i64 10, .int .i64 63]) _
 rcases hh : puN s with n | _ | _
 all_goals
  refine st0 ?_
  refine rg ΦP1_ok [0, 1, 2] (And.intro hh puF) ?_
  refine rg ΦP1_ok [0, 1, 2, 8, 9] (And.intro hh puF) ?_
  refine rg ΦP1_ok [0, 1, 2, 8, 9, 18] (And.intro hh puF) ?_
  refine cn ?_ ?_
  ·intro h; try exact absurd h (by decide)
   all_goals
    refine rg ΦP1_ok [6, 7] (And.intro hh puF) ?_
    exact fz (And.intro hh puF)
  ·intro h; try exact absurd h (by decide)
   all_goals
    refine rg ΦP1_ok [6, 7] (And.intro hh puF) ?_
    exact fz (And.intro hh puF)
end Go.Proofs.YtpajpkbipagjpaaGreatDoor.Oc
namespace Go.Proofs.YtpajpkbipagjpaaGreatDoor.Oc
open Go Go.RowKit Go.Proofs.YtpajpkbipagjpaaGreatDoor.Vm Go.Proofs.YtpajpkbipagjpaaGreatDoor.Tr Go.IntWalk
set_option maxRecDepth 100000
set_option maxHeartbeats 4000000
noncomputable def ΦTX : Fns := tab [(156, fmtPF), (149, checkF), (157, joinF)]
theorem ΦTX_ok : Sound E ΦTX := sound_cons (by kernel_rfl) fmtP_ok (sound_cons (by kernel_rfl) check_ok (sound_cons (by kernel_rfl) join_ok (sound_nil)))
@[go_sem] theorem ΦTX_r : ΦTX 156 = some fmtPF ∧ ΦTX 149 = some checkF ∧ ΦTX 157 = some joinF := ⟨rfl, rfl, rfl⟩
theorem txE : (∀ (l : List (List UInt8)) (s : List UInt8), strsD l ++ [[.str s]] = strsD (l ++ [s])) ∧ (∀ (l : List Nat) (k : Nat), k ≤ l.length → (strsD ((l.take k).map Lib.decDigits)).take k = strsD ((l.take k).map Lib.decDigits)) ∧
 (∀ (l : List Nat) (k : Nat), k < l.length → (l.take k).map Lib.decDigits ++ [Lib.decDigits (l.getD k 0)] = (l.take (k + 1)).map Lib.decDigits) ∧ (∀ l : List Nat, (l.take 0).map Lib.decDigits = []) ∧ strsD [] = [] ∧ ∀ (l : List Nat) (k : Nat), k ≤ l.length → (strsD ((l.take k).map Lib.decDigits)).length = k :=
 ⟨strsD_snoc, take_strs, fun l k h => (map_take_succ l k h).symm, fun _ => rfl, rfl, fun l k h => by rw [strsD_len, List.length_map, List.length_take]; omega⟩
@[go_sem] noncomputable def textF : PFn := PF [SN] (fun (l : List Nat) => l.length ≤ 4611686018427387904) (fun (l : List Nat) => [.str (if may l then textS l else []), .int .i64 (if may l then 0 else 140)])
theorem text_ok : Pure E 113 textF := Pure.of_sig (rs := [.tmp 2, .tmp 3]) (n := 27) Tryz.func113 rfl rfl rfl (Nat.le_of_ble_eq_true rfl) (by
 intro (l : List Nat) hds
 refine st0 ?_
 refine rg ΦTX_ok [0] txE ?_
 refine rg ΦTX_ok [0, 4] txE ?_
 refine rg ΦTX_ok [0, 4, 11] txE ?_
 refine cn ?_ ?_
 ·intro h; try exact absurd h (by decide)
  all_goals
   have hm : may l = false := may_not (by assumption)
   have hy := And.intro hm trivial
   refine rg ΦTX_ok [2, 3] txE ?_
   exact fz hy
 ·intro h; try exact absurd h (by decide)
  all_goals
   have hm : may l = true := may_is (by assumption)
   have hml := of_decide_eq_true hm
   refine rg ΦTX_ok [0, 5] txE ?_
   refine rg ΦTX_ok [5, 13, 14, 15] txE ?_
   refine nx ?_
   refine nlt 5 1 9 1 ?_
   refine nx ?_
   refine VC.loopP (ι := Nat) [13, 14] (fun i => [(15, .dat (.int .i64 (i : Int))), (5, .sl 1 0 i)]) (fun i => [(1, .arr 9 1 (strsD ((l.take i).map Lib.decDigits)) 0)]) (fun i => i ≤ l.length) (fun i => l.length - i) 0 (by omega) (ete txE) ?_
   rintro i hp; try dsimp only at hp
   refine st0 ?_
   refine rg ΦTX_ok [5, 13, 14, 15, 16] txE ?_
   refine cn ?_ ?_
   ·intro h; try exact absurd h (by decide)
    all_goals
     refine rg ΦTX_ok [5, 7, 13, 14, 15] txE ?_
     have hgk := Nat.le_trans (mx_ge l i (by omega)) hml.2.2.2.2.1
     refine rgL ΦTX_ok txE ?_
     refine rgL ΦTX_ok txE ?_
     refine nx ?_
     exact ⟨i + 1, by omega, ete txE, by omega⟩
   ·intro h; try exact absurd h (by decide)
    all_goals
     obtain rfl : i = l.length := by omega
     rw [List.take_length]
     have htl := textS_len l hml.2.2.2.2.1
     have hy := And.intro hm (And.intro (show Lib.join (l.map Lib.decDigits) [46] = textS l from rfl) (And.intro (show (strsD (l.map Lib.decDigits)).take l.length = strsD (l.map Lib.decDigits) from List.take_of_length_le (by rw [strsD_len, List.length_map]; omega)) (show (strsD (l.map Lib.decDigits)).length = l.length by rw [strsD_len, List.length_map])))
     refine rg ΦTX_ok [2, 3] hy ?_
     exact fz hy)
end Go.Proofs.YtpajpkbipagjpaaGreatDoor.Oc
namespace Go.Proofs.YtpajpkbipagjpaaGreatDoor.Oc
open Go Go.RowKit Go.Proofs.YtpajpkbipagjpaaGreatDoor.Vm Go.Proofs.YtpajpkbipagjpaaGreatDoor.Tr Go.IntWalk
set_option maxRecDepth 100000
set_option maxHeartbeats 4000000
def wordP (w : List UInt8) : Option Nat := match puN w with
 | .ok n => some n
 | _ => none
def progA : List UInt8 → List UInt8 → List Nat → Option (List Nat)
 | [], w, out => match wordP w with
   | some n => some (out ++ [n])
   | none => none
 | c :: r, w, out => if c = 46 then (match wordP w with
   | some n => progA r [] (out ++ [n])
   | none => none) else progA r (w ++ [c]) out
def parseP (s : List UInt8) : Option (List Nat) := match progA s [] [] with
 | some l => if may l = true ∧ textS l = s then some l else none
 | none => none
theorem idx_neg : ∀ (r w : List UInt8) (out : List Nat), Lib.indexByte r 46 < 0 → progA r w out = (match wordP (w ++ r) with
 | some n => some (out ++ [n])
 | none => none)
 | [], w, out, _ => by simp [progA]
 | c :: r, w, out, h => by
   unfold Lib.indexByte at h
   by_cases hc : c = 46
   ·subst hc; simp at h
   ·have hc' : (c == 46) = false := by simpa using hc
    rw [hc'] at h
    simp only [Bool.false_eq_true, if_false] at h
    have hr : Lib.indexByte r 46 < 0 := by
     by_cases h1 : (Lib.indexByte r 46 == -1) = true
     ·have := eq_of_beq h1; omega
     ·rw [if_neg h1] at h; omega
    rw [progA, if_neg hc, idx_neg r (w ++ [c]) out hr]
    simp
theorem idx_pos : ∀ (r w : List UInt8) (out : List Nat), ¬ Lib.indexByte r 46 < 0 → ∃ i : Nat, Lib.indexByte r 46 = (i : Int) ∧ i < r.length ∧ progA r w out = (match wordP (w ++ r.take i) with
 | some n => progA (r.drop (i + 1)) [] (out ++ [n])
 | none => none)
 | [], w, out, h => by simp [Lib.indexByte] at h
 | c :: r, w, out, h => by
   unfold Lib.indexByte at h
   by_cases hc : c = 46
   ·subst hc
    refine ⟨0, by simp [Lib.indexByte], by simp, ?_⟩
    rw [progA, if_pos rfl]; simp
   ·have hc' : (c == 46) = false := by simpa using hc
    rw [hc'] at h
    simp only [Bool.false_eq_true, if_false] at h
    have h1 : ¬ (Lib.indexByte r 46 == -1) = true := fun h1 => by rw [if_pos h1] at h; exact h (by decide)
    rw [if_neg h1] at h
    have h2 : ¬ Lib.indexByte r 46 < 0 := by
     intro h3
     have := idxlow r
     have : Lib.indexByte r 46 = -1 := by omega
     exact h1 (by rw [this]; rfl)
    obtain ⟨i, e, hi, hp⟩ := idx_pos r (w ++ [c]) out h2
    refine ⟨i + 1, ?_, by simp; omega, ?_⟩
    ·rw [show Lib.indexByte (c :: r) 46 = if c == 46 then 0 else if Lib.indexByte r 46 == -1 then -1 else Lib.indexByte r 46 + 1 from rfl, hc', if_neg (by decide), if_neg h1, e]; rfl
    ·rw [progA, if_neg hc, hp]; simp
where idxlow : ∀ (r : List UInt8), -1 ≤ Lib.indexByte r 46
 | [] => by simp [Lib.indexByte]
 | c :: r => by
   have := idxlow r
   unfold Lib.indexByte
   split
   ·omega
   ·split <;> omega
theorem take_rest (r : List UInt8) (i : Nat) : (r.drop ((i : Int) + 1).toNat).take ((r.length : Int) - ((i : Int) + 1)).toNat = r.drop (i + 1) := by
 rw [show ((i : Int) + 1).toNat = i + 1 by omega]
 exact List.take_of_length_le (by rw [List.length_drop]; omega)
theorem take_rest2 (r : List UInt8) (i : Nat) (h : i < r.length) (hr : r.length ≤ 100000) : (r.drop (IntKind.i64.wrap ((i : Int) + ((1 : Nat) : Int))).toNat).take ((r.length : Int) - IntKind.i64.wrap ((i : Int) + ((1 : Nat) : Int))).toNat = r.drop (i + 1) := by
 rw [i64_in _ (by omega)]
 exact take_rest r i
theorem wordP_some {w : List UInt8} {n : Nat} (h : puN w = .ok n) : wordP w = some n := by unfold wordP; rw [h]
theorem wordP_none {w : List UInt8} (h : ∀ n, puN w ≠ .ok n) : wordP w = none := by
 unfold wordP; cases e : puN w with
 | ok n => exact absurd e (h n)
 | _ => rfl
theorem wordP_syntax {w : List UInt8} (h : puN w = Lib.NumEnd.syntax) : wordP w = none := wordP_none fun n e => by rw [h] at e; cases e
theorem wordP_range {w : List UInt8} (h : puN w = .range) : wordP w = none := wordP_none fun n e => by rw [h] at e; cases e
theorem parseP_none {s : List UInt8} (h : progA s [] [] = none) : parseP s = none := by unfold parseP; rw [h]
theorem parseP_bad {s : List UInt8} {l : List Nat} (h : progA s [] [] = some l) (h2 : ¬ (may l = true ∧ textS l = s)) : parseP s = none := by unfold parseP; rw [h]; exact if_neg h2
theorem parseP_yes {s : List UInt8} {l : List Nat} (h : progA s [] [] = some l) (h2 : may l = true ∧ textS l = s) : parseP s = some l := by unfold parseP; rw [h]; exact if_pos h2
theorem spE : (∀ (r : List UInt8) (i : Nat), (r.drop ((i : Int) + 1).toNat).take ((r.length : Int) - ((i : Int) + 1)).toNat = r.drop (i + 1)) ∧ ∀ i : Int, i + 0 = i := ⟨take_rest, Int.add_zero⟩
noncomputable def ΦPA : Fns := tab [(237, idxF), (148, parseUF), (113, textF)]
theorem ΦPA_ok : Sound E ΦPA := sound_cons (by kernel_rfl) idx_ok (sound_cons (by kernel_rfl) parseU_ok (sound_cons (by kernel_rfl) text_ok (sound_nil)))
@[go_sem] theorem ΦPA_r : ΦPA 237 = some idxF ∧ ΦPA 148 = some parseUF ∧ ΦPA 113 = some textF ∧ ΦPA 147 = none ∧ ΦPA 195 = none ∧ ΦPA 235 = none := ⟨rfl, rfl, rfl, rfl, rfl, rfl⟩
@[go_sem] theorem ΦPA_c : callable Tryz.prog 147 = true ∧ callable Tryz.prog 195 = true ∧ callable Tryz.prog 235 = true := ⟨by kernel_rfl, by kernel_rfl, by kernel_rfl⟩
@[go_sem] noncomputable def parseF : PFn := PF [SS] (fun (s : List UInt8) => s.length ≤ 100000) (fun (s : List UInt8) => [.lst (numsD ((parseP s).getD [])), .int .i64 (if (parseP s).isSome then 0 else 140)])
theorem parse_ok : Pure E 104 parseF := Pure.of_sig (rs := [.cell 2 151, .cell 3 27]) (n := 37) Tryz.func104 rfl rfl rfl (Nat.le_of_ble_eq_true rfl) (by
 intro (s : List UInt8) hds
 refine st0 ?_
 refine rg ΦPA_ok [0, 2, 3, 5] spE ?_
 refine rg ΦPA_ok [0, 2, 3, 4, 5] spE ?_
 refine rB ΦPA_ok [0, 2, 3, 4, 5, 11] spE fun K' hK => ?_
 repeat' first | with_reducible apply And.intro | exact sd | exact sde spE | exact sdp spE | refine stk spE ?_ | fail
 refine ec (rs := [.tmp 4]) (n := 8) Tryz.func147 rfl rfl rfl ?_
 refine rg ΦPA_ok [0, 1] trivial ?_
 refine rB ΦPA_ok [4] trivial fun K' hK => ?_
 repeat' first | with_reducible apply And.intro | exact sd | exact sde trivial | exact sdp trivial | refine stk trivial ?_ | fail
 refine ec (rs := [.tmp 6]) (n := 8) Tryz.func195 rfl rfl rfl ?_
 refine rg ΦPA_ok [3, 4, 5] trivial ?_
 refine rg ΦPA_ok [6] trivial ?_
 refine nx ?_
 refine rt trivial ?_
 repeat' first | (refine lf hK trivial ?_; clear hK K') | with_reducible apply And.intro | exact sd | exact sde trivial | exact sdp trivial | refine stk trivial ?_ | fail
 all_goals
  refine nx ?_
  refine rt spE ?_
  repeat' first | (refine lf hK spE ?_; clear hK K') | with_reducible apply And.intro | exact sd | exact sde spE | exact sdp spE | refine stk spE ?_ | fail
  all_goals
   refine nx ?_
   refine nlc 3 0 7 158 1 ?_
   refine nx ?_
   refine re (rs := []) (n := 52) 8 9 Tryz.func235 rfl rfl rfl fun A B hA hB => ?_
   refine rg ΦPA_ok [0, 1, 2, 3, 11] spE ?_
   refine cn ?_ ?_
   ·intro h; try exact absurd h (by decide)
    all_goals
     skip
   ·intro h; try exact absurd h (by decide)
    all_goals
     refine nx ?_
     refine VC.loopS (ι := List UInt8 × List Nat) [0, 1, 2, 3] (fun i => []) (fun i => [(4, .cells [.dat (.str i.1)] false), (3, .cells [.sl 7 0 i.2.length] false), (7, .arr 158 1 (numsD i.2) 0)]) (fun i => i.1.length + i.2.length ≤ s.length ∧ progA i.1 [] i.2 = progA s [] []) (fun i => i.1.length) (s, []) ⟨Nat.le_refl _, rfl⟩ ?_ ?_
     ·refine Ent.to rfl rfl rfl ?_ ?_
      ·simp -implicitDefEqProofs only [go_sem, Nat.reduceLT, Nat.reduceAdd, Nat.reduceEqDiff, reduceIte, Nat.reduceMul, Nat.reduceSub, reduceCtorEq, Int.reduceNe, Int.reduceEq, ne_eq, Nat.reduceLeDiff, Nat.reduceMod, Nat.reduceDiv]; (try simp only [D.dat.injEq, Vm.Data.int.injEq, true_and, and_true, and_self, eq_self]); (try omega); (try ((repeat' apply And.intro) <;> first | omega | rfl))
      ·apply all_at
       ·simp -implicitDefEqProofs only [go_sem, Nat.reduceLT, Nat.reduceAdd, Nat.reduceEqDiff, reduceIte, Nat.reduceMul, Nat.reduceSub, reduceCtorEq, Int.reduceNe, Int.reduceEq, ne_eq, Nat.reduceLeDiff, Nat.reduceMod, Nat.reduceDiv]; exact rfl
       ·(repeat' (first | exact all_nil | (refine all_cons ?_ ?_))) <;> (simp -implicitDefEqProofs only [go_sem, Nat.reduceLT, Nat.reduceAdd, Nat.reduceEqDiff, reduceIte, Nat.reduceMul, Nat.reduceSub, reduceCtorEq, Int.reduceNe, Int.reduceEq, ne_eq, Nat.reduceLeDiff, Nat.reduceMod, Nat.reduceDiv]; (try rfl); skip)
     rintro ⟨r, out⟩ hp; (try dsimp only at hp); obtain ⟨hrl, hpr⟩ := hp
     refine st0 ?_
     refine rg ΦPA_ok [0, 1, 2, 3, 7] spE ?_
     refine rg ΦPA_ok [0, 1, 2, 3, 7, 33] spE ?_
     refine cn ?_ ?_
     ·intro h; try exact absurd h (by decide)
      all_goals
       refine rBL ΦPA_ok  spE fun K' hK => ?_
       repeat' first | with_reducible apply And.intro | exact sd | exact sde spE | exact sdp spE | refine stk spE ?_ | fail
       refine yd hA ?_
       refine rgL ΦPA_ok spE ?_
       refine nx ?_
       refine yb hB ?_
       rcases hpu : puN r with n | _ | _
       all_goals
        refine rg ΦPA_ok [2, 3, 4, 6, 7] (And.intro hpu (And.intro puF spE)) ?_
        refine rg ΦPA_ok [2, 3, 4, 6, 19] (And.intro hpu (And.intro puF spE)) ?_
        refine cn ?_ ?_
        ·intro h; try exact absurd h (by decide)
         all_goals
          have hy := parseP_none (s := s) (by rw [← hpr]; (first | rw [idx_neg r [] out (by assumption), List.nil_append] | rw [hpi, List.nil_append]); (first | rw [wordP_syntax hpu] | rw [wordP_range hpu]))
          refine rg ΦPA_ok [2, 3] (And.intro hpu (And.intro puF spE)) ?_
          refine nx ?_
          refine rt spE ?_
          repeat' first | (refine lfL hK spE ?_; clear hK K') | with_reducible apply And.intro | exact sd | exact sde spE | exact sdp spE | refine stk spE ?_ | fail
          all_goals
           refine nx ?_
           refine rt (And.intro hpu (And.intro puF spE)) ?_
           refine yc ?_
           refine nx ?_
           refine pureK_r (pureS_one (l := 8) (by simp -implicitDefEqProofs only [go_sem, Nat.reduceLT, Nat.reduceAdd, Nat.reduceEqDiff, reduceIte, Nat.reduceMul, Nat.reduceSub, reduceCtorEq, Int.reduceNe, Int.reduceEq, ne_eq, Nat.reduceLeDiff, Nat.reduceMod, Nat.reduceDiv]) ?_)
           exact fz hy
        ·intro h; try exact absurd h (by decide)
         all_goals
          refine rgL ΦPA_ok (And.intro hpu (And.intro puF spE)) ?_
          refine nx ?_
          refine rt spE ?_
          repeat' first | (refine lfL hK spE ?_; clear hK K') | with_reducible apply And.intro | exact sd | exact sde spE | exact sdp spE | refine stk spE ?_ | fail
          all_goals
           refine nx ?_
           refine rt (And.intro hpu (And.intro puF spE)) ?_
           refine ya ?_
           have hP : progA s [] [] = some (out ++ [n]) := by rw [← hpr, idx_neg r [] out (by assumption), List.nil_append, wordP_some hpu]
           have hL : (out ++ [n]).length ≤ s.length + 1 := by simp; omega
           simp only [numsD_take_len, numsD_snoc, show out.length + 1 = (out ++ [n]).length by simp]
           generalize out ++ [n] = L at *
           refine rg ΦPA_ok [0, 2, 3, 4, 8, 9] (And.intro hpu (And.intro puF spE)) ?_
           refine rB ΦPA_ok [2, 3, 4, 35] (And.intro hpu (And.intro puF spE)) fun K' hK => ?_
           repeat' first | (refine lf hK (And.intro hpu (And.intro puF spE)) ?_; clear hK K') | with_reducible apply And.intro | refine sA (And.intro hpu (And.intro puF spE)) (fun _ => ?_) fun _ => ?_ | refine sAb (And.intro hpu (And.intro puF spE)) (fun _ => ?_) fun _ => ?_ | refine sAl (And.intro hpu (And.intro puF spE)) (fun g => ?_) fun g => ?_ | exact sd | exact sde (And.intro hpu (And.intro puF spE)) | exact sdp (And.intro hpu (And.intro puF spE)) | refine stk (And.intro hpu (And.intro puF spE)) ?_ | fail
           all_goals
            refine cn ?_ ?_
            ·intro h; try exact absurd h (by decide)
             all_goals
              have hy := parseP_bad hP (by rintro ⟨h1, h2⟩; simp_all; done)
              refine rg ΦPA_ok [2, 3] (And.intro hpu (And.intro puF spE)) ?_
              refine nx ?_
              refine pureK_r (pureS_one (l := 8) (by simp -implicitDefEqProofs only [go_sem, Nat.reduceLT, Nat.reduceAdd, Nat.reduceEqDiff, reduceIte, Nat.reduceMul, Nat.reduceSub, reduceCtorEq, Int.reduceNe, Int.reduceEq, ne_eq, Nat.reduceLeDiff, Nat.reduceMod, Nat.reduceDiv]) ?_)
              exact fz hy
            ·intro h; try exact absurd h (by decide)
             all_goals
              have hy := parseP_yes hP (by simp_all; done)
              refine rg ΦPA_ok [2, 3] (And.intro hpu (And.intro puF spE)) ?_
              refine nx ?_
              refine pureK_r (pureS_one (l := 8) (by simp -implicitDefEqProofs only [go_sem, Nat.reduceLT, Nat.reduceAdd, Nat.reduceEqDiff, reduceIte, Nat.reduceMul, Nat.reduceSub, reduceCtorEq, Int.reduceNe, Int.reduceEq, ne_eq, Nat.reduceLeDiff, Nat.reduceMod, Nat.reduceDiv]) ?_)
              exact fz hy
     ·intro h; try exact absurd h (by decide)
      all_goals
       obtain ⟨i, hi, hil, hpi⟩ := idx_pos r [] out (by assumption)
       simp only [hi]
       refine rg ΦPA_ok [0, 1, 2, 3, 7, 8] spE ?_
       refine rB ΦPA_ok [0, 1, 2, 3, 7, 42] spE fun K' hK => ?_
       repeat' first | with_reducible apply And.intro | exact sd | exact sde spE | exact sdp spE | refine stk spE ?_ | fail
       refine yd hA ?_
       refine rgL ΦPA_ok spE ?_
       refine nx ?_
       refine yb hB ?_
       rcases hpu : puN (r.take i) with n | _ | _
       all_goals
        refine rg ΦPA_ok [2, 3, 4, 6, 7] (And.intro hpu (And.intro puF spE)) ?_
        refine rg ΦPA_ok [2, 3, 4, 6, 19] (And.intro hpu (And.intro puF spE)) ?_
        refine cn ?_ ?_
        ·intro h; try exact absurd h (by decide)
         all_goals
          have hy := parseP_none (s := s) (by rw [← hpr]; (first | rw [idx_neg r [] out (by assumption), List.nil_append] | rw [hpi, List.nil_append]); (first | rw [wordP_syntax hpu] | rw [wordP_range hpu]))
          refine rg ΦPA_ok [2, 3] (And.intro hpu (And.intro puF spE)) ?_
          refine nx ?_
          refine rt spE ?_
          repeat' first | (refine lf hK spE ?_; clear hK K') | with_reducible apply And.intro | exact sd | exact sde spE | exact sdp spE | refine stk spE ?_ | fail
          all_goals
           refine cn ?_ ?_
           ·intro h; try exact absurd h (by decide)
            all_goals
             refine nx ?_
             refine rt (And.intro hpu (And.intro puF spE)) ?_
             refine yc ?_
             refine nx ?_
             refine pureK_r (pureS_one (l := 8) (by simp -implicitDefEqProofs only [go_sem, Nat.reduceLT, Nat.reduceAdd, Nat.reduceEqDiff, reduceIte, Nat.reduceMul, Nat.reduceSub, reduceCtorEq, Int.reduceNe, Int.reduceEq, ne_eq, Nat.reduceLeDiff, Nat.reduceMod, Nat.reduceDiv]) ?_)
             exact fz hy
           ·intro h; try exact absurd h (by decide)
            all_goals
             refine rgL ΦPA_ok spE ?_
             refine nx ?_
             refine ⟨(r.drop (i + 1), out ++ [n]), ⟨by simp only [List.length_drop, List.length_append, List.length_cons, List.length_nil]; omega, ?_⟩, Ent.to rfl rfl rfl ?_ ?_, by simp only [List.length_drop]; omega⟩
             ·dsimp only; rw [← hpr, hpi, List.nil_append, wordP_some hpu]
             ·simp -implicitDefEqProofs only [go_sem, Nat.reduceLT, Nat.reduceAdd, Nat.reduceEqDiff, reduceIte, Nat.reduceMul, Nat.reduceSub, reduceCtorEq, Int.reduceNe, Int.reduceEq, ne_eq, Nat.reduceLeDiff, Nat.reduceMod, Nat.reduceDiv]; (try simp (disch := omega) only [i64_in, tmodn, tdivn]); (try simp only [D.dat.injEq, Vm.Data.int.injEq, true_and, and_true, and_self, eq_self]); (try omega); (try ((repeat' apply And.intro) <;> first | omega | rfl))
             ·apply all_at
              ·simp -implicitDefEqProofs only [go_sem, Nat.reduceLT, Nat.reduceAdd, Nat.reduceEqDiff, reduceIte, Nat.reduceMul, Nat.reduceSub, reduceCtorEq, Int.reduceNe, Int.reduceEq, ne_eq, Nat.reduceLeDiff, Nat.reduceMod, Nat.reduceDiv]; first | done | exact rfl
              ·(repeat' (first | exact all_nil | (refine all_cons ?_ ?_))) <;> (simp -implicitDefEqProofs only [go_sem, Nat.reduceLT, Nat.reduceAdd, Nat.reduceEqDiff, reduceIte, Nat.reduceMul, Nat.reduceSub, reduceCtorEq, Int.reduceNe, Int.reduceEq, ne_eq, Nat.reduceLeDiff, Nat.reduceMod, Nat.reduceDiv]; (try rfl); try first | rfl | (simp only [numsD_snoc]; done) | (simp; done) | (simp [numsD_snoc]; done) | (rw [take_rest2 r i hil (by omega)]; done) | (simp only [Int.natCast_one, take_rest]; done))
        ·intro h; try exact absurd h (by decide)
         all_goals
          refine rgL ΦPA_ok (And.intro hpu (And.intro puF spE)) ?_
          refine nx ?_
          refine rt spE ?_
          repeat' first | (refine lf hK spE ?_; clear hK K') | with_reducible apply And.intro | exact sd | exact sde spE | exact sdp spE | refine stk spE ?_ | fail
          all_goals
           refine cn ?_ ?_
           ·intro h; try exact absurd h (by decide)
            all_goals
             refine nx ?_
             refine rt (And.intro hpu (And.intro puF spE)) ?_
             refine ya ?_
             have hP : progA s [] [] = some (out ++ [n]) := by rw [← hpr, idx_neg r [] out (by assumption), List.nil_append, wordP_some hpu]
             have hL : (out ++ [n]).length ≤ s.length + 1 := by simp; omega
             simp only [numsD_take_len, numsD_snoc, show out.length + 1 = (out ++ [n]).length by simp]
             generalize out ++ [n] = L at *
             refine rg ΦPA_ok [0, 2, 3, 4, 8, 9] (And.intro hpu (And.intro puF spE)) ?_
             refine rB ΦPA_ok [2, 3, 4, 35] (And.intro hpu (And.intro puF spE)) fun K' hK => ?_
             repeat' first | (refine lf hK (And.intro hpu (And.intro puF spE)) ?_; clear hK K') | with_reducible apply And.intro | refine sA (And.intro hpu (And.intro puF spE)) (fun _ => ?_) fun _ => ?_ | refine sAb (And.intro hpu (And.intro puF spE)) (fun _ => ?_) fun _ => ?_ | refine sAl (And.intro hpu (And.intro puF spE)) (fun g => ?_) fun g => ?_ | exact sd | exact sde (And.intro hpu (And.intro puF spE)) | exact sdp (And.intro hpu (And.intro puF spE)) | refine stk (And.intro hpu (And.intro puF spE)) ?_ | fail
             all_goals
              refine cn ?_ ?_
              ·intro h; try exact absurd h (by decide)
               all_goals
                have hy := parseP_bad hP (by rintro ⟨h1, h2⟩; simp_all; done)
                refine rg ΦPA_ok [2, 3] (And.intro hpu (And.intro puF spE)) ?_
                refine nx ?_
                refine pureK_r (pureS_one (l := 8) (by simp -implicitDefEqProofs only [go_sem, Nat.reduceLT, Nat.reduceAdd, Nat.reduceEqDiff, reduceIte, Nat.reduceMul, Nat.reduceSub, reduceCtorEq, Int.reduceNe, Int.reduceEq, ne_eq, Nat.reduceLeDiff, Nat.reduceMod, Nat.reduceDiv]) ?_)
                exact fz hy
              ·intro h; try exact absurd h (by decide)
               all_goals
                have hy := parseP_yes hP (by simp_all; done)
                refine rg ΦPA_ok [2, 3] (And.intro hpu (And.intro puF spE)) ?_
                refine nx ?_
                refine pureK_r (pureS_one (l := 8) (by simp -implicitDefEqProofs only [go_sem, Nat.reduceLT, Nat.reduceAdd, Nat.reduceEqDiff, reduceIte, Nat.reduceMul, Nat.reduceSub, reduceCtorEq, Int.reduceNe, Int.reduceEq, ne_eq, Nat.reduceLeDiff, Nat.reduceMod, Nat.reduceDiv]) ?_)
                exact fz hy
           ·intro h; try exact absurd h (by decide)
            all_goals
             refine rgL ΦPA_ok spE ?_
             refine nx ?_
             refine ⟨(r.drop (i + 1), out ++ [n]), ⟨by simp only [List.length_drop, List.length_append, List.length_cons, List.length_nil]; omega, ?_⟩, Ent.to rfl rfl rfl ?_ ?_, by simp only [List.length_drop]; omega⟩
             ·dsimp only; rw [← hpr, hpi, List.nil_append, wordP_some hpu]
             ·simp -implicitDefEqProofs only [go_sem, Nat.reduceLT, Nat.reduceAdd, Nat.reduceEqDiff, reduceIte, Nat.reduceMul, Nat.reduceSub, reduceCtorEq, Int.reduceNe, Int.reduceEq, ne_eq, Nat.reduceLeDiff, Nat.reduceMod, Nat.reduceDiv]; (try simp (disch := omega) only [i64_in, tmodn, tdivn]); (try simp only [D.dat.injEq, Vm.Data.int.injEq, true_and, and_true, and_self, eq_self]); (try omega); (try ((repeat' apply And.intro) <;> first | omega | rfl))
             ·apply all_at
              ·simp -implicitDefEqProofs only [go_sem, Nat.reduceLT, Nat.reduceAdd, Nat.reduceEqDiff, reduceIte, Nat.reduceMul, Nat.reduceSub, reduceCtorEq, Int.reduceNe, Int.reduceEq, ne_eq, Nat.reduceLeDiff, Nat.reduceMod, Nat.reduceDiv]; first | done | exact rfl
              ·(repeat' (first | exact all_nil | (refine all_cons ?_ ?_))) <;> (simp -implicitDefEqProofs only [go_sem, Nat.reduceLT, Nat.reduceAdd, Nat.reduceEqDiff, reduceIte, Nat.reduceMul, Nat.reduceSub, reduceCtorEq, Int.reduceNe, Int.reduceEq, ne_eq, Nat.reduceLeDiff, Nat.reduceMod, Nat.reduceDiv]; (try rfl); try first | rfl | (simp only [numsD_snoc]; done) | (simp; done) | (simp [numsD_snoc]; done) | (rw [take_rest2 r i hil (by omega)]; done) | (simp only [Int.natCast_one, take_rest]; done)))
end Go.Proofs.YtpajpkbipagjpaaGreatDoor.Oc
namespace Go.Proofs.YtpajpkbipagjpaaGreatDoor.Oc
open Go Go.RowKit Go.Proofs.YtpajpkbipagjpaaGreatDoor.Vm Go.Proofs.YtpajpkbipagjpaaGreatDoor.Tr Go.IntWalk
set_option maxRecDepth 100000
set_option maxHeartbeats 4000000
theorem knownP_len : knownP.length = 26 := by decide +kernel
theorem knownP_le : ∀ x ∈ knownP, x.1.length ≤ 100 ∧ x.2.length ≤ 100 := by decide +kernel
def kn (k : Nat) : List UInt8 := (knownP.getD k ([], [])).1
def kt (k : Nat) : List UInt8 := (knownP.getD k ([], [])).2
theorem kt_len (k : Nat) : (kt k).length ≤ 100 := by
 unfold kt
 rw [List.getD_eq_getElem?_getD]
 rcases Nat.lt_or_ge k knownP.length with h | h
 ·rw [List.getElem?_eq_getElem h]; exact (knownP_le _ (List.getElem_mem h)).2
 ·rw [List.getElem?_eq_none h]; simp
theorem knownCs_len : (knownCs knownP).length = 52 := by decide +kernel
theorem knownCs_take : (knownCs knownP).take 52 = knownCs knownP := List.take_of_length_le (by rw [knownCs_len]; exact Nat.le_refl _)
theorem knownCs_drop : ∀ (l : List (List UInt8 × List UInt8)) (k : Nat), (knownCs l).drop (k * 2) = knownCs (l.drop k)
 | l, 0 => by simp
 | [], k + 1 => by simp [knownCs]
 | x :: l, k + 1 => by
   rw [show (k + 1) * 2 = k * 2 + 2 by omega, List.drop_succ_cons, ← knownCs_drop l k]
   simp [knownCs]
theorem known_at {k : Nat} (h : k < 26) : ((knownCs knownP).drop (k * 2)).take 2 = [.str (kn k), .str (kt k)] := by
 rw [knownCs_drop]
 have hk : k < knownP.length := by rw [knownP_len]; exact h
 rw [List.drop_eq_getElem_cons hk]
 simp only [kn, kt, List.getD_eq_getElem?_getD, List.getElem?_eq_getElem hk, Option.getD_some, knownCs, List.flatMap_cons, List.cons_append, List.nil_append, List.take_succ_cons, List.take_zero]
theorem parseP_may {s : List UInt8} {l : List Nat} (h : parseP s = some l) : may l = true := by
 unfold parseP at h
 split at h
 ·split at h
  ·rename_i hm; injection h with h; subst h; exact hm.1
  ·cases h
 ·cases h
theorem parseP_len (s : List UInt8) : ((parseP s).getD []).length ≤ 20 := by
 cases h : parseP s with
 | none => simp
 | some l =>
   have := of_decide_eq_true (parseP_may h)
   simp only [Option.getD_some]; exact this.2.1
def namedP : List (List UInt8 × List UInt8) → List UInt8 → List UInt8
 | [], _ => []
 | x :: r, name => if x.1 = name then encO ((parseP x.2).getD []) else namedP r name
def nameP : List (List UInt8 × List UInt8) → List UInt8 → List UInt8
 | [], _ => []
 | x :: r, s => if x.2 = s then x.1 else nameP r s
theorem drop_known {k : Nat} (h : k < 26) : knownP.drop k = (kn k, kt k) :: knownP.drop (k + 1) := by
 have hk : k < knownP.length := by rw [knownP_len]; exact h
 rw [List.drop_eq_getElem_cons hk]
 simp only [kn, kt, List.getD_eq_getElem?_getD, List.getElem?_eq_getElem hk, Option.getD_some, List.flatMap_cons, List.cons_append, List.nil_append, List.take_succ_cons, List.take_zero]
theorem namedP_hit {k : Nat} {name : List UInt8} (h : k < 26) (h' : kn k = name) : namedP (knownP.drop k) name = encO ((parseP (kt k)).getD []) := by rw [drop_known h]; simp only [namedP, if_pos h']
theorem namedP_next {k : Nat} {name : List UInt8} (h : k < 26) (h' : ¬ kn k = name) : namedP (knownP.drop (k + 1)) name = namedP (knownP.drop k) name := by rw [drop_known h]; simp only [namedP, if_neg h']
theorem nameP_hit {k : Nat} {s : List UInt8} (h : k < 26) (h' : kt k = s) : nameP (knownP.drop k) s = kn k := by rw [drop_known h]; simp only [nameP, if_pos h']
theorem nameP_next {k : Nat} {s : List UInt8} (h : k < 26) (h' : ¬ kt k = s) : nameP (knownP.drop (k + 1)) s = nameP (knownP.drop k) s := by rw [drop_known h]; simp only [nameP, if_neg h']
def theText (b : List UInt8) : List UInt8 := if may ((readS b).getD []) = true then textS ((readS b).getD []) else []
theorem theText_eq (b : List UInt8) : (if may ((readS b).getD []) = true then textS ((readS b).getD []) else []) = theText b := rfl
theorem readS_len (b : List UInt8) : ((readS b).getD []).length ≤ 20 := by
 cases h : readS b with
 | none => simp
 | some l =>
   unfold readS at h
   split at h
   ·rename_i hm; injection h with h; subst h
    have := of_decide_eq_true hm.2.1
    simp only [Option.getD_some]; exact this.2.1
   ·cases h
def nameOf (b : List UInt8) : List UInt8 := if (readS b).isSome = true then nameP knownP (theText b) else []
theorem knE : (∀ k : Nat, k < 26 → ((knownCs knownP).drop (k * 2)).take 2 = [.str (kn k), .str (kt k)]) ∧ (knownCs knownP).length = 52 ∧ (knownCs knownP).take 52 = knownCs knownP := ⟨fun _ h => known_at h, knownCs_len, knownCs_take⟩
theorem named_hit {k : Nat} {name : List UInt8} (h : k < 26) (hc : namedP (knownP.drop k) name = namedP knownP name) (h' : kn k = name) : encO ((parseP (kt k)).getD []) = namedP knownP name := by rw [← hc, namedP_hit h h']
theorem named_end {k : Nat} {name : List UInt8} (h : 26 ≤ k) (hc : namedP (knownP.drop k) name = namedP knownP name) : namedP knownP name = [] := by rw [← hc, List.drop_of_length_le (by rw [knownP_len]; omega)]; rfl
theorem name_hit {k : Nat} {b : List UInt8} (hs : (readS b).isSome = true) (h : k < 26) (hc : nameP (knownP.drop k) (theText b) = nameP knownP (theText b)) (h' : kt k = theText b) : nameOf b = kn k := by rw [nameOf, if_pos hs, ← hc, nameP_hit h h']
theorem name_end {k : Nat} {b : List UInt8} (hs : (readS b).isSome = true) (h : 26 ≤ k) (hc : nameP (knownP.drop k) (theText b) = nameP knownP (theText b)) : nameOf b = [] := by rw [nameOf, if_pos hs, ← hc, List.drop_of_length_le (by rw [knownP_len]; omega)]; rfl
theorem name_not {b : List UInt8} (h : ¬ (if (readS b).isSome = true then 0 else 140 : Int) = 0) : nameOf b = [] := by rw [nameOf, if_neg (fun e => h (by rw [if_pos e]))]
theorem some_of {b : List UInt8} (h : (if (readS b).isSome = true then 0 else 140 : Int) = 0) : (readS b).isSome = true := may_is h
noncomputable def ΦNA : Fns := tab [(104, parseF)]
theorem ΦNA_ok : Sound E ΦNA := sound_cons (by kernel_rfl) parse_ok (sound_nil)
@[go_sem] theorem ΦNA_r : ΦNA 104 = some parseF ∧ ΦNA 105 = none := ⟨rfl, rfl⟩
@[go_sem] theorem ΦNA_c : callable Tryz.prog 105 = true := by kernel_rfl
@[go_sem] noncomputable def namedO : OFn := OF [SS] (fun (s : List UInt8) => True) 5 1 (fun (s : List UInt8) => bytesD (namedP knownP s)) (fun (s : List UInt8) => [])
@[go_sem] noncomputable def namedF : PFn := namedO.shut
theorem named_own : Own E 55 namedO := Own.of_sig (rs := [.tmp 2]) (n := 30) Tryz.func55 rfl rfl rfl (Nat.le_of_ble_eq_true rfl) (by
 intro (s : List UInt8) hds
 refine st0 ?_
 refine rg ΦNA_ok [0] knE ?_
 refine rg ΦNA_ok [0, 9, 10] knE ?_
 refine nx ?_
 refine VC.loopP (ι := Nat) [0, 9] (fun i => [(10, .dat (.int .i64 (i : Int)))]) (fun _ => []) (fun i => i ≤ 26 ∧ namedP (knownP.drop i) s = namedP knownP s) (fun i => 26 - i) 0 (⟨Nat.zero_le _, rfl⟩) (et) ?_
 rintro i hp; try dsimp only at hp
 refine st0 ?_
 refine rg ΦNA_ok [0, 9, 10, 11] knE ?_
 refine cn ?_ ?_
 ·intro h; try exact absurd h (by decide)
  all_goals
   have hkt := kt_len i
   refine rg ΦNA_ok [0, 4, 9, 10] knE ?_
   refine rg ΦNA_ok [0, 4, 9, 10, 16] knE ?_
   refine cn ?_ ?_
   ·intro h; try exact absurd h (by decide)
    all_goals
     refine rg ΦNA_ok [5] knE ?_
     have hpl := parseP_len (kt i)
     refine rB ΦNA_ok [7] knE fun K' hK => ?_
     repeat' first | with_reducible apply And.intro | exact sd | exact sde knE | exact sdp knE | refine stk knE ?_ | fail
     refine oc bytes_own 2 knE ?_
     repeat' first | (refine lf hK knE ?_; clear hK K') | with_reducible apply And.intro | exact sd | exact sde knE | exact sdp knE | refine stk knE ?_ | fail
     have hy := named_hit (by omega) hp.2 (by assumption)
     refine rg ΦNA_ok [2] knE ?_
     exact fz hy
   ·intro h; try exact absurd h (by decide)
    all_goals
     refine rgL ΦNA_ok knE ?_
     refine nx ?_
     exact ⟨i + 1, ⟨by omega, by rw [namedP_next (by omega) (by assumption)]; exact hp.2⟩, et, by omega⟩
 ·intro h; try exact absurd h (by decide)
  all_goals
   have hy := named_end (by omega) hp.2
   refine rg ΦNA_ok [2] knE ?_
   exact fz hy)
theorem named_ok : Pure E 55 namedF := named_own.pure
end Go.Proofs.YtpajpkbipagjpaaGreatDoor.Oc
