/- What functions of the program, of its library and of the document compute: their contracts, and laws about what they compute (X10). No condition. -/
import Derived.Test.YtpajpkbipagjpaaGreatDoorX09
import Derived.Test.YtpajpkbipagjpaaGreatDoorX05
set_option linter.unusedVariables false
set_option linter.unusedSimpArgs false
namespace Go.Proofs.YtpajpkbipagjpaaGreatDoor.Oc
open Go Go.RowKit Go.Proofs.YtpajpkbipagjpaaGreatDoor.Vm Go.Proofs.YtpajpkbipagjpaaGreatDoor.Tr Go.IntWalk
set_option maxRecDepth 100000
set_option maxHeartbeats 4000000
noncomputable def ΦRP : Fns := tab [(201, rnumF), (202, rmayF)]
theorem ΦRP_ok : Sound E ΦRP := sound_cons (by kernel_rfl) rnum_ok (sound_cons (by kernel_rfl) rmay_ok (sound_nil))
@[go_sem] theorem ΦRP_r : ΦRP 201 = some rnumF ∧ ΦRP 202 = some rmayF := ⟨rfl, rfl⟩
def parseC : List UInt8 → List UInt8 → List Nat → Option (List Nat)
  | [], cur, out => if numOk cur then some (out ++ [numV cur]) else none
  | c :: r, cur, out => if c.toNat = 46 then (if numOk cur then parseC r [] (out ++ [numV cur]) else none) else parseC r (cur ++ [c]) out
def wd (s : List UInt8) (f i : Nat) : List UInt8 := (s.drop f).take (i - f)
def contP (s : List UInt8) (i f : Nat) (out : List Nat) : Option (List Nat) := if i ≤ s.length then parseC (s.drop i) (wd s f i) out else some out
def parseR (s : List UInt8) : Option (List Nat) := match parseC s [] [] with
  | some l => if may l then some l else none
  | none => none
theorem contP_start (s : List UInt8) : contP s 0 0 [] = parseC s [] [] := by simp [contP, wd]
theorem drop_cons {s : List UInt8} {i : Nat} (h : i < s.length) : s.drop i = s.getD i 0 :: s.drop (i + 1) := by
  rw [List.drop_eq_getElem_cons h, List.getD_eq_getElem?_getD, List.getElem?_eq_getElem h]; rfl
theorem wd_succ (s : List UInt8) (f i : Nat) (h : i < s.length) (hf : f ≤ i) : wd s f (i + 1) = wd s f i ++ [s.getD i 0] := by
  unfold wd
  rw [show i + 1 - f = (i - f) + 1 by omega, List.take_add_one, List.getElem?_drop, show f + (i - f) = i by omega, List.getElem?_eq_getElem h, List.getD_eq_getElem?_getD, List.getElem?_eq_getElem h]
  rfl
theorem wd_self (s : List UInt8) (f : Nat) : wd s f f = [] := by simp [wd]
theorem wd_len (s : List UInt8) (f i : Nat) : (wd s f i).length ≤ s.length := by simp only [wd, List.length_take, List.length_drop]; omega
theorem contP_skip (s : List UInt8) (i f : Nat) (out : List Nat) (h : i < s.length) (hf : f ≤ i) (h' : (s.getD i 0).toNat ≠ 46) : contP s (i + 1) f out = contP s i f out := by
  unfold contP
  rw [if_pos (by omega), if_pos (by omega), drop_cons h, wd_succ s f i h hf]
  simp only [parseC, if_neg h']
theorem contP_word (s : List UInt8) (i f : Nat) (out : List Nat) (h : i ≤ s.length) (h' : i < s.length → (s.getD i 0).toNat = 46) (hok : numOk (wd s f i) = true) : contP s (i + 1) (i + 1) (out ++ [numV (wd s f i)]) = contP s i f out := by
  unfold contP
  rw [if_pos h]
  rcases Nat.lt_or_ge i s.length with h1 | h1
  · rw [if_pos (by omega), drop_cons h1, wd_self]
    simp only [parseC, if_pos (h' h1), hok, if_true]
  · rw [if_neg (by omega), List.drop_eq_nil_of_le h1]
    simp only [parseC, hok, if_true]
theorem contP_bad (s : List UInt8) (i f : Nat) (out : List Nat) (h : i ≤ s.length) (h' : i < s.length → (s.getD i 0).toNat = 46) (hok : numOk (wd s f i) = false) : contP s i f out = none := by
  unfold contP
  rw [if_pos h]
  rcases Nat.lt_or_ge i s.length with h1 | h1
  · rw [drop_cons h1]
    simp only [parseC, if_pos (h' h1), hok]; rfl
  · rw [List.drop_eq_nil_of_le h1]
    simp only [parseC, hok]; rfl
theorem contP_end (s : List UInt8) (i f : Nat) (out : List Nat) (h : s.length < i) : contP s i f out = some out := if_neg (by omega)
theorem wd_eq (s : List UInt8) (f i : Nat) : List.take ((i : Int) - (f : Int)).toNat (List.drop f s) = wd s f i := by unfold wd; rw [show ((i : Int) - (f : Int)).toNat = i - f by omega]
theorem parseR_bad {s : List UInt8} (h : parseC s [] [] = none) : parseR s = none := by unfold parseR; rw [h]
theorem parseR_no {s : List UInt8} {out : List Nat} (h : parseC s [] [] = some out) (h' : may out = false) : parseR s = none := by unfold parseR; rw [h]; dsimp only; rw [h']; rfl
theorem parseR_yes {s : List UInt8} {out : List Nat} (h : parseC s [] [] = some out) (h' : may out = true) : parseR s = some out := by unfold parseR; rw [h]; dsimp only; rw [if_pos h']
theorem sub_nat (a b : Nat) : ((a : Int) - (b : Int)).toNat = a - b := by omega
theorem rpE : (∀ (s : List UInt8) (k : Nat), k < s.length → s[k]? = some (s.getD k 0)) ∧ (∀ (s : List UInt8) (f i : Nat), List.take ((i : Int) - (f : Int)).toNat (List.drop f s) = wd s f i) ∧ ∀ n : Nat, ((n : Int)).toNat = n := ⟨fun _ _ h => str_at h, wd_eq, fun n => Int.toNat_natCast n⟩
@[go_sem] noncomputable def rparseF : PFn := PF [SS] (fun (s : List UInt8) => s.length ≤ 100000) (fun (s : List UInt8) => [.lst (numsD ((parseR s).getD [])), .int .i64 (if (parseR s).isSome then 0 else 140)])
theorem rparse_ok : Pure E 153 rparseF := Pure.of_sig (rs := [.tmp 2, .tmp 3]) (n := 47) Tryz.func153 rfl rfl rfl (Nat.le_of_ble_eq_true rfl) (by
 intro (s : List UInt8) hds
 refine st0 ?_
 refine rg ΦRP_ok [0] rpE ?_
 refine rg ΦRP_ok [0, 4] rpE ?_
 refine rg ΦRP_ok [0, 4, 5] rpE ?_
 refine rg ΦRP_ok [0, 4, 5, 6] rpE ?_
 refine nx ?_
 refine VC.loopP (ι := Nat × Nat × List Nat) [0] (fun i => [(6, .dat (.int .i64 (i.1 : Int))), (5, .dat (.int .i64 (i.2.1 : Int))), (4, .sl 1 0 i.2.2.length)]) (fun i => [(1, .arr 158 1 (numsD i.2.2) 0)]) (fun i => i.1 ≤ s.length + 1 ∧ i.2.1 ≤ i.1 ∧ i.2.2.length ≤ i.1 ∧ contP s i.1 i.2.1 i.2.2 = parseC s [] []) (fun i => s.length + 1 - i.1) (0, 0, []) ⟨Nat.zero_le _, Nat.zero_le _, Nat.le_refl _, contP_start s⟩ ?_ ?_
 · refine (Ent.nilT 4 1 158 1 (by decide) (by simp -implicitDefEqProofs only [go_sem, Nat.reduceLT, Nat.reduceAdd, Nat.reduceEqDiff, reduceIte, Nat.reduceMul, Nat.reduceSub, reduceCtorEq, Int.reduceNe, Int.reduceEq, ne_eq, Nat.reduceLeDiff, Nat.reduceMod, Nat.reduceDiv]) (by simp -implicitDefEqProofs only [go_sem, Nat.reduceLT, Nat.reduceAdd, Nat.reduceEqDiff, reduceIte, Nat.reduceMul, Nat.reduceSub, reduceCtorEq, Int.reduceNe, Int.reduceEq, ne_eq, Nat.reduceLeDiff, Nat.reduceMod, Nat.reduceDiv])).trans (Ent.to rfl rfl rfl ?_ ?_)
   · simp -implicitDefEqProofs only [go_sem, Nat.reduceLT, Nat.reduceAdd, Nat.reduceEqDiff, reduceIte, Nat.reduceMul, Nat.reduceSub, reduceCtorEq, Int.reduceNe, Int.reduceEq, ne_eq, Nat.reduceLeDiff, Nat.reduceMod, Nat.reduceDiv]; (try simp only [D.dat.injEq, Vm.Data.int.injEq, true_and, and_true, and_self, eq_self]); (try omega); (try ((repeat' apply And.intro) <;> first | omega | rfl))
   · (repeat' (first | exact all_nil | (refine all_cons ?_ ?_))) <;> (simp -implicitDefEqProofs only [go_sem, Nat.reduceLT, Nat.reduceAdd, Nat.reduceEqDiff, reduceIte, Nat.reduceMul, Nat.reduceSub, reduceCtorEq, Int.reduceNe, Int.reduceEq, ne_eq, Nat.reduceLeDiff, Nat.reduceMod, Nat.reduceDiv]; (try rfl); try rfl)
 rintro ⟨i, f, out⟩ hp; (try dsimp only at hp); obtain ⟨hi, hf, hl, hc⟩ := hp
 refine st0 ?_
 have hwl := wd_len s f i
 refine rg ΦRP_ok [0, 4, 5, 6, 13] rpE ?_
 refine cn ?_ ?_
 · intro h; try exact absurd h (by decide)
   all_goals
    refine rB ΦRP_ok [0, 4, 5, 6, 25] rpE fun K' hK => ?_
    repeat' first | (refine lf hK rpE ?_; clear hK K') | with_reducible apply And.intro | refine sA rpE (fun _ => ?_) fun _ => ?_ | refine sAb rpE (fun _ => ?_) fun _ => ?_ | refine sAl rpE (fun g => ?_) fun g => ?_ | exact sd | exact sde rpE | exact sdp rpE | refine stk rpE ?_ | fail
    all_goals
     refine cn ?_ ?_
     · intro h; try exact absurd h (by decide)
       all_goals
        refine rgL ΦRP_ok rpE ?_
        refine nx ?_
        first
        | (refine ⟨(i + 1, f, out), ⟨by omega, by dsimp only; omega, by dsimp only; omega, ?_⟩, Ent.to rfl rfl rfl (by simp -implicitDefEqProofs only [go_sem, Nat.reduceLT, Nat.reduceAdd, Nat.reduceEqDiff, reduceIte, Nat.reduceMul, Nat.reduceSub, reduceCtorEq, Int.reduceNe, Int.reduceEq, ne_eq, Nat.reduceLeDiff, Nat.reduceMod, Nat.reduceDiv]; (try simp (disch := omega) only [i64_in, tmodn, tdivn]); (try simp only [D.dat.injEq, Vm.Data.int.injEq, true_and, and_true, and_self, eq_self]); (try omega); (try ((repeat' apply And.intro) <;> first | omega | rfl))) (by (repeat' (first | exact all_nil | (refine all_cons ?_ ?_))) <;> (simp -implicitDefEqProofs only [go_sem, Nat.reduceLT, Nat.reduceAdd, Nat.reduceEqDiff, reduceIte, Nat.reduceMul, Nat.reduceSub, reduceCtorEq, Int.reduceNe, Int.reduceEq, ne_eq, Nat.reduceLeDiff, Nat.reduceMod, Nat.reduceDiv]; (try rfl); try rfl)), by dsimp only; omega⟩
           dsimp only; rw [contP_skip s i f out (by omega) hf (by omega)]; exact hc)
        | (refine ⟨(i + 1, i + 1, out ++ [numV (wd s f i)]), ⟨by omega, by dsimp only; omega, by simp only [List.length_append, List.length_cons, List.length_nil]; omega, ?_⟩, Ent.to rfl rfl rfl (by simp -implicitDefEqProofs only [go_sem, Nat.reduceLT, Nat.reduceAdd, Nat.reduceEqDiff, reduceIte, Nat.reduceMul, Nat.reduceSub, reduceCtorEq, Int.reduceNe, Int.reduceEq, ne_eq, Nat.reduceLeDiff, Nat.reduceMod, Nat.reduceDiv]; (try simp (disch := omega) only [i64_in, tmodn, tdivn]); (try simp only [List.length_append, List.length_cons, List.length_nil]); (try simp only [D.dat.injEq, Vm.Data.int.injEq, true_and, and_true, and_self, eq_self]); (try omega); (try ((repeat' apply And.intro) <;> first | omega | rfl))) (by (repeat' (first | exact all_nil | (refine all_cons ?_ ?_))) <;> (simp -implicitDefEqProofs only [go_sem, Nat.reduceLT, Nat.reduceAdd, Nat.reduceEqDiff, reduceIte, Nat.reduceMul, Nat.reduceSub, reduceCtorEq, Int.reduceNe, Int.reduceEq, ne_eq, Nat.reduceLeDiff, Nat.reduceMod, Nat.reduceDiv]; (try rfl); try (simp only [numsD_snoc]))), by dsimp only; omega⟩
           dsimp only; rw [contP_word s i f out (by omega) (fun h9 => by omega) hok]; exact hc)
        | skip
     · intro h; try exact absurd h (by decide)
       all_goals
        refine rg ΦRP_ok [0, 4, 6, 7, 8] rpE ?_
        refine rg ΦRP_ok [0, 4, 6, 7, 35] rpE ?_
        refine cn ?_ ?_
        · intro h; try exact absurd h (by decide)
          all_goals
           have hok : numOk (wd s f i) = false := by simp_all
           have hb := contP_bad s i f out (by omega) (fun h9 => by omega) hok
           have hy := parseR_bad (hc ▸ hb)
           refine rg ΦRP_ok [2, 3] rpE ?_
           exact fz hy
        · intro h; try exact absurd h (by decide)
          all_goals
           have hok : numOk (wd s f i) = true := by simp_all
           refine rg ΦRP_ok [0, 4, 6] rpE ?_
           refine rgL ΦRP_ok rpE ?_
           refine rgL ΦRP_ok rpE ?_
           refine nx ?_
           first
           | (refine ⟨(i + 1, f, out), ⟨by omega, by dsimp only; omega, by dsimp only; omega, ?_⟩, Ent.to rfl rfl rfl (by simp -implicitDefEqProofs only [go_sem, Nat.reduceLT, Nat.reduceAdd, Nat.reduceEqDiff, reduceIte, Nat.reduceMul, Nat.reduceSub, reduceCtorEq, Int.reduceNe, Int.reduceEq, ne_eq, Nat.reduceLeDiff, Nat.reduceMod, Nat.reduceDiv]; (try simp (disch := omega) only [i64_in, tmodn, tdivn]); (try simp only [D.dat.injEq, Vm.Data.int.injEq, true_and, and_true, and_self, eq_self]); (try omega); (try ((repeat' apply And.intro) <;> first | omega | rfl))) (by (repeat' (first | exact all_nil | (refine all_cons ?_ ?_))) <;> (simp -implicitDefEqProofs only [go_sem, Nat.reduceLT, Nat.reduceAdd, Nat.reduceEqDiff, reduceIte, Nat.reduceMul, Nat.reduceSub, reduceCtorEq, Int.reduceNe, Int.reduceEq, ne_eq, Nat.reduceLeDiff, Nat.reduceMod, Nat.reduceDiv]; (try rfl); try rfl)), by dsimp only; omega⟩
              dsimp only; rw [contP_skip s i f out (by omega) hf (by omega)]; exact hc)
           | (refine ⟨(i + 1, i + 1, out ++ [numV (wd s f i)]), ⟨by omega, by dsimp only; omega, by simp only [List.length_append, List.length_cons, List.length_nil]; omega, ?_⟩, Ent.to rfl rfl rfl (by simp -implicitDefEqProofs only [go_sem, Nat.reduceLT, Nat.reduceAdd, Nat.reduceEqDiff, reduceIte, Nat.reduceMul, Nat.reduceSub, reduceCtorEq, Int.reduceNe, Int.reduceEq, ne_eq, Nat.reduceLeDiff, Nat.reduceMod, Nat.reduceDiv]; (try simp (disch := omega) only [i64_in, tmodn, tdivn]); (try simp only [List.length_append, List.length_cons, List.length_nil]); (try simp only [D.dat.injEq, Vm.Data.int.injEq, true_and, and_true, and_self, eq_self]); (try omega); (try ((repeat' apply And.intro) <;> first | omega | rfl))) (by (repeat' (first | exact all_nil | (refine all_cons ?_ ?_))) <;> (simp -implicitDefEqProofs only [go_sem, Nat.reduceLT, Nat.reduceAdd, Nat.reduceEqDiff, reduceIte, Nat.reduceMul, Nat.reduceSub, reduceCtorEq, Int.reduceNe, Int.reduceEq, ne_eq, Nat.reduceLeDiff, Nat.reduceMod, Nat.reduceDiv]; (try rfl); try (simp only [numsD_snoc]))), by dsimp only; omega⟩
              dsimp only; rw [contP_word s i f out (by omega) (fun h9 => by omega) hok]; exact hc)
           | skip
 · intro h; try exact absurd h (by decide)
   all_goals
    have hb := contP_end s i f out (by omega)
    rw [hc] at hb
    refine rg ΦRP_ok [4, 9] rpE ?_
    refine rg ΦRP_ok [4, 45] rpE ?_
    refine cn ?_ ?_
    · intro h; try exact absurd h (by decide)
      all_goals
       have hy := parseR_no hb (by simp_all)
       refine rg ΦRP_ok [2, 3] rpE ?_
       exact fz hy
    · intro h; try exact absurd h (by decide)
      all_goals
       have hy := parseR_yes hb (by simp_all)
       refine rg ΦRP_ok [2, 3] rpE ?_
       exact fz hy)
end Go.Proofs.YtpajpkbipagjpaaGreatDoor.Oc
namespace Go.Proofs.YtpajpkbipagjpaaGreatDoor.Oc
open Go Go.RowKit Go.Proofs.YtpajpkbipagjpaaGreatDoor.Vm Go.Proofs.YtpajpkbipagjpaaGreatDoor.Tr Go.IntWalk
set_option maxRecDepth 100000
set_option maxHeartbeats 4000000
def knownL : List (List UInt8) := [[115, 104, 97, 50, 50, 52], [50, 46, 49, 54, 46, 56, 52, 48, 46, 49, 46, 49, 48, 49, 46, 51, 46, 52, 46, 50, 46, 52], [115, 104, 97, 50, 53, 54], [50, 46, 49, 54, 46, 56, 52, 48, 46, 49, 46, 49, 48, 49, 46, 51, 46, 52, 46, 50, 46, 49], [115, 104, 97, 51, 56, 52], [50, 46, 49, 54, 46, 56, 52, 48, 46, 49, 46, 49, 48, 49, 46, 51, 46, 52, 46, 50, 46, 50], [115, 104, 97, 53, 49, 50], [50, 46, 49, 54, 46, 56, 52, 48, 46, 49, 46, 49, 48, 49, 46, 51, 46, 52, 46, 50, 46, 51], [114, 115, 97], [49, 46, 50, 46, 56, 52, 48, 46, 49, 49, 51, 53, 52, 57, 46, 49, 46, 49, 46, 49], [109, 103, 102, 49], [49, 46, 50, 46, 56, 52, 48, 46, 49, 49, 51, 53, 52, 57, 46, 49, 46, 49, 46, 56], [112, 115, 115], [49, 46, 50, 46, 56, 52, 48, 46, 49, 49, 51, 53, 52, 57, 46, 49, 46, 49, 46, 49, 48], [114, 115, 97, 50, 50, 52], [49, 46, 50, 46, 56, 52, 48, 46, 49, 49, 51, 53, 52, 57, 46, 49, 46, 49, 46, 49, 52], [114, 115, 97, 50, 53, 54], [49, 46, 50, 46, 56, 52, 48, 46, 49, 49, 51, 53, 52, 57, 46, 49, 46, 49, 46, 49, 49], [114, 115, 97, 51, 56, 52], [49, 46, 50, 46, 56, 52, 48, 46, 49, 49, 51, 53, 52, 57, 46, 49, 46, 49, 46, 49, 50], [114, 115, 97, 53, 49, 50], [49, 46, 50, 46, 56, 52, 48, 46, 49, 49, 51, 53, 52, 57, 46, 49, 46, 49, 46, 49, 51], [100, 97, 116, 97], [49, 46, 50, 46, 56, 52, 48, 46, 49, 49, 51, 53, 52, 57, 46, 49, 46, 55, 46, 49], [115, 105, 103, 110, 101, 100], [49, 46, 50, 46, 56, 52, 48, 46, 49, 49, 51, 53, 52, 57, 46, 49, 46, 55, 46, 50], [99, 111, 110, 116, 101, 110, 116, 84, 121, 112, 101], [49, 46, 50, 46, 56, 52, 48, 46, 49, 49, 51, 53, 52, 57, 46, 49, 46, 57, 46, 51], [109, 101, 115, 115, 97, 103, 101, 68, 105, 103, 101, 115, 116], [49, 46, 50, 46, 56, 52, 48, 46, 49, 49, 51, 53, 52, 57, 46, 49, 46, 57, 46, 52], [115, 105, 103, 110, 105, 110, 103, 84, 105, 109, 101], [49, 46, 50, 46, 56, 52, 48, 46, 49, 49, 51, 53, 52, 57, 46, 49, 46, 57, 46, 53], [99, 111, 117, 110, 116, 101, 114, 115, 105, 103, 110, 97, 116, 117, 114, 101], [49, 46, 50, 46, 56, 52, 48, 46, 49, 49, 51, 53, 52, 57, 46, 49, 46, 57, 46, 54], [116, 115, 116, 73, 110, 102, 111], [49, 46, 50, 46, 56, 52, 48, 46, 49, 49, 51, 53, 52, 57, 46, 49, 46, 57, 46, 49, 54, 46, 49, 46, 52], [115, 105, 103, 110, 105, 110, 103, 67, 101, 114, 116, 105, 102, 105, 99, 97, 116, 101, 86, 50], [49, 46, 50, 46, 56, 52, 48, 46, 49, 49, 51, 53, 52, 57, 46, 49, 46, 57, 46, 49, 54, 46, 50, 46, 52, 55], [99, 111, 109, 109, 111, 110, 78, 97, 109, 101], [50, 46, 53, 46, 52, 46, 51], [99, 111, 117, 110, 116, 114, 121, 78, 97, 109, 101], [50, 46, 53, 46, 52, 46, 54], [111, 114, 103, 97, 110, 105, 122, 97, 116, 105, 111, 110, 78, 97, 109, 101], [50, 46, 53, 46, 52, 46, 49, 48], [107, 101, 121, 85, 115, 97, 103, 101], [50, 46, 53, 46, 50, 57, 46, 49, 53], [98, 97, 115, 105, 99, 67, 111, 110, 115, 116, 114, 97, 105, 110, 116, 115], [50, 46, 53, 46, 50, 57, 46, 49, 57], [101, 120, 116, 75, 101, 121, 85, 115, 97, 103, 101], [50, 46, 53, 46, 50, 57, 46, 51, 55], [116, 105, 109, 101, 83, 116, 97, 109, 112, 105, 110, 103], [49, 46, 51, 46, 54, 46, 49, 46, 53, 46, 53, 46, 55, 46, 51, 46, 56]]
theorem knownL_len : knownL.length = 52 := by decide +kernel
theorem knownL_le : ∀ x ∈ knownL, x.length ≤ 100 := by decide +kernel
theorem knownL_at (k : Nat) : (knownL.getD k []).length ≤ 100 := by
  rw [List.getD_eq_getElem?_getD]
  rcases Nat.lt_or_ge k knownL.length with h | h
  · rw [List.getElem?_eq_getElem h]; exact knownL_le _ (List.getElem_mem h)
  · rw [List.getElem?_eq_none h]; simp
theorem parseR_may {s : List UInt8} {l : List Nat} (h : parseR s = some l) : may l = true := by
  unfold parseR at h
  split at h
  · split at h
    · rename_i hm; injection h with h; subst h; exact hm
    · cases h
  · cases h
theorem parseR_len (s : List UInt8) : ((parseR s).getD []).length ≤ 20 := by
  cases h : parseR s with
  | none => simp
  | some l =>
    have := of_decide_eq_true (parseR_may h)
    simp only [Option.getD_some]; exact this.2.1
def namedL : List (List UInt8) → List UInt8 → List UInt8
  | n :: t :: r, name => if n = name then rencO ((parseR t).getD []) else namedL r name
  | _, _ => []
def nameL : List (List UInt8) → List UInt8 → List UInt8
  | n :: _ :: r, b => if namedL knownL n = b then n else nameL r b
  | _, _ => []
theorem nat_succ_toNat (n : Nat) : ((n : Int) + 1).toNat = n + 1 := by omega
theorem drop_two (l : List (List UInt8)) (k : Nat) (h : k + 1 < l.length) : l.drop k = l.getD k [] :: l.getD (k + 1) [] :: l.drop (k + 2) := by
  rw [List.drop_eq_getElem_cons (by omega), List.drop_eq_getElem_cons h, List.getD_eq_getElem?_getD, List.getD_eq_getElem?_getD, List.getElem?_eq_getElem h, List.getElem?_eq_getElem (by omega : k < l.length)]; rfl
theorem namedL_hit (l : List (List UInt8)) (k : Nat) (name : List UInt8) (h : k + 1 < l.length) (h' : l.getD k [] = name) : namedL (l.drop k) name = rencO ((parseR (l.getD (k + 1) [])).getD []) := by
  rw [drop_two l k h]; simp only [namedL, if_pos h']
theorem namedL_next (l : List (List UInt8)) (k : Nat) (name : List UInt8) (h : k + 1 < l.length) (h' : ¬ l.getD k [] = name) : namedL (l.drop (k + 2)) name = namedL (l.drop k) name := by
  rw [drop_two l k h]; simp only [namedL, if_neg h']
theorem nameL_hit (l : List (List UInt8)) (k : Nat) (b : List UInt8) (h : k + 1 < l.length) (h' : namedL knownL (l.getD k []) = b) : nameL (l.drop k) b = l.getD k [] := by
  rw [drop_two l k h]; simp only [nameL, if_pos h']
theorem nameL_next (l : List (List UInt8)) (k : Nat) (b : List UInt8) (h : k + 1 < l.length) (h' : ¬ namedL knownL (l.getD k []) = b) : nameL (l.drop (k + 2)) b = nameL (l.drop k) b := by
  rw [drop_two l k h]; simp only [nameL, if_neg h']
theorem rencO_len (l : List Nat) (h : l.length ≤ 20) : (rencO l).length ≤ 220 := by
  unfold rencO; split
  · have := rencN_len l l.length; unfold renc; omega
  · simp
theorem namedL_len (name : List UInt8) : ∀ l, (namedL l name).length ≤ 220
  | [] => by simp [namedL]
  | [_] => by simp [namedL]
  | n :: t :: r => by
    simp only [namedL]
    split
    · exact rencO_len _ (parseR_len t)
    · exact namedL_len name r
@[go_sem] noncomputable def rknownF : PFn := PF [] (True) ([.lst (strsD knownL)])
theorem rknown_ok : Pure E 152 rknownF := Pure.of_sig (rs := [.tmp 0]) (n := 2) Tryz.func152 rfl rfl rfl (Nat.le_of_ble_eq_true rfl) (by
 intro hds
 refine st0 ?_
 refine rg sound_nil [] trivial ?_
 refine rg sound_nil [0] trivial ?_
 exact fz trivial)
theorem knR : (∀ k : Nat, k < 52 → (strsD knownL).getD k [] = [.str (knownL.getD k [])]) ∧ (strsD knownL).length = 52 ∧ ∀ n : Nat, ((n : Int) + 1).toNat = n + 1 := ⟨fun k h => strsD_at (by rw [knownL_len]; exact h), by rw [strsD_len, knownL_len], nat_succ_toNat⟩
noncomputable def ΦRN : Fns := tab [(152, rknownF), (153, rparseF), (154, rbytesF)]
theorem ΦRN_ok : Sound E ΦRN := sound_cons (by kernel_rfl) rknown_ok (sound_cons (by kernel_rfl) rparse_ok (sound_cons (by kernel_rfl) rbytes_ok (sound_nil)))
@[go_sem] theorem ΦRN_r : ΦRN 152 = some rknownF ∧ ΦRN 153 = some rparseF ∧ ΦRN 154 = some rbytesF := ⟨rfl, rfl, rfl⟩
@[go_sem] noncomputable def rnamedF : PFn := PF [SS] (fun (s : List UInt8) => True) (fun (s : List UInt8) => [.lst (bytesD (namedL knownL s))])
theorem rnamed_ok : Pure E 110 rnamedF := Pure.of_sig (rs := [.tmp 2]) (n := 37) Tryz.func110 rfl rfl rfl (Nat.le_of_ble_eq_true rfl) (by
 intro (s : List UInt8) hds
 refine st0 ?_
 refine rg ΦRN_ok [0] knR ?_
 refine rg ΦRN_ok [0, 3] knR ?_
 refine rg ΦRN_ok [0, 3, 4] knR ?_
 refine nx ?_
 refine VC.loopP (ι := Nat) [0, 3] (fun i => [(4, .dat (.int .i64 ((2 * i : Nat) : Int)))]) (fun _ => []) (fun i => i ≤ 26 ∧ namedL (knownL.drop (2 * i)) s = namedL knownL s) (fun i => 26 - i) 0 (⟨Nat.zero_le _, rfl⟩) (et) ?_
 rintro i hp; try dsimp only at hp
 refine st0 ?_
 refine rg ΦRN_ok [0, 3, 4, 13] knR ?_
 refine cn ?_ ?_
 · intro h; try exact absurd h (by decide)
   all_goals
    refine rg ΦRN_ok [0, 3, 4, 21] knR ?_
    refine cn ?_ ?_
    · intro h; try exact absurd h (by decide)
      all_goals
       have hka := knownL_at (2 * i + 1)
       refine rg ΦRN_ok [5] knR ?_
       have hpl := parseR_len (knownL.getD (2 * i + 1) [])
       refine rg ΦRN_ok [7] knR ?_
       have hy : namedL knownL s = rencO ((parseR (knownL.getD (2 * i + 1) [])).getD []) := by rw [← hp.2, namedL_hit knownL (2 * i) s (by rw [knownL_len]; omega) (by assumption)]
       refine rg ΦRN_ok [2] knR ?_
       exact fz hy
    · intro h; try exact absurd h (by decide)
      all_goals
       refine rgL ΦRN_ok knR ?_
       refine nx ?_
       exact ⟨i + 1, ⟨by omega, by rw [show 2 * (i + 1) = 2 * i + 2 by omega, namedL_next knownL (2 * i) s (by rw [knownL_len]; omega) (by assumption)]; exact hp.2⟩, et, by omega⟩
 · intro h; try exact absurd h (by decide)
   all_goals
    have hy : namedL knownL s = [] := by rw [← hp.2, show 2 * i = 52 by omega]; rfl
    refine rg ΦRN_ok [2] knR ?_
    exact fz hy)
end Go.Proofs.YtpajpkbipagjpaaGreatDoor.Oc
namespace Go.Proofs.YtpajpkbipagjpaaGreatDoor.Oc
open Go Go.RowKit Go.Proofs.YtpajpkbipagjpaaGreatDoor.Vm Go.Proofs.YtpajpkbipagjpaaGreatDoor.Tr Go.IntWalk
set_option maxRecDepth 100000
set_option maxHeartbeats 4000000
def namedS (s : List UInt8) : List UInt8 := namedL knownL s
theorem namedS_len (s : List UInt8) : (namedS s).length ≤ 220 := namedL_len s _
noncomputable def ΦRM : Fns := tab [(110, rnamedF), (82, rprimF)]
theorem ΦRM_ok : Sound E ΦRM := sound_cons (by kernel_rfl) rnamed_ok (sound_cons (by kernel_rfl) rprim_ok (sound_nil))
@[go_sem] theorem ΦRM_r : ΦRM 110 = some rnamedF ∧ ΦRM 82 = some rprimF := ⟨rfl, rfl⟩
@[go_sem] noncomputable def rcnamedF : PFn := PF [SS] (fun (s : List UInt8) => True) (fun (s : List UInt8) => [nodeD (primT 6 (namedS s))])
theorem rcnamed_ok : Pure E 65 rcnamedF := Pure.of_sig (rs := [.cell 2 25]) (n := 6) Tryz.func65 rfl rfl rfl (Nat.le_of_ble_eq_true rfl) (by
 intro (s : List UInt8) hds
 have hl := namedS_len s
 refine st0 ?_
 refine rg ΦRM_ok [0, 2] (show namedL knownL s = namedS s from rfl) ?_
 refine rg ΦRM_ok [2] (show namedL knownL s = namedS s from rfl) ?_
 exact fz (show namedL knownL s = namedS s from rfl))
end Go.Proofs.YtpajpkbipagjpaaGreatDoor.Oc
namespace Go.Proofs.YtpajpkbipagjpaaGreatDoor.Oc
open Go Go.RowKit Go.Proofs.YtpajpkbipagjpaaGreatDoor.Vm Go.Proofs.YtpajpkbipagjpaaGreatDoor.Tr Go.IntWalk
set_option maxRecDepth 100000
set_option maxHeartbeats 4000000
theorem nm_eq {q : Int} (h : ¬ sizeH q = 0) : namedS (nameH q) = namedB (nameH q) ∧ namedS (rsaN q) = namedB (rsaN q) := by
  have hh : q = 1 ∨ q = 2 ∨ q = 3 ∨ q = 4 := by unfold sizeH at h; (repeat' split at h) <;> omega
  rcases hh with rfl | rfl | rfl | rfl <;> decide +kernel
theorem nm_eq2 : namedS [112, 115, 115] = namedB [112, 115, 115] ∧ namedS [109, 103, 102, 49] = namedB [109, 103, 102, 49] := by decide +kernel
theorem nm_nil {q : Int} (h : nameH q = []) : sizeH q = 0 := by unfold nameH at h; unfold sizeH; (repeat' split at h) <;> simp_all
theorem nm_some {q : Int} (h : ¬ nameH q = []) : ¬ sizeH q = 0 := by unfold nameH at h; unfold sizeH; (repeat' split at h) <;> simp_all
noncomputable def ΦRI : Fns := tab [(63, rnameF), (65, rcnamedF), (66, rnullF), (64, rseqF)]
theorem ΦRI_ok : Sound E ΦRI := sound_cons (by kernel_rfl) rname_ok (sound_cons (by kernel_rfl) rcnamed_ok (sound_cons (by kernel_rfl) rnull_ok (sound_cons (by kernel_rfl) rseq_ok (sound_nil))))
@[go_sem] theorem ΦRI_r : ΦRI 63 = some rnameF ∧ ΦRI 65 = some rcnamedF ∧ ΦRI 66 = some rnullF ∧ ΦRI 64 = some rseqF := ⟨rfl, rfl, rfl, rfl⟩
@[go_sem] noncomputable def rhalgF : PFn := PF [SI .i64, SB] (fun (q : Int) (nl : Bool) => True) (fun (q : Int) (nl : Bool) => [nodeD (hashT q nl), .int .i64 (if sizeH q = 0 then 200 else 0)])
theorem rhalg_ok : Pure E 12 rhalgF := Pure.of_sig (rs := [.cell 4 25, .tmp 5]) (n := 22) Tryz.func12 rfl rfl rfl (Nat.le_of_ble_eq_true rfl) (by
 intro (q : Int) (nl : Bool) hds
 have hl := namedS_len (nameH q)
 refine st0 ?_
 refine rg ΦRI_ok [0, 1, 4] szE ?_
 refine rg ΦRI_ok [1, 4, 6] szE ?_
 refine rg ΦRI_ok [1, 4, 6, 10] szE ?_
 refine cn ?_ ?_
 · intro h; try exact absurd h (by decide)
   all_goals
    have hz := nm_nil (by assumption)
    have hy := And.intro (hashT_no nl hz) (And.intro hz zeroE)
    refine rg ΦRI_ok [4, 5] szE ?_
    exact fz hy
 · intro h; try exact absurd h (by decide)
   all_goals
    have hz := nm_some (by assumption)
    refine rg ΦRI_ok [4, 6, 12] szE ?_
    refine cn ?_ ?_
    · intro h; try exact absurd h (by decide)
      all_goals
       subst (by assumption : nl = true)
       have hy := And.intro (hashT_yes true hz) (And.intro hz (And.intro (nm_eq hz).1 (if_pos (rfl : true = true) : (if true = true then [primT 5 []] else []) = [primT 5 []])))
       refine rg ΦRI_ok [4, 5] szE ?_
       exact fz hy
    · intro h; try exact absurd h (by decide)
      all_goals
       subst (by assumption : nl = false)
       have hy := And.intro (hashT_yes false hz) (And.intro hz (And.intro (nm_eq hz).1 (if_neg (by decide) : (if false = true then [primT 5 []] else []) = [])))
       refine rg ΦRI_ok [4, 5] szE ?_
       exact fz hy)
end Go.Proofs.YtpajpkbipagjpaaGreatDoor.Oc
namespace Go.Proofs.YtpajpkbipagjpaaGreatDoor.Oc
open Go Go.RowKit Go.Proofs.YtpajpkbipagjpaaGreatDoor.Vm Go.Proofs.YtpajpkbipagjpaaGreatDoor.Tr Go.IntWalk
set_option maxRecDepth 100000
set_option maxHeartbeats 4000000
def rrI (t : T) : Nat → Nat → Option Nat
  | 0, _ => none
  | f + 1, i => if hashT ((i + 1 : Nat) : Int) false = t ∨ hashT ((i + 1 : Nat) : Int) true = t then some (i + 1) else rrI t f (i + 1)
def rrH (t : T) : Int := match rrI t 4 0 with
  | some i => (i : Int)
  | none => 0
def rrN (t : T) : Bool := match rrI t 4 0 with
  | some i => decide (hashT (i : Int) true = t)
  | none => false
def rrE (t : T) : Int := match rrI t 4 0 with
  | some _ => 0
  | none => 200
def rrAt (t : T) (k : Nat) : Prop := rrI t (4 - (k - 1)) (k - 1) = rrI t 4 0
theorem rrAt_next {t : T} {k : Nat} (hk : 1 ≤ k ∧ k ≤ 4) (hp : rrAt t k) (hn : ¬ (hashT (k : Int) false = t ∨ hashT (k : Int) true = t)) : rrAt t (k + 1) := by
  unfold rrAt at hp ⊢
  rw [← hp, show 4 - (k - 1) = (4 - (k + 1 - 1)) + 1 by omega, rrI, show k - 1 + 1 = k by omega, if_neg hn, show k + 1 - 1 = k by omega]
theorem rrAt_hit {t : T} {k : Nat} (hk : 1 ≤ k ∧ k ≤ 4) (hp : rrAt t k) (hn : hashT (k : Int) false = t ∨ hashT (k : Int) true = t) : rrH t = (k : Int) ∧ rrN t = decide (hashT (k : Int) true = t) ∧ rrE t = 0 := by
  have e : rrI t 4 0 = some k := by
    unfold rrAt at hp
    rw [← hp, show 4 - (k - 1) = (4 - (k + 1 - 1)) + 1 by omega, rrI, show k - 1 + 1 = k by omega, if_pos hn]
  unfold rrH rrN rrE
  rw [e]; exact ⟨rfl, rfl, rfl⟩
theorem rrAt_end {t : T} (hp : rrAt t 5) : rrH t = 0 ∧ rrN t = false ∧ rrE t = 200 := by
  have e : rrI t 4 0 = none := by unfold rrAt at hp; rw [← hp]; rfl
  unfold rrH rrN rrE
  rw [e]; exact ⟨rfl, rfl, rfl⟩
theorem or_of {a b : Bool} {p q : Prop} [Decidable p] [Decidable q] (h : decide p = true ∨ decide q = true) : p ∨ q := by simpa using h
noncomputable def ΦRJ : Fns := tab [(12, rhalgF), (15, rsame0F)]
theorem ΦRJ_ok : Sound E ΦRJ := sound_cons (by kernel_rfl) rhalg_ok (sound_cons (by kernel_rfl) rsame0_ok (sound_nil))
@[go_sem] theorem ΦRJ_r : ΦRJ 12 = some rhalgF ∧ ΦRJ 15 = some rsame0F := ⟨rfl, rfl⟩
@[go_sem] noncomputable def rrdhalgF : PFn := PF [ST] (fun (t : T) => t.sz ≤ 90000) (fun (t : T) => [.int .i64 (rrH t), .bool (rrN t), .int .i64 (rrE t)])
theorem rrdhalg_ok : Pure E 18 rrdhalgF := Pure.of_sig (rs := [.tmp 2, .tmp 3, .tmp 4]) (n := 38) Tryz.func18 rfl rfl rfl (Nat.le_of_ble_eq_true rfl) (by
 intro (t : T) hds
 refine st0 ?_
 refine rg ΦRJ_ok [1] trE ?_
 refine rg ΦRJ_ok [1, 5] trE ?_
 refine nx ?_
 refine VC.loopP (ι := Nat) [1] (fun i => [(5, .dat (.int .i64 (i : Int)))]) (fun _ => [(1, .cells [.dat (.int .i64 t.cls), .dat (.int .i64 t.tag), .dat (.bool t.cons), .dat (.lst (bytesD t.bytes)), .dat (.lst (nodesD t.kids))] false)]) (fun i => (1 ≤ i ∧ i ≤ 5) ∧ rrAt t i) (fun i => 5 - i) 1 (⟨by omega, rfl⟩) (ete trE) ?_
 rintro i hp; try dsimp only at hp
 refine st0 ?_
 refine rg ΦRJ_ok [1, 5, 13] trE ?_
 refine cn ?_ ?_
 · intro h; try exact absurd h (by decide)
   all_goals
    refine rg ΦRJ_ok [1, 5, 6] trE ?_
    refine rg ΦRJ_ok [1, 5, 6, 8] trE ?_
    have hs1 := hashT_sz (i : Int) false
    have hs2 := hashT_sz (i : Int) true
    refine rg ΦRJ_ok [1, 5, 8, 10] trE ?_
    refine rg ΦRJ_ok [1, 5, 10, 11] trE ?_
    refine rB ΦRJ_ok [1, 5, 11, 35] trE fun K' hK => ?_
    repeat' first | (refine lf hK trE ?_; clear hK K') | with_reducible apply And.intro | refine sA trE (fun _ => ?_) fun _ => ?_ | refine sAb trE (fun _ => ?_) fun _ => ?_ | refine sAl trE (fun g => ?_) fun g => ?_ | exact sd | exact sde trE | exact sdp trE | refine stk trE ?_ | fail
    all_goals
     refine cn ?_ ?_
     · intro h; try exact absurd h (by decide)
       all_goals
        have hy := rrAt_hit (by omega) hp.2 (by simp_all)
        refine rg ΦRJ_ok [2, 3, 4] trE ?_
        exact fz hy
     · intro h; try exact absurd h (by decide)
       all_goals
        refine rgL ΦRJ_ok trE ?_
        refine nx ?_
        exact ⟨i + 1, ⟨by omega, rrAt_next (by omega) hp.2 (by simp_all)⟩, ete trE, by omega⟩
 · intro h; try exact absurd h (by decide)
   all_goals
    have hy := rrAt_end (by rw [show 5 = i by omega]; exact hp.2)
    refine rg ΦRJ_ok [2, 3, 4] trE ?_
    exact fz hy)
end Go.Proofs.YtpajpkbipagjpaaGreatDoor.Oc
namespace Go.Proofs.YtpajpkbipagjpaaGreatDoor.Oc
open Go Go.RowKit Go.Proofs.YtpajpkbipagjpaaGreatDoor.Vm Go.Proofs.YtpajpkbipagjpaaGreatDoor.Tr Go.IntWalk
set_option maxRecDepth 100000
set_option maxHeartbeats 4000000
def numR (b : List UInt8) : Bool := decide (1 ≤ b.length ∧ (b.length = 1 ∨ ¬ ((b.getD 0 0).toNat = 0 ∧ (b.getD 1 0).toNat < 128) ∧ ¬ ((b.getD 0 0).toNat = 255 ∧ 128 ≤ (b.getD 1 0).toNat)))
@[go_sem] noncomputable def rnumbF : PFn := PF [SY] (fun (b : List UInt8) => b.length ≤ 4611686018427387904) (fun (b : List UInt8) => [.bool (numR b)])
theorem rnumb_ok : Pure E 111 rnumbF := Pure.of_sig (rs := [.tmp 2]) (n := 33) Tryz.func111 rfl rfl rfl (Nat.le_of_ble_eq_true rfl) (by
 intro (b : List UInt8) hds
 refine st0 ?_
 refine rg sound_nil [0] trivial ?_
 refine rg sound_nil [0, 5] trivial ?_
 refine cn ?_ ?_
 · intro h; try exact absurd h (by decide)
   all_goals
    have hy : numR b = false := decide_eq_false (by omega)
    refine rg sound_nil [2] trivial ?_
    exact fz hy
 · intro h; try exact absurd h (by decide)
   all_goals
    refine rg sound_nil [0, 8] trivial ?_
    refine cn ?_ ?_
    · intro h; try exact absurd h (by decide)
      all_goals
       have hy : numR b = true := decide_eq_true (by omega)
       refine rg sound_nil [2] trivial ?_
       exact fz hy
    · intro h; try exact absurd h (by decide)
      all_goals
       have hy := True.intro
       refine rB sound_nil [2] trivial fun K' hK => ?_
       repeat' first | (refine lf hK trivial ?_; clear hK K') | with_reducible apply And.intro | refine sA trivial (fun _ => ?_) fun _ => ?_ | refine sAb trivial (fun _ => ?_) fun _ => ?_ | refine sAl trivial (fun g => ?_) fun g => ?_ | exact sd | exact sde trivial | exact sdp trivial | refine stk trivial ?_ | fail
       all_goals
        refine fi trivial ?_
        (try simp only [Bool.not_eq_eq_eq_not, Bool.not_true, Bool.not_false, decide_eq_false_iff_not, decide_eq_true_eq] at *)
        unfold numR
        first
        | exact (decide_eq_true (by omega)).symm
        | exact (decide_eq_false (by omega)).symm
        | (rw [← decide_not]; exact decide_eq_decide.2 (by omega)))
end Go.Proofs.YtpajpkbipagjpaaGreatDoor.Oc
namespace Go.Proofs.YtpajpkbipagjpaaGreatDoor.Oc
open Go Go.RowKit Go.Proofs.YtpajpkbipagjpaaGreatDoor.Vm Go.Proofs.YtpajpkbipagjpaaGreatDoor.Tr Go.IntWalk
set_option maxRecDepth 100000
set_option maxHeartbeats 4000000
theorem name_back {q : Int} (h : ¬ sizeH q = 0) : namedH (nameOf (namedB (nameH q))) = q := by
  have hh : q = 1 ∨ q = 2 ∨ q = 3 ∨ q = 4 := by unfold sizeH at h; (repeat' split at h) <;> omega
  rcases hh with rfl | rfl | rfl | rfl <;> decide +kernel
theorem hashT_kid {q : Int} {nl : Bool} (h : ¬ sizeH q = 0) : firstB (hashT q nl) = namedB (nameH q) := by rw [hashT_yes nl h]; rfl
theorem hashT_rdH {q : Int} {nl : Bool} (h : ¬ sizeH q = 0) : rdH (hashT q nl) = q := by unfold rdH; rw [hashT_kid h]; exact name_back h
theorem hashT_rdN {q : Int} {nl : Bool} (h : ¬ sizeH q = 0) : rdN (hashT q nl) = nl := by unfold rdN; rw [hashT_yes nl h]; cases nl <;> rfl
theorem rrI_some {t : T} : ∀ {f k i : Nat}, rrI t f k = some i → k < i ∧ i ≤ k + f ∧ (hashT (i : Int) false = t ∨ hashT (i : Int) true = t)
  | 0, k, i, h => by cases h
  | f + 1, k, i, h => by
    rw [rrI] at h
    split at h
    · rename_i hm; injection h with h; subst h; exact ⟨by omega, by omega, hm⟩
    · have := rrI_some h; exact ⟨by omega, by omega, this.2.2⟩
theorem rrI_none {t : T} : ∀ {f k : Nat}, rrI t f k = none → ∀ i, k < i → i ≤ k + f → ¬ (hashT (i : Int) false = t ∨ hashT (i : Int) true = t)
  | 0, k, h, i, h1, h2 => by omega
  | f + 1, k, h, i, h1, h2 => by
    rw [rrI] at h
    split at h
    · cases h
    · rename_i hm
      rcases Nat.lt_or_ge (k + 1) i with h3 | h3
      · exact rrI_none h i h3 (by omega)
      · obtain rfl : i = k + 1 := by omega
        exact hm
theorem size_in {q : Int} (h : 1 ≤ q ∧ q ≤ 4) : ¬ sizeH q = 0 := by
  have hh : q = 1 ∨ q = 2 ∨ q = 3 ∨ q = 4 := by omega
  rcases hh with rfl | rfl | rfl | rfl <;> decide
theorem in_size {q : Int} (h : ¬ sizeH q = 0) : 1 ≤ q ∧ q ≤ 4 := by unfold sizeH at h; (repeat' split at h) <;> omega
theorem rr_eq (t : T) : (if rdOk t then rdH t else 0) = rrH t ∧ (if rdOk t then rdN t else false) = rrN t ∧ (if rdOk t then (0 : Int) else 200) = rrE t := by
  unfold rrH rrN rrE
  cases e : rrI t 4 0 with
  | some i =>
    obtain ⟨h1, h2, h3⟩ := rrI_some e
    have hz : ¬ sizeH (i : Int) = 0 := size_in (by omega)
    obtain ⟨nl, hnl⟩ : ∃ nl, hashT (i : Int) nl = t := h3.elim (fun h => ⟨_, h⟩) (fun h => ⟨_, h⟩)
    have a1 : rdH t = i := by rw [← hnl]; exact hashT_rdH hz
    have a2 : rdN t = nl := by rw [← hnl]; exact hashT_rdN hz
    have a3 : rdOk t = true := decide_eq_true ⟨by rw [a1]; exact hz, by rw [a1, a2]; exact hnl⟩
    rw [a3, a1, a2]
    refine ⟨rfl, ?_, rfl⟩
    cases nl with
    | true => exact (decide_eq_true hnl).symm
    | false => exact (decide_eq_false fun h => by
        have : rdN t = true := by rw [← h]; exact hashT_rdN hz
        rw [a2] at this; cases this).symm
  | none =>
    have a3 : rdOk t = false := decide_eq_false fun ⟨h1, h2⟩ => by
      have hq := in_size h1
      have hi := rrI_none e (rdH t).toNat (by omega) (by omega)
      rw [show (((rdH t).toNat : Nat) : Int) = rdH t by omega] at hi
      apply hi
      cases hb : rdN t with
      | true => rw [hb] at h2; exact .inr h2
      | false => rw [hb] at h2; exact .inl h2
    rw [a3]; exact ⟨rfl, rfl, rfl⟩
end Go.Proofs.YtpajpkbipagjpaaGreatDoor.Oc
namespace Go.Proofs.YtpajpkbipagjpaaGreatDoor.Oc
open Go Go.RowKit Go.Proofs.YtpajpkbipagjpaaGreatDoor.Vm Go.Proofs.YtpajpkbipagjpaaGreatDoor.Tr Go.IntWalk
set_option maxRecDepth 100000
set_option maxHeartbeats 4000000
def beI : Nat → Int → List UInt8 → List UInt8
  | 0, _, o => o
  | f + 1, u, o => beI f (u / 256) (byI u :: o)
def stripR : Nat → List UInt8 → List UInt8
  | 0, b => b
  | f + 1, b => if numR b = true then b else stripR f (b.drop 1)
def rintB (n : Int) : List UInt8 := stripR 8 (beI 8 (n % 18446744073709551616) [])
theorem beI_len : ∀ (f : Nat) (u : Int) (o : List UInt8), (beI f u o).length = f + o.length
  | 0, u, o => by simp [beI]
  | f + 1, u, o => by rw [beI, beI_len f, List.length_cons]; omega
theorem beI_step {k : Nat} {u : Int} {o : List UInt8} (hk : k < 8) : beI (8 - (k + 1)) (u / 256) (byI u :: o) = beI (8 - k) u o := by
  rw [show 8 - k = (8 - (k + 1)) + 1 by omega, beI]
theorem stripR_stop {f : Nat} {b : List UInt8} (h : numR b = true) : stripR f b = b := by
  cases f with
  | zero => rfl
  | succ f => rw [stripR, if_pos h]
theorem stripR_step {k : Nat} {b : List UInt8} (hk : k < 8) (h : ¬ numR b = true) : stripR (8 - (k + 1)) (b.drop 1) = stripR (8 - k) b := by
  rw [show 8 - k = (8 - (k + 1)) + 1 by omega, stripR, if_neg h]
theorem stripR_len : ∀ (f : Nat) (b : List UInt8), (stripR f b).length ≤ b.length
  | 0, b => by simp [stripR]
  | f + 1, b => by
    rw [stripR]
    split
    · omega
    · have := stripR_len f (b.drop 1); rw [List.length_drop] at this; omega
theorem rintB_len (n : Int) : (rintB n).length ≤ 8 := by
  have := stripR_len 8 (beI 8 (n % 18446744073709551616) [])
  rw [beI_len] at this; exact this
theorem numR_one (x : UInt8) : numR [x] = true := by simp [numR]
theorem byI_nat (m : Int) : ((byI m).toNat : Int) = m % 256 := by unfold byI; rw [UInt8.toNat_ofNat']; omega
theorem byI_add (m q : Int) : byI (m + 256 * q) = byI m := by unfold byI; rw [Int.add_mul_emod_self_left]
theorem beI_add : ∀ (f : Nat) (m q : Int) (o : List UInt8), beI f (m + 256 ^ f * q) o = beI f m o
  | 0, m, q, o => rfl
  | f + 1, m, q, o => by
    have e : (256 : Int) ^ (f + 1) * q = 256 * (256 ^ f * q) := by rw [Int.pow_succ, Int.mul_comm (256 ^ f) 256, Int.mul_assoc]
    rw [e, beI, beI, byI_add, Int.add_mul_ediv_left _ _ (by decide), beI_add f]
theorem beI_rep : ∀ (f : Nat) (c : Int) (o : List UInt8), c = 0 ∨ c = -1 → beI f c o = List.replicate f (byI c) ++ o
  | 0, c, o, _ => rfl
  | f + 1, c, o, h => by
    have e : c / 256 = c := by rcases h with rfl | rfl <;> rfl
    rw [beI, e, beI_rep f c _ h, List.replicate_succ', List.append_assoc]; rfl
def okT (m : Int) (o : List UInt8) : Prop := o = [] ∨ ∃ (m' : Int) (o' : List UInt8), o = byI m' :: o' ∧ m = m' / 256 ∧ ¬ (m' / 128 = 0 ∨ m' / 128 = -1)
theorem numR_ok {m : Int} {o : List UInt8} (hm : -128 ≤ m ∧ m < 128) (h : okT m o) : numR (byI m :: o) = true := by
  rcases h with rfl | ⟨m', o', rfl, h1, h2⟩
  · exact numR_one _
  · have e1 := byI_nat m
    have e2 := byI_nat m'
    unfold numR
    refine decide_eq_true ⟨by simp, .inr ⟨?_, ?_⟩⟩
    · simp only [List.getD_cons_zero, List.getD_cons_succ]; omega
    · simp only [List.getD_cons_zero, List.getD_cons_succ]; omega
theorem strip_same {x y : UInt8} (l : List UInt8) (h : x.toNat = 0 ∧ y.toNat < 128 ∨ x.toNat = 255 ∧ 128 ≤ y.toNat) : ∀ (f j : Nat), f ≤ j → stripR j (List.replicate f x ++ y :: l) = stripR (j - f) (y :: l)
  | 0, j, _ => by simp
  | f + 1, j, hj => by
    obtain ⟨i, rfl⟩ : ∃ i, j = i + 1 := ⟨j - 1, by omega⟩
    have hn : ¬ numR (List.replicate (f + 1) x ++ y :: l) = true := by
      intro hc
      have hc := of_decide_eq_true hc
      cases f with
      | zero => simp [List.replicate] at hc; omega
      | succ f => simp [List.replicate_succ] at hc; omega
    rw [stripR, if_neg hn, show (List.replicate (f + 1) x ++ y :: l).drop 1 = List.replicate f x ++ y :: l by rw [List.replicate_succ]; rfl, strip_same l h f i (by omega), show i + 1 - (f + 1) = i - f by omega]
def bI : Nat → Int
  | 0 => 128
  | f + 1 => 256 * bI f
theorem rint_go : ∀ (f : Nat) (m : Int) (o : List UInt8) (j : Nat), f ≤ j → -(bI f) ≤ m → m < bI f → okT m o → stripR j (beI (f + 1) m o) = intR f m (byI m :: o)
  | 0, m, o, j, hj, h0, h1, hc => by
    rw [beI, beI, intR]; exact stripR_stop (numR_ok ⟨h0, h1⟩ hc)
  | f + 1, m, o, j, hj, h0, h1, hc => by
    rw [beI, intR]
    split
    · rename_i hz
      have hq : m / 256 = 0 ∨ m / 256 = -1 := by omega
      have e1 := byI_nat m
      have e2 := byI_nat (m / 256)
      rw [beI_rep _ _ _ hq, strip_same o (by omega) (f + 1) j hj]
      exact stripR_stop (numR_ok (by omega) hc)
    · rename_i hz
      have hb : bI (f + 1) = 256 * bI f := rfl
      rw [hb] at h0 h1
      exact rint_go f (m / 256) (byI m :: o) j (by omega) (by omega) (by omega) (.inr ⟨m, o, rfl, rfl, hz⟩)
theorem intR_more : ∀ (f : Nat) (m : Int) (o : List UInt8), -(bI f) ≤ m → m < bI f → intR (f + 1) m o = intR f m o
  | 0, m, o, h0, h1 => by
    simp only [bI] at h0 h1
    rw [intR, intR, if_pos (by omega)]
  | f + 1, m, o, h0, h1 => by
    have hb : bI (f + 1) = 256 * bI f := rfl
    rw [hb] at h0 h1
    show (if m / 128 = 0 ∨ m / 128 = -1 then o else intR (f + 1) (m / 256) (byI (m / 256) :: o)) = (if m / 128 = 0 ∨ m / 128 = -1 then o else intR f (m / 256) (byI (m / 256) :: o))
    split
    · rfl
    · exact intR_more f (m / 256) _ (by omega) (by omega)
theorem rint_eq {n : Int} (h0 : -9223372036854775808 ≤ n) (h1 : n < 9223372036854775808) : rintB n = intB n := by
  have e : n % 18446744073709551616 = n + 256 ^ 8 * (-(n / 18446744073709551616)) := by
    have h := Int.emod_def n 18446744073709551616
    rw [show (256 : Int) ^ 8 = 18446744073709551616 by decide]
    omega
  unfold rintB intB
  rw [e, beI_add 8, rint_go 7 n [] 8 (by omega) (by simp [bI]; omega) (by simp [bI]; omega) (.inl rfl)]
  exact (intR_more 7 n _ (by simp [bI]; omega) (by simp [bI]; omega)).symm
theorem beE : ∀ m : Int, IntKind.u8.wrap (m % 256) = ((byI m).toNat : Int) := fun m => by rw [wrap8]; unfold byI; rw [Int.emod_emod_of_dvd _ (Int.dvd_refl 256)]
theorem byE : ∀ m : Int, byI (m % 256) = byI m := fun m => by unfold byI; rw [Int.emod_emod_of_dvd _ (Int.dvd_refl 256)]
theorem dropE : ∀ r : List UInt8, (r.drop 1).take ((r.length : Int) - 1).toNat = r.drop 1 := fun r => List.take_of_length_le (by rw [List.length_drop]; show r.length - 1 ≤ _; omega)
theorem emE : (∀ m : Int, 0 ≤ m → m.tmod 256 = m % 256) ∧ (∀ m : Int, 0 ≤ m → m.tdiv 256 = m / 256) := ⟨fun m h => Int.tmod_eq_emod_of_nonneg h, fun m h => Int.tdiv_eq_ediv_of_nonneg h⟩
noncomputable def ΦRT : Fns := tab [(111, rnumbF)]
theorem ΦRT_ok : Sound E ΦRT := sound_cons (by kernel_rfl) rnumb_ok (sound_nil)
@[go_sem] theorem ΦRT_r : ΦRT 111 = some rnumbF := rfl
@[go_sem] noncomputable def rintF : PFn := PF [SI .i64] (fun (n : Int) => -9223372036854775808 ≤ n ∧ n < 9223372036854775808) (fun (n : Int) => [nodeD (primT 2 (rintB n))])
theorem rint_ok : Pure E 69 rintF := Pure.of_sig (rs := [.cell 2 25]) (n := 33) Tryz.func69 rfl rfl rfl (Nat.le_of_ble_eq_true rfl) (by
 intro (n : Int) hds
 obtain ⟨hn0, hn1⟩ := hds
 have hbl := rintB_len n
 refine st0 ?_
 refine rg ΦRT_ok [0, 2] (And.intro inE (And.intro beE emE)) ?_
 refine rg ΦRT_ok [2, 3] (And.intro inE (And.intro beE emE)) ?_
 refine rg ΦRT_ok [2, 3, 4] (And.intro inE (And.intro beE emE)) ?_
 refine rg ΦRT_ok [2, 3, 4, 5] (And.intro inE (And.intro beE emE)) ?_
 refine nx ?_
 refine VC.loopP (ι := Nat × Int × List UInt8) [2] (fun i => [(3, .dat (.int .u64 i.2.1)), (4, .sl 2 0 i.2.2.length), (5, .dat (.int .i64 (i.1 : Int)))]) (fun i => [(1, .cells [.dat (.int .i64 0), .dat (.int .i64 0), .dat (.bool false), .nilsl, .nilsl] false), (2, .arr 5 1 (bytesD i.2.2) 0)]) (fun i => i.1 ≤ 8 ∧ 0 ≤ i.2.1 ∧ i.2.1 < 18446744073709551616 ∧ i.2.2.length = i.1 ∧ beI (8 - i.1) i.2.1 i.2.2 = beI 8 (n % 18446744073709551616) []) (fun i => 8 - i.1) (0, n % 18446744073709551616, []) ⟨Nat.zero_le _, by dsimp only; omega, by dsimp only; omega, rfl, rfl⟩ ?_ ?_
 · refine (Ent.nilT 4 2 5 1 (by decide) (by simp -implicitDefEqProofs only [go_sem, Nat.reduceLT, Nat.reduceAdd, Nat.reduceEqDiff, reduceIte, Nat.reduceMul, Nat.reduceSub, reduceCtorEq, Int.reduceNe, Int.reduceEq, ne_eq, Nat.reduceLeDiff, Nat.reduceMod, Nat.reduceDiv]) (by simp -implicitDefEqProofs only [go_sem, Nat.reduceLT, Nat.reduceAdd, Nat.reduceEqDiff, reduceIte, Nat.reduceMul, Nat.reduceSub, reduceCtorEq, Int.reduceNe, Int.reduceEq, ne_eq, Nat.reduceLeDiff, Nat.reduceMod, Nat.reduceDiv])).trans (Ent.to rfl rfl rfl ?_ ?_)
   · simp -implicitDefEqProofs only [go_sem, Nat.reduceLT, Nat.reduceAdd, Nat.reduceEqDiff, reduceIte, Nat.reduceMul, Nat.reduceSub, reduceCtorEq, Int.reduceNe, Int.reduceEq, ne_eq, Nat.reduceLeDiff, Nat.reduceMod, Nat.reduceDiv]; (try simp only [D.dat.injEq, Vm.Data.int.injEq, true_and, and_true, and_self, eq_self]); (try omega); (try ((repeat' apply And.intro) <;> first | omega | rfl))
   · (repeat' (first | exact all_nil | (refine all_cons ?_ ?_))) <;> (simp -implicitDefEqProofs only [go_sem, Nat.reduceLT, Nat.reduceAdd, Nat.reduceEqDiff, reduceIte, Nat.reduceMul, Nat.reduceSub, reduceCtorEq, Int.reduceNe, Int.reduceEq, ne_eq, Nat.reduceLeDiff, Nat.reduceMod, Nat.reduceDiv]; (try rfl); skip)
 rintro ⟨k, m, b⟩ hp; (try dsimp only at hp); obtain ⟨hk, h0, h1, hl, hc⟩ := hp
 refine st0 ?_
 refine rg ΦRT_ok [2, 3, 4, 5, 11] (And.intro inE (And.intro beE emE)) ?_
 refine cn ?_ ?_
 · intro h; try exact absurd h (by decide)
   all_goals
    refine rg ΦRT_ok [2, 3, 4, 5] (And.intro inE (And.intro beE emE)) ?_
    refine rgL ΦRT_ok (And.intro inE (And.intro beE emE)) ?_
    refine rgL ΦRT_ok (And.intro inE (And.intro beE emE)) ?_
    have ce := And.intro (emE.1 m h0) (emE.2 m h0)
    refine nx ?_
    refine ⟨(k + 1, m / 256, byI m :: b), ⟨by dsimp only; omega, by dsimp only; omega, by dsimp only; omega, by simp only [List.length_cons]; omega, ?_⟩, ?_, by dsimp only; omega⟩
    · dsimp only; rw [beI_step (by omega)]; exact hc
    · refine (Ent.move 4 3 2 (by simp -implicitDefEqProofs only [go_sem, Nat.reduceLT, Nat.reduceAdd, Nat.reduceEqDiff, reduceIte, Nat.reduceMul, Nat.reduceSub, reduceCtorEq, Int.reduceNe, Int.reduceEq, ne_eq, Nat.reduceLeDiff, Nat.reduceMod, Nat.reduceDiv]; try decide) (by simp -implicitDefEqProofs only [go_sem, Nat.reduceLT, Nat.reduceAdd, Nat.reduceEqDiff, reduceIte, Nat.reduceMul, Nat.reduceSub, reduceCtorEq, Int.reduceNe, Int.reduceEq, ne_eq, Nat.reduceLeDiff, Nat.reduceMod, Nat.reduceDiv]; try decide) (by simp -implicitDefEqProofs only [go_sem, Nat.reduceLT, Nat.reduceAdd, Nat.reduceEqDiff, reduceIte, Nat.reduceMul, Nat.reduceSub, reduceCtorEq, Int.reduceNe, Int.reduceEq, ne_eq, Nat.reduceLeDiff, Nat.reduceMod, Nat.reduceDiv]; exact rfl) (by simp -implicitDefEqProofs only [go_sem, Nat.reduceLT, Nat.reduceAdd, Nat.reduceEqDiff, reduceIte, Nat.reduceMul, Nat.reduceSub, reduceCtorEq, Int.reduceNe, Int.reduceEq, ne_eq, Nat.reduceLeDiff, Nat.reduceMod, Nat.reduceDiv]; exact rfl)).trans (Ent.to rfl rfl rfl ?_ ?_)
      · simp -implicitDefEqProofs only [go_sem, Nat.reduceLT, Nat.reduceAdd, Nat.reduceEqDiff, reduceIte, Nat.reduceMul, Nat.reduceSub, reduceCtorEq, Int.reduceNe, Int.reduceEq, ne_eq, Nat.reduceLeDiff, Nat.reduceMod, Nat.reduceDiv]; (try simp only [List.length_cons, Nat.add_comm 1, ce.1, ce.2, byE]); (try simp only [D.dat.injEq, Vm.Data.int.injEq, true_and, and_true, and_self, eq_self]); (try omega); (try ((repeat' apply And.intro) <;> first | omega | rfl))
      · (repeat' (first | exact all_nil | (refine all_cons ?_ ?_))) <;> (simp -implicitDefEqProofs only [go_sem, Nat.reduceLT, Nat.reduceAdd, Nat.reduceEqDiff, reduceIte, Nat.reduceMul, Nat.reduceSub, reduceCtorEq, Int.reduceNe, Int.reduceEq, ne_eq, Nat.reduceLeDiff, Nat.reduceMod, Nat.reduceDiv]; (try rfl); (try simp only [ce.1, ce.2, byE]); try rfl)
 · intro h; try exact absurd h (by decide)
   all_goals
    refine rg ΦRT_ok [2, 4, 6] (And.intro inE (And.intro beE emE)) ?_
    refine nx ?_
    refine VC.ent (Ent.frzT (t := 4) (x := .lst (bytesD b)) (by simp -implicitDefEqProofs only [go_sem, Nat.reduceLT, Nat.reduceAdd, Nat.reduceEqDiff, reduceIte, Nat.reduceMul, Nat.reduceSub, reduceCtorEq, Int.reduceNe, Int.reduceEq, ne_eq, Nat.reduceLeDiff, Nat.reduceMod, Nat.reduceDiv]; exact rfl) (by simp -implicitDefEqProofs only [go_sem, Nat.reduceLT, Nat.reduceAdd, Nat.reduceEqDiff, reduceIte, Nat.reduceMul, Nat.reduceSub, reduceCtorEq, Int.reduceNe, Int.reduceEq, ne_eq, Nat.reduceLeDiff, Nat.reduceMod, Nat.reduceDiv]; exact rfl)) ?_
    refine VC.loopP (ι := Nat × List UInt8) [2] (fun i => [(4, .dat (.lst (bytesD i.2))), (6, .dat (.int .i64 (i.1 : Int)))]) (fun i => [(1, .cells [.dat (.int .i64 0), .dat (.int .i64 0), .dat (.bool false), .nilsl, .nilsl] false)]) (fun i => i.1 ≤ 8 ∧ i.2.length = 8 - i.1 ∧ stripR (8 - i.1) i.2 = rintB n) (fun i => 8 - i.1) (0, b) ⟨Nat.zero_le _, by dsimp only; omega, by dsimp only; unfold rintB; rw [← hc, show 8 - k = 0 by omega]; rfl⟩ ?_ ?_
    · refine Ent.to rfl rfl rfl ?_ ?_
      · simp -implicitDefEqProofs only [go_sem, Nat.reduceLT, Nat.reduceAdd, Nat.reduceEqDiff, reduceIte, Nat.reduceMul, Nat.reduceSub, reduceCtorEq, Int.reduceNe, Int.reduceEq, ne_eq, Nat.reduceLeDiff, Nat.reduceMod, Nat.reduceDiv]; (try simp only [D.dat.injEq, Vm.Data.int.injEq, true_and, and_true, and_self, eq_self]); (try omega); (try ((repeat' apply And.intro) <;> first | omega | rfl))
      · (repeat' (first | exact all_nil | (refine all_cons ?_ ?_))) <;> (simp -implicitDefEqProofs only [go_sem, Nat.reduceLT, Nat.reduceAdd, Nat.reduceEqDiff, reduceIte, Nat.reduceMul, Nat.reduceSub, reduceCtorEq, Int.reduceNe, Int.reduceEq, ne_eq, Nat.reduceLeDiff, Nat.reduceMod, Nat.reduceDiv]; (try rfl); skip)
    rintro ⟨j, r⟩ hp; (try dsimp only at hp); obtain ⟨hj, hr, hs⟩ := hp
    refine st0 ?_
    refine rg ΦRT_ok [2, 4, 6, 23] (And.intro inE (And.intro beE emE)) ?_
    refine cn ?_ ?_
    · intro h; try exact absurd h (by decide)
      all_goals
       refine rg ΦRT_ok [2, 4, 6, 7] (And.intro inE (And.intro beE emE)) ?_
       refine rg ΦRT_ok [2, 4, 6, 28] (And.intro inE (And.intro beE emE)) ?_
       refine cn ?_ ?_
       · intro h; try exact absurd h (by decide)
         all_goals
          have hy : r = rintB n := by
            first
            | exact (stripR_stop (by assumption)).symm.trans hs
            | exact (by rw [show 8 - j = 0 by omega] at hs; exact hs)
          refine rg ΦRT_ok [2] (And.intro inE (And.intro beE emE)) ?_
          exact fz hy
       · intro h; try exact absurd h (by decide)
         all_goals
          refine rgL ΦRT_ok (And.intro inE (And.intro beE emE)) ?_
          refine rgL ΦRT_ok (And.intro inE (And.intro beE emE)) ?_
          refine nx ?_
          refine ⟨(j + 1, r.drop 1), ⟨by dsimp only; omega, by dsimp only; rw [List.length_drop]; omega, ?_⟩, ?_, by dsimp only; omega⟩
          · dsimp only; rw [stripR_step (by omega) (by simp_all)]; exact hs
          · refine Ent.to rfl rfl rfl ?_ ?_
            · simp -implicitDefEqProofs only [go_sem, Nat.reduceLT, Nat.reduceAdd, Nat.reduceEqDiff, reduceIte, Nat.reduceMul, Nat.reduceSub, reduceCtorEq, Int.reduceNe, Int.reduceEq, ne_eq, Nat.reduceLeDiff, Nat.reduceMod, Nat.reduceDiv]; (try simp only [dropE]); (try simp only [D.dat.injEq, Vm.Data.int.injEq, true_and, and_true, and_self, eq_self]); (try omega); (try ((repeat' apply And.intro) <;> first | omega | rfl))
            · (repeat' (first | exact all_nil | (refine all_cons ?_ ?_))) <;> (simp -implicitDefEqProofs only [go_sem, Nat.reduceLT, Nat.reduceAdd, Nat.reduceEqDiff, reduceIte, Nat.reduceMul, Nat.reduceSub, reduceCtorEq, Int.reduceNe, Int.reduceEq, ne_eq, Nat.reduceLeDiff, Nat.reduceMod, Nat.reduceDiv]; (try rfl); skip)
    · intro h; try exact absurd h (by decide)
      all_goals
       have hy : r = rintB n := by
         first
         | exact (stripR_stop (by assumption)).symm.trans hs
         | exact (by rw [show 8 - j = 0 by omega] at hs; exact hs)
       refine rg ΦRT_ok [2] (And.intro inE (And.intro beE emE)) ?_
       exact fz hy)
end Go.Proofs.YtpajpkbipagjpaaGreatDoor.Oc

