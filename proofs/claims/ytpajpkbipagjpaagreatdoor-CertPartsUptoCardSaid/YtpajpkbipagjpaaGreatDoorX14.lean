/- What functions of the program, of its library and of the document compute: their contracts, and laws about what they compute (X14). No condition. -/
import Derived.Test.YtpajpkbipagjpaaGreatDoorX12
import Derived.Test.YtpajpkbipagjpaaGreatDoorX13
import Derived.Test.YtpajpkbipagjpaaGreatDoorX10
import Derived.Test.YtpajpkbipagjpaaGreatDoorX09
import Derived.Test.YtpajpkbipagjpaaGreatDoorX03
import Derived.Test.YtpajpkbipagjpaaGreatDoorX08
import Derived.Test.YtpajpkbipagjpaaGreatDoorX05
set_option linter.unusedVariables false
set_option linter.unusedSimpArgs false
namespace Go.Proofs.YtpajpkbipagjpaaGreatDoor.Oc
open Go Go.RowKit Go.Proofs.YtpajpkbipagjpaaGreatDoor.Vm Go.Proofs.YtpajpkbipagjpaaGreatDoor.Tr Go.IntWalk
set_option maxRecDepth 100000
set_option maxHeartbeats 4000000
theorem part_iff {r : Rd} : partB r = true ↔ (1 ≤ r.kind ∧ r.kind ≤ 3 ∧ ¬ r.text.length = 0 ∧ r.text.length ≤ 64) ∧ fits2 r.print r.text = true ∧ (¬ r.kind = 3 ∨ r.print = true ∧ r.text.length = 2) := by
 unfold partB
 simp only [Bool.and_eq_true, decide_eq_true_eq]
theorem kindN_nil {k : Int} : kindN k = [] ↔ k < 1 ∨ 3 < k := by
 refine ⟨fun h => ?_, kind_no⟩
 unfold kindN at h
 (repeat' split at h) <;> first | (cases h; done) | omega
theorem rdn_row2 {l : List T} {r : Rd} : nodesD l ++ [[.int .i64 (setT [seqT [primT 6 (namedB (kindN r.kind)), labelT r]]).cls, .int .i64 (setT [seqT [primT 6 (namedB (kindN r.kind)), labelT r]]).tag, .bool (setT [seqT [primT 6 (namedB (kindN r.kind)), labelT r]]).cons, .lst (bytesD (setT [seqT [primT 6 (namedB (kindN r.kind)), labelT r]]).bytes), .lst (nodesD (setT [seqT [primT 6 (namedB (kindN r.kind)), labelT r]]).kids)]] = nodesD (l ++ [rdnT r]) := by
 rw [nodes1, nodesD_append]; rfl
noncomputable def ΦRBN : Fns := tab [(81, rkindF), (82, rprimF), (83, rcheckLF), (65, rcnamedF), (64, rseqF), (84, rsetF)]
theorem ΦRBN_ok : Sound E ΦRBN := sound_cons (by kernel_rfl) rkind_ok (sound_cons (by kernel_rfl) rprim_ok (sound_cons (by kernel_rfl) rcheckL_ok (sound_cons (by kernel_rfl) rcnamed_ok (sound_cons (by kernel_rfl) rseq_ok (sound_cons (by kernel_rfl) rset_ok (sound_nil))))))
@[go_sem] theorem ΦRBN_r : ΦRBN 81 = some rkindF ∧ ΦRBN 82 = some rprimF ∧ ΦRBN 83 = some rcheckLF ∧ ΦRBN 65 = some rcnamedF ∧ ΦRBN 64 = some rseqF ∧ ΦRBN 84 = some rsetF := ⟨rfl, rfl, rfl, rfl, rfl, rfl⟩
@[go_sem] noncomputable def rbnameF : PFn := PF [SRs] (fun (n : List Rd) => nmB n) (fun (n : List Rd) => [nodeD (nameT n), .int .i64 (nameE n)])
theorem rbname_ok : Pure E 22 rbnameF := Pure.of_sig (rs := [.cell 2 25, .tmp 3]) (n := 100) Tryz.func22 rfl rfl rfl (Nat.le_of_ble_eq_true rfl) (by
 intro (n : List Rd) hds
 obtain ⟨hnl, htx⟩ := hds
 refine st0 ?_
 refine rg ΦRBN_ok [0, 2] szE ?_
 refine rB ΦRBN_ok [0, 2, 18] szE fun K' hK => ?_
 repeat' first | (refine lf hK szE ?_; clear hK K') | with_reducible apply And.intro | refine sA szE (fun _ => ?_) fun _ => ?_ | refine sAb szE (fun _ => ?_) fun _ => ?_ | refine sAl szE (fun g => ?_) fun g => ?_ | exact sd | exact sde szE | exact sdp szE | refine stk szE ?_ | fail
 all_goals
  refine cn ?_ ?_
  ·intro h; try exact absurd h (by decide)
   all_goals
    have hy := And.intro (nm_no (n := n) (by first | exact .inl (by omega) | exact .inr (by omega))) zeroE
    refine rg ΦRBN_ok [2, 3] szE ?_
    first
    | (rw [← hlx] at hy; exact fz hy)
    | exact fz hy
  ·intro h; try exact absurd h (by decide)
   all_goals
    refine rg ΦRBN_ok [0, 2, 4] szE ?_
    refine rg ΦRBN_ok [0, 2, 4, 5] szE ?_
    refine nx ?_
    refine VC.loopP (ι := Nat × List T) [0, 2] (fun z => [(4, .sl 2 0 z.2.length), (5, .dat (.int .i64 (z.1 : Int)))]) (fun z => [(1, .cells [.dat (.int .i64 0), .dat (.int .i64 0), .dat (.bool false), .nilsl, .nilsl] false), (2, .arr 25 5 (nodesD z.2) 0)]) (fun z => z.1 ≤ n.length ∧ okTo n z.1 ∧ z.2 = (n.take z.1).map rdnT) (fun z => n.length - z.1) (0, []) ⟨Nat.zero_le _, (fun j hj => absurd hj (Nat.not_lt_zero _)), rfl⟩ ?_ ?_
    ·refine (Ent.nilT 4 2 25 5 (by decide) (by simp -implicitDefEqProofs only [go_sem, Nat.reduceLT, Nat.reduceAdd, Nat.reduceEqDiff, reduceIte, Nat.reduceMul, Nat.reduceSub, reduceCtorEq, Int.reduceNe, Int.reduceEq, ne_eq, Nat.reduceLeDiff, Nat.reduceMod, Nat.reduceDiv]) (by simp -implicitDefEqProofs only [go_sem, Nat.reduceLT, Nat.reduceAdd, Nat.reduceEqDiff, reduceIte, Nat.reduceMul, Nat.reduceSub, reduceCtorEq, Int.reduceNe, Int.reduceEq, ne_eq, Nat.reduceLeDiff, Nat.reduceMod, Nat.reduceDiv])).trans (Ent.to rfl rfl rfl ?_ ?_)
     ·simp -implicitDefEqProofs only [go_sem, Nat.reduceLT, Nat.reduceAdd, Nat.reduceEqDiff, reduceIte, Nat.reduceMul, Nat.reduceSub, reduceCtorEq, Int.reduceNe, Int.reduceEq, ne_eq, Nat.reduceLeDiff, Nat.reduceMod, Nat.reduceDiv]; (try simp only [D.dat.injEq, Vm.Data.int.injEq, true_and, and_true, and_self, eq_self]); (try omega); (try ((repeat' apply And.intro) <;> first | omega | rfl))
     ·(repeat' (first | exact all_nil | (refine all_cons ?_ ?_))) <;> (simp -implicitDefEqProofs only [go_sem, Nat.reduceLT, Nat.reduceAdd, Nat.reduceEqDiff, reduceIte, Nat.reduceMul, Nat.reduceSub, reduceCtorEq, Int.reduceNe, Int.reduceEq, ne_eq, Nat.reduceLeDiff, Nat.reduceMod, Nat.reduceDiv]; (try rfl); (try rw [nodesD_nil]))
    rintro ⟨i, l⟩ hp; (try dsimp only at hp); obtain ⟨hi, hok, hl⟩ := hp
    have hll : l.length = i := by rw [hl, List.length_map, List.length_take]; omega
    have hsz : T.szs l ≤ 2400 := by rw [hl]; exact szs_take (by omega) hok hi
    refine st0 ?_
    refine rg ΦRBN_ok [0, 2, 4, 5, 23] szE ?_
    refine cn ?_ ?_
    ·intro h; try exact absurd h (by decide)
     all_goals
      have ri := rdsD_at (l := n) (k := i) (by omega)
      have hti := htx i
      refine rg ΦRBN_ok [0, 2, 4, 5, 6] ri ?_
      refine rg ΦRBN_ok [0, 2, 4, 5, 6, 7] ri ?_
      refine rg ΦRBN_ok [0, 2, 4, 5, 6, 7, 8] szE ?_
      refine rg ΦRBN_ok [0, 2, 4, 5, 6, 7, 8, 42] ri ?_
      refine cn ?_ ?_
      ·intro h; try exact absurd h (by decide)
       all_goals
        refine rgL ΦRBN_ok szE ?_
        have hpr : (n.getD i Rd.zero).print = true := by simp_all
        have hlab : primT 19 (n.getD i Rd.zero).text = labelT (n.getD i Rd.zero) := by unfold labelT; rw [hpr]; rfl
        refine rg ΦRBN_ok [0, 2, 4, 5, 6, 7, 9] (And.intro hlab ri) ?_
        refine rg ΦRBN_ok [0, 2, 4, 5, 6, 7, 9, 10] szE ?_
        refine rB ΦRBN_ok [0, 2, 4, 5, 6, 9, 86] ri fun K' hK => ?_
        repeat' first | (refine lf hK ri ?_; clear hK K') | with_reducible apply And.intro | refine sA ri (fun _ => ?_) fun _ => ?_ | refine sAb ri (fun _ => ?_) fun _ => ?_ | refine sAl ri (fun g => ?_) fun g => ?_ | exact sd | exact sde ri | exact sdp ri | refine stk ri ?_ | fail
        all_goals
         refine cn ?_ ?_
         ·intro h; try exact absurd h (by decide)
          all_goals
           have hpb : partB (n.getD i Rd.zero) = false := by
            rw [Bool.eq_false_iff]
            intro hc
            obtain ⟨⟨a1, a2, a3, a4⟩, a5, a6⟩ := part_iff.1 hc
            have hkn : ¬ kindN (n.getD i Rd.zero).kind = [] := fun h => by have := kindN_nil.1 h; omega
            first
            | omega
            | contradiction
            | (simp_all; done)
            | (simp_all; omega)
           have hy := And.intro (nm_bad (n := n) (i := i) (by omega) hpb) zeroE
           refine rg ΦRBN_ok [2, 3] szE ?_
           first
           | (rw [← hlx] at hy; exact fz hy)
           | exact fz hy
         ·intro h; try exact absurd h (by decide)
          all_goals
           have hpt : partB (n.getD i Rd.zero) = true := by
            have hkb : ¬ ((n.getD i Rd.zero).kind < 1 ∨ 3 < (n.getD i Rd.zero).kind) := mt kindN_nil.2 (by first | assumption | simp_all)
            refine part_iff.2 ⟨⟨by omega, by omega, by omega, by omega⟩, ?_, ?_⟩
            ·cases hv : fits2 (n.getD i Rd.zero).print (n.getD i Rd.zero).text <;> simp_all
            ·first
             | exact .inl (by assumption)
             | exact .inr ⟨by assumption, by omega⟩
             | (simp_all; done)
             | (simp_all; omega)
           have hpl := part_len hpt
           have hks := kind_same hpl.2
           have hlb := namedB_len (kindN (n.getD i Rd.zero).kind)
           have hls := label_sz hpt
           refine rdL ΦRBN_ok 9 (And.intro hks szE) ?_
           refine rgL ΦRBN_ok szE ?_
           refine nx ?_
           refine ⟨(i + 1, l ++ [rdnT (n.getD i Rd.zero)]), ⟨by dsimp only; omega, fun j hj => ?_, by dsimp only; rw [hl]; exact rdn_take (by omega)⟩, Ent.to rfl rfl rfl ?_ ?_, by dsimp only; omega⟩
           ·rcases Nat.lt_succ_iff_lt_or_eq.1 hj with hj | rfl
            ·exact hok j hj
            ·exact hpt
           ·simp -implicitDefEqProofs only [go_sem, Nat.reduceLT, Nat.reduceAdd, Nat.reduceEqDiff, reduceIte, Nat.reduceMul, Nat.reduceSub, reduceCtorEq, Int.reduceNe, Int.reduceEq, ne_eq, Nat.reduceLeDiff, Nat.reduceMod, Nat.reduceDiv]; (try simp only [List.length_append, List.length_cons, List.length_nil]); (try simp only [D.dat.injEq, Vm.Data.int.injEq, true_and, and_true, and_self, eq_self]); (try omega); (try ((repeat' apply And.intro) <;> first | omega | rfl))
           ·(repeat' (first | exact all_nil | (refine all_cons ?_ ?_))) <;> (simp -implicitDefEqProofs only [go_sem, Nat.reduceLT, Nat.reduceAdd, Nat.reduceEqDiff, reduceIte, Nat.reduceMul, Nat.reduceSub, reduceCtorEq, Int.reduceNe, Int.reduceEq, ne_eq, Nat.reduceLeDiff, Nat.reduceMod, Nat.reduceDiv]; (try rfl); (try simp only [rdn_row2]))
      ·intro h; try exact absurd h (by decide)
       all_goals
        have hpr : (n.getD i Rd.zero).print = false := by simp_all
        have hlab : primT 12 (n.getD i Rd.zero).text = labelT (n.getD i Rd.zero) := by unfold labelT; rw [hpr]; rfl
        refine rg ΦRBN_ok [0, 2, 4, 5, 6, 7, 9] (And.intro hlab ri) ?_
        refine rg ΦRBN_ok [0, 2, 4, 5, 6, 7, 9, 10] szE ?_
        refine rB ΦRBN_ok [0, 2, 4, 5, 6, 9, 86] ri fun K' hK => ?_
        repeat' first | (refine lf hK ri ?_; clear hK K') | with_reducible apply And.intro | refine sA ri (fun _ => ?_) fun _ => ?_ | refine sAb ri (fun _ => ?_) fun _ => ?_ | refine sAl ri (fun g => ?_) fun g => ?_ | exact sd | exact sde ri | exact sdp ri | refine stk ri ?_ | fail
        all_goals
         refine cn ?_ ?_
         ·intro h; try exact absurd h (by decide)
          all_goals
           have hpb : partB (n.getD i Rd.zero) = false := by
            rw [Bool.eq_false_iff]
            intro hc
            obtain ⟨⟨a1, a2, a3, a4⟩, a5, a6⟩ := part_iff.1 hc
            have hkn : ¬ kindN (n.getD i Rd.zero).kind = [] := fun h => by have := kindN_nil.1 h; omega
            first
            | omega
            | contradiction
            | (simp_all; done)
            | (simp_all; omega)
           have hy := And.intro (nm_bad (n := n) (i := i) (by omega) hpb) zeroE
           refine rg ΦRBN_ok [2, 3] szE ?_
           first
           | (rw [← hlx] at hy; exact fz hy)
           | exact fz hy
         ·intro h; try exact absurd h (by decide)
          all_goals
           have hpt : partB (n.getD i Rd.zero) = true := by
            have hkb : ¬ ((n.getD i Rd.zero).kind < 1 ∨ 3 < (n.getD i Rd.zero).kind) := mt kindN_nil.2 (by first | assumption | simp_all)
            refine part_iff.2 ⟨⟨by omega, by omega, by omega, by omega⟩, ?_, ?_⟩
            ·cases hv : fits2 (n.getD i Rd.zero).print (n.getD i Rd.zero).text <;> simp_all
            ·first
             | exact .inl (by assumption)
             | exact .inr ⟨by assumption, by omega⟩
             | (simp_all; done)
             | (simp_all; omega)
           have hpl := part_len hpt
           have hks := kind_same hpl.2
           have hlb := namedB_len (kindN (n.getD i Rd.zero).kind)
           have hls := label_sz hpt
           refine rdL ΦRBN_ok 9 (And.intro hks szE) ?_
           refine rgL ΦRBN_ok szE ?_
           refine nx ?_
           refine ⟨(i + 1, l ++ [rdnT (n.getD i Rd.zero)]), ⟨by dsimp only; omega, fun j hj => ?_, by dsimp only; rw [hl]; exact rdn_take (by omega)⟩, Ent.to rfl rfl rfl ?_ ?_, by dsimp only; omega⟩
           ·rcases Nat.lt_succ_iff_lt_or_eq.1 hj with hj | rfl
            ·exact hok j hj
            ·exact hpt
           ·simp -implicitDefEqProofs only [go_sem, Nat.reduceLT, Nat.reduceAdd, Nat.reduceEqDiff, reduceIte, Nat.reduceMul, Nat.reduceSub, reduceCtorEq, Int.reduceNe, Int.reduceEq, ne_eq, Nat.reduceLeDiff, Nat.reduceMod, Nat.reduceDiv]; (try simp only [List.length_append, List.length_cons, List.length_nil]); (try simp only [D.dat.injEq, Vm.Data.int.injEq, true_and, and_true, and_self, eq_self]); (try omega); (try ((repeat' apply And.intro) <;> first | omega | rfl))
           ·(repeat' (first | exact all_nil | (refine all_cons ?_ ?_))) <;> (simp -implicitDefEqProofs only [go_sem, Nat.reduceLT, Nat.reduceAdd, Nat.reduceEqDiff, reduceIte, Nat.reduceMul, Nat.reduceSub, reduceCtorEq, Int.reduceNe, Int.reduceEq, ne_eq, Nat.reduceLeDiff, Nat.reduceMod, Nat.reduceDiv]; (try rfl); (try simp only [rdn_row2]))
    ·intro h; try exact absurd h (by decide)
     all_goals
      have hy := nm_ok (n := n) (by omega) (fun j hj => hok j (by omega))
      have hlx : l = n.map rdnT := hl.trans (rdn_all (by omega))
      refine rg ΦRBN_ok [2, 3] szE ?_
      first
      | (rw [← hlx] at hy; exact fz hy)
      | exact fz hy)
end Go.Proofs.YtpajpkbipagjpaaGreatDoor.Oc
namespace Go.Proofs.YtpajpkbipagjpaaGreatDoor.Oc
open Go Go.RowKit Go.Proofs.YtpajpkbipagjpaaGreatDoor.Vm Go.Proofs.YtpajpkbipagjpaaGreatDoor.Tr Go.IntWalk
set_option maxRecDepth 100000
set_option maxHeartbeats 4000000
noncomputable def ΦRRN : Fns := tab [(86, rhasF), (87, risF), (81, rkindF), (65, rcnamedF), (15, rsame0F), (22, rbnameF)]
theorem ΦRRN_ok : Sound E ΦRRN := sound_cons (by kernel_rfl) rhas_ok (sound_cons (by kernel_rfl) ris_ok (sound_cons (by kernel_rfl) rkind_ok (sound_cons (by kernel_rfl) rcnamed_ok (sound_cons (by kernel_rfl) rsame0_ok (sound_cons (by kernel_rfl) rbname_ok (sound_nil))))))
@[go_sem] theorem ΦRRN_r : ΦRRN 86 = some rhasF ∧ ΦRRN 87 = some risF ∧ ΦRRN 81 = some rkindF ∧ ΦRRN 65 = some rcnamedF ∧ ΦRRN 15 = some rsame0F ∧ ΦRRN 22 = some rbnameF := ⟨rfl, rfl, rfl, rfl, rfl, rfl⟩
@[go_sem] noncomputable def rrnameF : PFn := PF [ST] (fun (t : T) => t.sz ≤ 20000) (fun (t : T) => [.lst (rdsD (rrnN t)), .int .i64 (rrnE t)])
theorem rrname_ok : Pure E 26 rrnameF := Pure.of_sig (rs := [.tmp 2, .tmp 3]) (n := 99) Tryz.func26 rfl rfl rfl (Nat.le_of_ble_eq_true rfl) (by
 intro (t : T) hds
 have hkl := kids_len t
 have hB := rn_B hds
 refine st0 ?_
 refine rg ΦRRN_ok [1] trE ?_
 refine rg ΦRRN_ok [1, 19] trE ?_
 refine cn ?_ ?_
 ·intro h; try exact absurd h (by decide)
  try (exfalso; (try simp only [Bool.not_eq_eq_eq_not, Bool.not_true, Bool.not_false, decide_eq_false_iff_not, decide_eq_true_eq] at *); first | omega | (have g0 := g rfl; omega) | (simp_all; done))
  all_goals
   have hy := rrn_f (rrn_no1 (t := t) (by simp_all))
   refine rg ΦRRN_ok [2, 3] trE ?_
   first
   | exact fz hy
 ·intro h; try exact absurd h (by decide)
  try (exfalso; (try simp only [Bool.not_eq_eq_eq_not, Bool.not_true, Bool.not_false, decide_eq_false_iff_not, decide_eq_true_eq] at *); first | omega | (have g0 := g rfl; omega) | (simp_all; done))
  all_goals
   have hH : hasT t 0 16 t.kids.length := by simp_all
   refine rg ΦRRN_ok [1, 4] trE ?_
   refine rg ΦRRN_ok [1, 4, 5] trE ?_
   refine nx ?_
   refine VC.loopP (ι := Nat × List Rd) [1] (fun z => [(4, .sl 2 0 z.2.length), (5, .dat (.int .i64 (z.1 : Int)))]) (fun z => [(1, .cells [.dat (.int .i64 t.cls), .dat (.int .i64 t.tag), .dat (.bool t.cons), .dat (.lst (bytesD t.bytes)), .dat (.lst (nodesD t.kids))] false), (2, .arr 52 3 (rdsD z.2) 0)]) (fun z => z.1 ≤ t.kids.length ∧ (∀ j, j < z.1 → okRd (t.kids.getD j T.zero)) ∧ z.2 = (t.kids.take z.1).map rdOf) (fun z => t.kids.length - z.1) (0, []) ⟨Nat.zero_le _, (fun j hj => absurd hj (Nat.not_lt_zero _)), rfl⟩ ?_ ?_
   ·refine (Ent.nilT 4 2 52 3 (by decide) (by simp -implicitDefEqProofs only [go_sem, Nat.reduceLT, Nat.reduceAdd, Nat.reduceEqDiff, reduceIte, Nat.reduceMul, Nat.reduceSub, reduceCtorEq, Int.reduceNe, Int.reduceEq, ne_eq, Nat.reduceLeDiff, Nat.reduceMod, Nat.reduceDiv]) (by simp -implicitDefEqProofs only [go_sem, Nat.reduceLT, Nat.reduceAdd, Nat.reduceEqDiff, reduceIte, Nat.reduceMul, Nat.reduceSub, reduceCtorEq, Int.reduceNe, Int.reduceEq, ne_eq, Nat.reduceLeDiff, Nat.reduceMod, Nat.reduceDiv])).trans (Ent.to rfl rfl rfl ?_ ?_)
    ·simp -implicitDefEqProofs only [go_sem, Nat.reduceLT, Nat.reduceAdd, Nat.reduceEqDiff, reduceIte, Nat.reduceMul, Nat.reduceSub, reduceCtorEq, Int.reduceNe, Int.reduceEq, ne_eq, Nat.reduceLeDiff, Nat.reduceMod, Nat.reduceDiv]; (try simp only [D.dat.injEq, Vm.Data.int.injEq, true_and, and_true, and_self, eq_self]); (try omega); (try ((repeat' apply And.intro) <;> first | omega | rfl))
    ·(repeat' (first | exact all_nil | (refine all_cons ?_ ?_))) <;> (simp -implicitDefEqProofs only [go_sem, Nat.reduceLT, Nat.reduceAdd, Nat.reduceEqDiff, reduceIte, Nat.reduceMul, Nat.reduceSub, reduceCtorEq, Int.reduceNe, Int.reduceEq, ne_eq, Nat.reduceLeDiff, Nat.reduceMod, Nat.reduceDiv]; (try rfl); (try rw [rdsD_nil]))
   rintro ⟨i, l⟩ hp; (try dsimp only at hp); obtain ⟨hi, hok, hl⟩ := hp
   have hll : l.length = i := by rw [hl, List.length_map, List.length_take]; omega
   refine st0 ?_
   refine rg ΦRRN_ok [1, 4, 5, 24] trE ?_
   refine cn ?_ ?_
   ·intro h; try exact absurd h (by decide)
    try (exfalso; (try simp only [Bool.not_eq_eq_eq_not, Bool.not_true, Bool.not_false, decide_eq_false_iff_not, decide_eq_true_eq] at *); first | omega | (have g0 := g rfl; omega) | (simp_all; done))
    all_goals
     refine rg ΦRRN_ok [1, 4, 5, 6] trE ?_
     rcases hc : decide (hasT (t.kids.getD i T.zero) 0 17 1) with _ | _
     all_goals
      try (have hxl : (t.kids.getD i T.zero).kids.length = 1 := (of_decide_eq_true hc).2.2.2.2)
      have hxs := kid_lt (t := t) (i := i) (by omega)
      refine rB ΦRRN_ok [1, 4, 5, 6, 42] (And.intro hc trE) fun K' hK => ?_
      repeat' first | (refine lf hK (And.intro hc trE) ?_; clear hK K') | with_reducible apply And.intro | refine sA (And.intro hc trE) (fun _ => ?_) fun _ => ?_ | refine sAb (And.intro hc trE) (fun _ => ?_) fun _ => ?_ | refine sAl (And.intro hc trE) (fun g => ?_) fun g => ?_ | exact sd | exact sde (And.intro hc trE) | exact sdp (And.intro hc trE) | refine stk (And.intro hc trE) ?_ | fail
      all_goals
       refine cn ?_ ?_
       ·intro h; try exact absurd h (by decide)
        try (exfalso; (try simp only [Bool.not_eq_eq_eq_not, Bool.not_true, Bool.not_false, decide_eq_false_iff_not, decide_eq_true_eq] at *); first | omega | (have g0 := g rfl; omega) | (simp_all; done))
        all_goals
         have hy := rrn_f (rrn_no2 (t := t) (i := i) (by omega) (fun hO => by first | exact absurd hc (by rw [decide_eq_true hO.1]; decide) | (have := hO.2.1; unfold kid at this; simp_all)))
         refine rg ΦRRN_ok [2, 3] trE ?_
         first
         | exact fz hy
       ·intro h; try exact absurd h (by decide)
        try (exfalso; (try simp only [Bool.not_eq_eq_eq_not, Bool.not_true, Bool.not_false, decide_eq_false_iff_not, decide_eq_true_eq] at *); first | omega | (have g0 := g rfl; omega) | (simp_all; done))
        all_goals
         have hA : hasT (t.kids.getD i T.zero) 0 17 1 := by
          first
          | exact of_decide_eq_true hc
          | (simp_all; done)
         have hxl : (t.kids.getD i T.zero).kids.length = 1 := hA.2.2.2.2
         have hP : hasT ((t.kids.getD i T.zero).kids.getD 0 T.zero) 0 16 2 := by first | assumption | (simp_all; done)
         have hpl : ((t.kids.getD i T.zero).kids.getD 0 T.zero).kids.length = 2 := hP.2.2.2.2
         have hps := kid_lt (t := (t.kids.getD i T.zero)) (i := 0) (by omega)
         have hks0 := kid_lt (t := ((t.kids.getD i T.zero).kids.getD 0 T.zero)) (i := 0) (by omega)
         have hqs := kid_lt (t := ((t.kids.getD i T.zero).kids.getD 0 T.zero)) (i := 1) (by omega)
         refine rg ΦRRN_ok [1, 4, 5, 6, 7] trE ?_
         refine rg ΦRRN_ok [1, 4, 5, 7, 8] trE ?_
         refine rg ΦRRN_ok [1, 4, 5, 7, 8, 9] trE ?_
         refine rg ΦRRN_ok [1, 4, 5, 7, 8, 9, 10] trE ?_
         refine nx ?_
         refine VC.loopP (ι := Nat × Int) [1, 4, 5, 6, 7, 8] (fun z => [(9, .dat (.int .i64 z.2)), (10, .dat (.int .i64 (z.1 : Int)))]) (fun z => [(1, .cells [.dat (.int .i64 t.cls), .dat (.int .i64 t.tag), .dat (.bool t.cons), .dat (.lst (bytesD t.bytes)), .dat (.lst (nodesD t.kids))] false), (2, .arr 52 3 (rdsD l) 0), (3, .cells [.dat (.int .i64 (t.kids.getD i T.zero).cls), .dat (.int .i64 (t.kids.getD i T.zero).tag), .dat (.bool (t.kids.getD i T.zero).cons), .dat (.lst (bytesD (t.kids.getD i T.zero).bytes)), .dat (.lst (nodesD (t.kids.getD i T.zero).kids))] false), (4, .cells [.dat (.int .i64 (((t.kids.getD i T.zero).kids.getD 0 T.zero).kids.getD 0 T.zero).cls), .dat (.int .i64 (((t.kids.getD i T.zero).kids.getD 0 T.zero).kids.getD 0 T.zero).tag), .dat (.bool (((t.kids.getD i T.zero).kids.getD 0 T.zero).kids.getD 0 T.zero).cons), .dat (.lst (bytesD (((t.kids.getD i T.zero).kids.getD 0 T.zero).kids.getD 0 T.zero).bytes)), .dat (.lst (nodesD (((t.kids.getD i T.zero).kids.getD 0 T.zero).kids.getD 0 T.zero).kids))] false), (5, .cells [.dat (.int .i64 (((t.kids.getD i T.zero).kids.getD 0 T.zero).kids.getD 1 T.zero).cls), .dat (.int .i64 (((t.kids.getD i T.zero).kids.getD 0 T.zero).kids.getD 1 T.zero).tag), .dat (.bool (((t.kids.getD i T.zero).kids.getD 0 T.zero).kids.getD 1 T.zero).cons), .dat (.lst (bytesD (((t.kids.getD i T.zero).kids.getD 0 T.zero).kids.getD 1 T.zero).bytes)), .dat (.lst (nodesD (((t.kids.getD i T.zero).kids.getD 0 T.zero).kids.getD 1 T.zero).kids))] false)]) (fun z => (1 ≤ z.1 ∧ z.1 ≤ 4) ∧ z.2 = whT (((t.kids.getD i T.zero).kids.getD 0 T.zero).kids.getD 0 T.zero) (z.1 - 1)) (fun z => 4 - z.1) (1, 0) ⟨by dsimp only; omega, rfl⟩ ?_ ?_
         ·refine Ent.to rfl rfl rfl ?_ ?_
          ·simp -implicitDefEqProofs only [go_sem, Nat.reduceLT, Nat.reduceAdd, Nat.reduceEqDiff, reduceIte, Nat.reduceMul, Nat.reduceSub, reduceCtorEq, Int.reduceNe, Int.reduceEq, ne_eq, Nat.reduceLeDiff, Nat.reduceMod, Nat.reduceDiv]; (try simp only [D.dat.injEq, Vm.Data.int.injEq, true_and, and_true, and_self, eq_self]); (try omega); (try ((repeat' apply And.intro) <;> first | omega | rfl))
          ·(repeat' (first | exact all_nil | (refine all_cons ?_ ?_))) <;> (simp -implicitDefEqProofs only [go_sem, Nat.reduceLT, Nat.reduceAdd, Nat.reduceEqDiff, reduceIte, Nat.reduceMul, Nat.reduceSub, reduceCtorEq, Int.reduceNe, Int.reduceEq, ne_eq, Nat.reduceLeDiff, Nat.reduceMod, Nat.reduceDiv]; (try rfl); skip)
         rintro ⟨k, w⟩ hk; (try dsimp only at hk); obtain ⟨hk1, hk2⟩ := hk
         refine st0 ?_
         refine rg ΦRRN_ok [1, 4, 5, 6, 7, 8, 9, 10, 58] trE ?_
         refine cn ?_ ?_
         ·intro h; try exact absurd h (by decide)
          try (exfalso; (try simp only [Bool.not_eq_eq_eq_not, Bool.not_true, Bool.not_false, decide_eq_false_iff_not, decide_eq_true_eq] at *); first | omega | (have g0 := g rfl; omega) | (simp_all; done))
          all_goals
           have hks := kind_same (k := (k : Int)) (by omega)
           refine rd ΦRRN_ok 5 [1, 4, 5, 6, 7, 8, 9, 10, 11] (And.intro hks trE) ?_
           refine rg ΦRRN_ok [1, 4, 5, 6, 7, 8, 9, 10, 66] trE ?_
           refine cn ?_ ?_
           ·intro h; try exact absurd h (by decide)
            try (exfalso; (try simp only [Bool.not_eq_eq_eq_not, Bool.not_true, Bool.not_false, decide_eq_false_iff_not, decide_eq_true_eq] at *); first | omega | (have g0 := g rfl; omega) | (simp_all; done))
            all_goals
             have hkk : (((t.kids.getD i T.zero).kids.getD 0 T.zero).kids.getD 0 T.zero) = primT 6 (namedB (kindN (k : Int))) := by simp_all
             refine rgL ΦRRN_ok trE ?_
             refine rgL ΦRRN_ok trE ?_
             refine nx ?_
             refine ⟨(k + 1, (k : Int)), ⟨by dsimp only; omega, by dsimp only; exact (whT_hit (by omega) hkk).symm⟩, Ent.to rfl rfl rfl ?_ ?_, by dsimp only; omega⟩
             ·simp -implicitDefEqProofs only [go_sem, Nat.reduceLT, Nat.reduceAdd, Nat.reduceEqDiff, reduceIte, Nat.reduceMul, Nat.reduceSub, reduceCtorEq, Int.reduceNe, Int.reduceEq, ne_eq, Nat.reduceLeDiff, Nat.reduceMod, Nat.reduceDiv]; (try simp only [D.dat.injEq, Vm.Data.int.injEq, true_and, and_true, and_self, eq_self]); (try omega); (try ((repeat' apply And.intro) <;> first | omega | rfl))
             ·(repeat' (first | exact all_nil | (refine all_cons ?_ ?_))) <;> (simp -implicitDefEqProofs only [go_sem, Nat.reduceLT, Nat.reduceAdd, Nat.reduceEqDiff, reduceIte, Nat.reduceMul, Nat.reduceSub, reduceCtorEq, Int.reduceNe, Int.reduceEq, ne_eq, Nat.reduceLeDiff, Nat.reduceMod, Nat.reduceDiv]; (try rfl); skip)
           ·intro h; try exact absurd h (by decide)
            try (exfalso; (try simp only [Bool.not_eq_eq_eq_not, Bool.not_true, Bool.not_false, decide_eq_false_iff_not, decide_eq_true_eq] at *); first | omega | (have g0 := g rfl; omega) | (simp_all; done))
            all_goals
             have hkk : ¬ (((t.kids.getD i T.zero).kids.getD 0 T.zero).kids.getD 0 T.zero) = primT 6 (namedB (kindN (k : Int))) := by simp_all
             refine rgL ΦRRN_ok trE ?_
             refine nx ?_
             refine ⟨(k + 1, w), ⟨by dsimp only; omega, by dsimp only; rw [show k + 1 - 1 = k by omega, whT_miss (by omega) hkk]; exact hk2⟩, Ent.to rfl rfl rfl ?_ ?_, by dsimp only; omega⟩
             ·simp -implicitDefEqProofs only [go_sem, Nat.reduceLT, Nat.reduceAdd, Nat.reduceEqDiff, reduceIte, Nat.reduceMul, Nat.reduceSub, reduceCtorEq, Int.reduceNe, Int.reduceEq, ne_eq, Nat.reduceLeDiff, Nat.reduceMod, Nat.reduceDiv]; (try simp only [D.dat.injEq, Vm.Data.int.injEq, true_and, and_true, and_self, eq_self]); (try omega); (try ((repeat' apply And.intro) <;> first | omega | rfl))
             ·(repeat' (first | exact all_nil | (refine all_cons ?_ ?_))) <;> (simp -implicitDefEqProofs only [go_sem, Nat.reduceLT, Nat.reduceAdd, Nat.reduceEqDiff, reduceIte, Nat.reduceMul, Nat.reduceSub, reduceCtorEq, Int.reduceNe, Int.reduceEq, ne_eq, Nat.reduceLeDiff, Nat.reduceMod, Nat.reduceDiv]; (try rfl); skip)
         ·intro h; try exact absurd h (by decide)
          try (exfalso; (try simp only [Bool.not_eq_eq_eq_not, Bool.not_true, Bool.not_false, decide_eq_false_iff_not, decide_eq_true_eq] at *); first | omega | (have g0 := g rfl; omega) | (simp_all; done))
          all_goals
           have hk4 : k = 4 := by omega
           have hwK : w = whichK (((t.kids.getD i T.zero).kids.getD 0 T.zero).kids.getD 0 T.zero) := by rw [hk2, hk4]; exact whT_3 _
           refine rB ΦRRN_ok [1, 4, 5, 8, 9, 79] trE fun K' hK => ?_
           repeat' first | (refine lf hK trE ?_; clear hK K') | with_reducible apply And.intro | refine sA trE (fun _ => ?_) fun _ => ?_ | refine sAb trE (fun _ => ?_) fun _ => ?_ | refine sAl trE (fun g => ?_) fun g => ?_ | exact sd | exact sde trE | exact sdp trE | refine stk trE ?_ | fail
           all_goals
            refine cn ?_ ?_
            ·intro h; try exact absurd h (by decide)
             try (exfalso; (try simp only [Bool.not_eq_eq_eq_not, Bool.not_true, Bool.not_false, decide_eq_false_iff_not, decide_eq_true_eq] at *); first | omega | (have g0 := g rfl; omega) | (simp_all; done))
             all_goals
              have hy := rrn_f (rrn_no2 (t := t) (i := i) (by omega) (fun hO => by
               obtain ⟨_, _, h3, h4⟩ := hO
               unfold kid at h3 h4
               rw [← hwK] at h3
               simp_all))
              refine rg ΦRRN_ok [2, 3] trE ?_
              first
              | exact fz hy
            ·intro h; try exact absurd h (by decide)
             try (exfalso; (try simp only [Bool.not_eq_eq_eq_not, Bool.not_true, Bool.not_false, decide_eq_false_iff_not, decide_eq_true_eq] at *); first | omega | (have g0 := g rfl; omega) | (simp_all; done))
             all_goals
              have hw0 : ¬ whichK (((t.kids.getD i T.zero).kids.getD 0 T.zero).kids.getD 0 T.zero) = 0 := by rw [← hwK]; first | assumption | (simp_all; done)
              have hO : okRd (t.kids.getD i T.zero) := ⟨hA, hP, hw0, by unfold kid; first | (left; assumption) | (right; assumption) | (simp_all; done)⟩
              have hw : w = (rdOf (t.kids.getD i T.zero)).kind := by rw [hwK]; exact (okRd_kind hw0).symm
              refine rgL ΦRRN_ok trE ?_
              refine rgL ΦRRN_ok trE ?_
              refine nx ?_
              refine ⟨(i + 1, l ++ [rdOf (t.kids.getD i T.zero)]), ⟨by dsimp only; omega, fun j hj => ?_, by dsimp only; rw [hl]; exact rdO_take (by omega)⟩, Ent.to rfl rfl rfl ?_ ?_, by dsimp only; omega⟩
              ·rcases Nat.lt_succ_iff_lt_or_eq.1 hj with hj | rfl
               ·exact hok j hj
               ·exact hO
              ·simp -implicitDefEqProofs only [go_sem, Nat.reduceLT, Nat.reduceAdd, Nat.reduceEqDiff, reduceIte, Nat.reduceMul, Nat.reduceSub, reduceCtorEq, Int.reduceNe, Int.reduceEq, ne_eq, Nat.reduceLeDiff, Nat.reduceMod, Nat.reduceDiv]; (try simp only [List.length_append, List.length_cons, List.length_nil]); (try simp only [D.dat.injEq, Vm.Data.int.injEq, true_and, and_true, and_self, eq_self]); (try omega); (try ((repeat' apply And.intro) <;> first | omega | rfl))
              ·(repeat' (first | exact all_nil | (refine all_cons ?_ ?_))) <;> (simp -implicitDefEqProofs only [go_sem, Nat.reduceLT, Nat.reduceAdd, Nat.reduceEqDiff, reduceIte, Nat.reduceMul, Nat.reduceSub, reduceCtorEq, Int.reduceNe, Int.reduceEq, ne_eq, Nat.reduceLeDiff, Nat.reduceMod, Nat.reduceDiv]; (try rfl); (try simp only [rdO_row hw]); (try rfl))
   ·intro h; try exact absurd h (by decide)
    try (exfalso; (try simp only [Bool.not_eq_eq_eq_not, Bool.not_true, Bool.not_false, decide_eq_false_iff_not, decide_eq_true_eq] at *); first | omega | (have g0 := g rfl; omega) | (simp_all; done))
    all_goals
     have hlx : l = rnN t := hl.trans (rdO_all (by omega))
     have hBl : nmB l := by rw [hlx]; exact hB
     have hB1 := hBl.1
     have hB2 := hBl.2
     have hBB : nmB l = True := eq_true hBl
     refine rg ΦRRN_ok [4, 13] (And.intro hBB trE) ?_
     refine rg ΦRRN_ok [4, 97] trE ?_
     refine cn ?_ ?_
     ·intro h; try exact absurd h (by decide)
      try (exfalso; (try simp only [Bool.not_eq_eq_eq_not, Bool.not_true, Bool.not_false, decide_eq_false_iff_not, decide_eq_true_eq] at *); first | omega | (have g0 := g rfl; omega) | (simp_all; done))
      all_goals
       have hy := rrn_f (rrn_no3 (t := t) (by rw [← hlx]; simp_all))
       refine rg ΦRRN_ok [2, 3] trE ?_
       first
       | exact fz hy
     ·intro h; try exact absurd h (by decide)
      try (exfalso; (try simp only [Bool.not_eq_eq_eq_not, Bool.not_true, Bool.not_false, decide_eq_false_iff_not, decide_eq_true_eq] at *); first | omega | (have g0 := g rfl; omega) | (simp_all; done))
      all_goals
       have hy0 := rrn_t (rrn_yes (t := t) hH (fun j hj => hok j (by omega)) (by rw [← hlx]; simp_all))
       have hy := hy0
       rw [← hlx] at hy
       refine rg ΦRRN_ok [2, 3] trE ?_
       first
       | exact fz hy)
end Go.Proofs.YtpajpkbipagjpaaGreatDoor.Oc
namespace Go.Proofs.YtpajpkbipagjpaaGreatDoor.Oc
open Go Go.RowKit Go.Proofs.YtpajpkbipagjpaaGreatDoor.Vm Go.Proofs.YtpajpkbipagjpaaGreatDoor.Tr Go.IntWalk
set_option maxRecDepth 100000
set_option maxHeartbeats 4000000
theorem rds_eq {a b : List Rd} (hl : (a.length : Int) = b.length) (h : ∀ j, j < a.length → a.getD j Rd.zero = b.getD j Rd.zero) : a = b := by
 refine List.ext_getElem (by omega) fun j h1 h2 => ?_
 have := h j h1
 simpa [List.getD_eq_getElem?_getD, List.getElem?_eq_getElem h1, List.getElem?_eq_getElem h2] using this
theorem rd_same {a b : Rd} (h1 : a.kind = b.kind) (h2 : a.text = b.text) (h3 : a.print = b.print) : a = b := by cases a; cases b; simp_all
@[go_sem] noncomputable def rnamesF : PFn := PF [SRs, SRs] (fun (a : List Rd) (b : List Rd) => a.length ≤ 4611686018427387904) (fun (a : List Rd) (b : List Rd) => [.bool (decide (a = b))])
theorem rnames_ok : Pure E 29 rnamesF := Pure.of_sig (rs := [.tmp 4]) (n := 26) Tryz.func29 rfl rfl rfl (Nat.le_of_ble_eq_true rfl) (by
 intro (a : List Rd) (b : List Rd) hds
 refine st0 ?_
 refine rg sound_nil [0, 1] trivial ?_
 refine rg sound_nil [0, 1, 10] trivial ?_
 refine cn ?_ ?_
 ·intro h; try exact absurd h (by decide)
  all_goals
   have hy : decide (a = b) = false := decide_eq_false (by rintro rfl; simp_all)
   refine rg sound_nil [4] trivial ?_
   first
   | exact fz hy
 ·intro h; try exact absurd h (by decide)
  all_goals
   refine rg sound_nil [0, 1, 5] trivial ?_
   refine nx ?_
   refine VC.loopP (ι := Nat) [0, 1] (fun i => [(5, .dat (.int .i64 (i : Int)))]) (fun _ => []) (fun i => i ≤ a.length ∧ ∀ j, j < i → a.getD j Rd.zero = b.getD j Rd.zero) (fun i => a.length - i) 0 (⟨Nat.zero_le _, fun j hj => by omega⟩) (et) ?_
   rintro i hp; try dsimp only at hp
   refine st0 ?_
   refine rg sound_nil [0, 1, 5, 14] trivial ?_
   refine cn ?_ ?_
   ·intro h; try exact absurd h (by decide)
    all_goals
     have ra := rdsD_at (l := a) (k := i) (by omega)
     have rb := rdsD_at (l := b) (k := i) (by omega)
     refine rd sound_nil 9 [0, 1, 5, 25] (And.intro ra rb) ?_
     refine cn ?_ ?_
     ·intro h; try exact absurd h (by decide)
      all_goals
       have hy : decide (a = b) = false := decide_eq_false (by rintro rfl; simp at h)
       refine rg sound_nil [4] trivial ?_
       first
       | exact fz hy
     ·intro h; try exact absurd h (by decide)
      all_goals
       refine rgL sound_nil trivial ?_
       refine nx ?_
       exact ⟨i + 1, ⟨by omega, fun j hj => by
        rcases Nat.lt_succ_iff_lt_or_eq.1 hj with hj | rfl
        ·exact hp.2 j hj
        ·simp at h; exact rd_same h.1 h.2.1 h.2.2⟩, et, by omega⟩
   ·intro h; try exact absurd h (by decide)
    all_goals
     have hy : decide (a = b) = true := decide_eq_true (rds_eq (by simp_all) fun j hj => hp.2 j (by omega))
     refine rg sound_nil [4] trivial ?_
     first
     | exact fz hy)
end Go.Proofs.YtpajpkbipagjpaaGreatDoor.Oc
namespace Go.Proofs.YtpajpkbipagjpaaGreatDoor.Oc
open Go Go.RowKit Go.Proofs.YtpajpkbipagjpaaGreatDoor.Vm Go.Proofs.YtpajpkbipagjpaaGreatDoor.Tr Go.IntWalk
set_option maxRecDepth 100000
set_option maxHeartbeats 4000000
end Go.Proofs.YtpajpkbipagjpaaGreatDoor.Oc
namespace Go.Proofs.YtpajpkbipagjpaaGreatDoor.Oc
open Go Go.RowKit Go.Proofs.YtpajpkbipagjpaaGreatDoor.Vm Go.Proofs.YtpajpkbipagjpaaGreatDoor.Tr Go.IntWalk
set_option maxRecDepth 100000
set_option maxHeartbeats 4000000
end Go.Proofs.YtpajpkbipagjpaaGreatDoor.Oc
namespace Go.Proofs.YtpajpkbipagjpaaGreatDoor.Oc
open Go Go.RowKit Go.Proofs.YtpajpkbipagjpaaGreatDoor.Vm Go.Proofs.YtpajpkbipagjpaaGreatDoor.Tr Go.IntWalk
set_option maxRecDepth 100000
set_option maxHeartbeats 4000000
end Go.Proofs.YtpajpkbipagjpaaGreatDoor.Oc
namespace Go.Proofs.YtpajpkbipagjpaaGreatDoor.Oc
open Go Go.RowKit Go.Proofs.YtpajpkbipagjpaaGreatDoor.Vm Go.Proofs.YtpajpkbipagjpaaGreatDoor.Tr Go.IntWalk
set_option maxRecDepth 100000
set_option maxHeartbeats 4000000
theorem eqT : (∀ t : T, (t = t) = True) ∧ decide True = true ∧ (∀ i : Int, (i = i) = True) ∧ (∀ b : Bool, (b = b) = True) := ⟨fun _ => eq_self _, rfl, fun _ => eq_self _, fun _ => eq_self _⟩
end Go.Proofs.YtpajpkbipagjpaaGreatDoor.Oc
namespace Go.Proofs.YtpajpkbipagjpaaGreatDoor.Oc
open Go Go.RowKit Go.Proofs.YtpajpkbipagjpaaGreatDoor.Vm Go.Proofs.YtpajpkbipagjpaaGreatDoor.Tr Go.IntWalk
set_option maxRecDepth 100000
set_option maxHeartbeats 4000000
theorem rR_f {t : T} (h : riOk t = false) : (rriN t).hash = 0 ∧ (rriN t).null = false ∧ (rriN t).dig = [] ∧ rriE t = 200 ∧ bytesD [] = [] := rri_f ((ri_eq t).trans h)
theorem rR_t {t : T} (h : riOk t = true) : (rriN t).hash = (if rdOk (t.kids.getD 0 T.zero) = true then rdH (t.kids.getD 0 T.zero) else 0) ∧ (rriN t).null = (if rdOk (t.kids.getD 0 T.zero) = true then rdN (t.kids.getD 0 T.zero) else false) ∧ (rriN t).dig = (t.kids.getD 1 T.zero).bytes ∧ rriE t = 0 := by
 obtain ⟨a, b, c, d⟩ := rri_t ((ri_eq t).trans h)
 obtain ⟨e1, e2, _⟩ := rr_eq (t.kids.getD 0 T.zero)
 exact ⟨a.trans e1.symm, b.trans e2.symm, c, d⟩
theorem rN_eq (t : T) : prnN t = rrnN t ∧ prnE t = rrnE t := by
 unfold prnN prnE rrnN rrnE; rw [rn_eq]; exact ⟨rfl, rfl⟩
theorem prnN_len (t : T) : (prnN t).length ≤ t.sz := by
 have := kids_len t
 unfold prnN
 split
 ·unfold rnN; rw [List.length_map]; omega
 ·simp
theorem bytes_set {l : List UInt8} {k : Nat} : ∀ (v : Int), (bytesD l).set k [.int .u8 (IntKind.u8.wrap v)] = bytesD (l.set k (byI v)) := by
 intro v
 rw [wrap8]
 unfold bytesD
 rw [List.map_set]
theorem ri_facts {t : T} (h : riOk t = true) : t.kids.length = 2 ∧ ¬ sizeH (rdH (t.kids.getD 0 T.zero)) = 0 ∧ ((t.kids.getD 1 T.zero).bytes.length : Int) = sizeH (rdH (t.kids.getD 0 T.zero)) ∧ seqT [hashT (rdH (t.kids.getD 0 T.zero)) (rdN (t.kids.getD 0 T.zero)), primT 4 (t.kids.getD 1 T.zero).bytes] = t ∧ rdOk (t.kids.getD 0 T.zero) = true := by
 unfold riOk at h
 rw [Bool.and_eq_true] at h
 obtain ⟨h1, h2⟩ := h
 have h3 : ¬ sizeH (imOf t).hash = 0 ∧ ((imOf t).dig.length : Int) = sizeH (imOf t).hash := of_decide_eq_true h1
 have h4 := of_decide_eq_true h2
 rw [(imp_yes (x := imOf t) h3.1 h3.2).1] at h4
 have hd : rdOk (t.kids.getD 0 T.zero) = true := by
  cases hd : rdOk (t.kids.getD 0 T.zero) with
  | true => rfl
  | false =>
    have : ¬ sizeH (if rdOk (t.kids.getD 0 T.zero) = true then rdH (t.kids.getD 0 T.zero) else 0) = 0 := h3.1
    rw [hd] at this
    exact absurd rfl this
 have e1 : (imOf t).hash = rdH (t.kids.getD 0 T.zero) := if_pos hd
 have e2 : (imOf t).null = rdN (t.kids.getD 0 T.zero) := if_pos hd
 rw [e1, e2] at h4
 rw [e1] at h3
 exact ⟨by rw [← h4]; rfl, h3.1, h3.2, h4, hd⟩
theorem shB_nm {n : List Rd} (hn : n.length ≤ 100) (h : ∀ j, j < n.length → (n.getD j Rd.zero).text.length ≤ 200) : nmB n := by
 refine ⟨by omega, fun j => ?_⟩
 rcases Nat.lt_or_ge j n.length with hj | hj
 ·have := h j hj; omega
 ·rw [List.getD_eq_getElem?_getD, List.getElem?_eq_none hj]; simp [Rd.zero]
noncomputable def ΦLP : Fns := tab [(10, wideF), (21, bname_1F), (22, rbnameF), (23, bimpF), (27, rimpF), (24, rbimpF), (15, rsame0F), (16, twin0F), (25, rname_1F), (26, rrnameF), (28, rrimpF), (29, rnamesF)]
theorem ΦLP_ok : Sound E1 ΦLP := sound_cons (by kernel_rfl) (lift1 wide_ok) (sound_cons (by kernel_rfl) bname_1_ok (sound_cons (by kernel_rfl) (lift1 rbname_ok) (sound_cons (by kernel_rfl) (lift1 bimp_ok) (sound_cons (by kernel_rfl) (lift1 rimp_ok) (sound_cons (by kernel_rfl) (lift1 rbimp_ok) (sound_cons (by kernel_rfl) (lift1 rsame0_ok) (sound_cons (by kernel_rfl) (lift1 twin0_ok) (sound_cons (by kernel_rfl) rname_1_ok (sound_cons (by kernel_rfl) (lift1 rrname_ok) (sound_cons (by kernel_rfl) (lift1 rrimp_ok) (sound_cons (by kernel_rfl) (lift1 rnames_ok) (sound_nil))))))))))))
@[go_sem] theorem ΦLP_r : ΦLP 10 = some wideF ∧ ΦLP 21 = some bname_1F ∧ ΦLP 22 = some rbnameF ∧ ΦLP 23 = some bimpF ∧ ΦLP 27 = some rimpF ∧ ΦLP 24 = some rbimpF ∧ ΦLP 15 = some rsame0F ∧ ΦLP 16 = some twin0F ∧ ΦLP 25 = some rname_1F ∧ ΦLP 26 = some rrnameF ∧ ΦLP 28 = some rrimpF ∧ ΦLP 29 = some rnamesF := ⟨rfl, rfl, rfl, rfl, rfl, rfl, rfl, rfl, rfl, rfl, rfl, rfl⟩
noncomputable def ΦLP2 : Fns := tab [(17, rdhalgF), (76, same0F), (11, halgF), (58, sizeF), (62, cseqF)]
theorem ΦLP2_ok : Sound E1 ΦLP2 := sound_cons (by kernel_rfl) (lift1 rdhalg_ok) (sound_cons (by kernel_rfl) (lift1 same0_ok) (sound_cons (by kernel_rfl) (lift1 halg_ok) (sound_cons (by kernel_rfl) (lift1 size_ok) (sound_cons (by kernel_rfl) (lift1 cseq_ok) (sound_nil)))))
@[go_sem] theorem ΦLP2_r : ΦLP2 17 = some rdhalgF ∧ ΦLP2 76 = some same0F ∧ ΦLP2 11 = some halgF ∧ ΦLP2 58 = some sizeF ∧ ΦLP2 62 = some cseqF ∧ ΦLP2 27 = none ∧ ΦLP2 23 = none ∧ ΦLP2 72 = none ∧ ΦLP2 73 = none ∧ ΦLP2 88 = none ∧ ΦLP2 61 = none ∧ ΦLP2 109 = none := ⟨rfl, rfl, rfl, rfl, rfl, rfl, rfl, rfl, rfl, rfl, rfl, rfl⟩
@[go_sem] theorem ΦLP2_c : callable Tryz.prog 27 = true ∧ callable Tryz.prog 23 = true ∧ callable Tryz.prog 72 = true ∧ callable Tryz.prog 73 = true ∧ callable Tryz.prog 88 = true ∧ callable Tryz.prog 61 = true ∧ callable Tryz.prog 109 = true := ⟨by kernel_rfl, by kernel_rfl, by kernel_rfl, by kernel_rfl, by kernel_rfl, by kernel_rfl, by kernel_rfl⟩
@[go_sem] noncomputable def lparts_1F : PFn := PF [SRs, SIm, ST] (fun (n : List Rd) (x : Im) (t : T) => n.length ≤ 1048576 ∧ x.dig.length ≤ 1048576 ∧ t.sz ≤ 1048576) (fun (n : List Rd) (x : Im) (t : T) => [.bool true])
theorem lparts_1_ok : Pure E1 4 lparts_1F := Pure.of_sig (rs := [.tmp 6]) (n := 189) Tryz.func4 rfl rfl rfl (Nat.le_of_ble_eq_true rfl) (by
 intro (n : List Rd) (x : Im) (t : T) hds
 obtain ⟨hn0, hx0, ht0⟩ := hds
 refine st0 ?_
 refine rg ΦLP_ok [0, 4, 5] (And.intro trE eqT) ?_
 refine rB ΦLP_ok [0, 4, 5, 40] (And.intro trE eqT) fun K' hK => ?_
 repeat' first | (refine lf hK (And.intro trE eqT) ?_; clear hK K') | with_reducible apply And.intro | refine sA (And.intro trE eqT) (fun _ => ?_) fun _ => ?_ | refine sAb (And.intro trE eqT) (fun _ => ?_) fun _ => ?_ | refine sAl (And.intro trE eqT) (fun g => ?_) fun g => ?_ | exact sd | exact sde (And.intro trE eqT) | exact sdp (And.intro trE eqT) | refine stk (And.intro trE eqT) ?_ | fail
 all_goals
  refine cn ?_ ?_
  ·intro h; try exact absurd h (by decide)
   try (exfalso; (try simp only [Bool.not_eq_eq_eq_not, Bool.not_true, Bool.not_false, decide_eq_false_iff_not, decide_eq_true_eq] at *); first | omega | (have g0 := g rfl; omega) | (simp_all; done))
   all_goals
    refine rg ΦLP_ok [6] (And.intro trE eqT) ?_
    first
    | exact fz (And.intro trE eqT)
  ·intro h; try exact absurd h (by decide)
   try (exfalso; (try simp only [Bool.not_eq_eq_eq_not, Bool.not_true, Bool.not_false, decide_eq_false_iff_not, decide_eq_true_eq] at *); first | omega | (have g0 := g rfl; omega) | (simp_all; done))
   all_goals
    have hn : n.length ≤ 100 := by
     (try simp only [Bool.not_eq_eq_eq_not, Bool.not_true, Bool.not_false, decide_eq_false_iff_not, decide_eq_true_eq] at *)
     omega
    have hxd : x.dig.length ≤ 200 := by
     (try simp only [Bool.not_eq_eq_eq_not, Bool.not_true, Bool.not_false, decide_eq_false_iff_not, decide_eq_true_eq] at *)
     omega
    have ht : t.sz ≤ 5000 := by
     (try simp only [Bool.not_eq_eq_eq_not, Bool.not_true, Bool.not_false, decide_eq_false_iff_not, decide_eq_true_eq] at *)
     omega
    refine rg ΦLP_ok [0, 4, 5, 42, 43] (And.intro trE eqT) ?_
    refine nx ?_
    refine VC.loopP (ι := Nat) [0, 4, 5, 42] (fun i => [(43, .dat (.int .i64 (i : Int)))]) (fun _ => [(1, .cells [.dat (.int .i64 x.hash), .dat (.bool x.null), .dat (.lst (bytesD x.dig))] false), (2, .cells [.dat (.int .i64 t.cls), .dat (.int .i64 t.tag), .dat (.bool t.cons), .dat (.lst (bytesD t.bytes)), .dat (.lst (nodesD t.kids))] false)]) (fun i => i ≤ n.length ∧ ∀ j, j < i → (n.getD j Rd.zero).text.length ≤ 200) (fun i => n.length - i) 0 ⟨Nat.zero_le _, fun j hj => absurd hj (Nat.not_lt_zero _)⟩ ?_ ?_
    ·refine Ent.to rfl rfl rfl ?_ ?_
     ·simp -implicitDefEqProofs only [go_sem, Nat.reduceLT, Nat.reduceAdd, Nat.reduceEqDiff, reduceIte, Nat.reduceMul, Nat.reduceSub, reduceCtorEq, Int.reduceNe, Int.reduceEq, ne_eq, Nat.reduceLeDiff, Nat.reduceMod, Nat.reduceDiv]; (try simp only [D.dat.injEq, Vm.Data.int.injEq, true_and, and_true, and_self, eq_self]); (try omega); (try ((repeat' apply And.intro) <;> first | omega | rfl))
     ·(repeat' (first | exact all_nil | (refine all_cons ?_ ?_))) <;> (simp -implicitDefEqProofs only [go_sem, Nat.reduceLT, Nat.reduceAdd, Nat.reduceEqDiff, reduceIte, Nat.reduceMul, Nat.reduceSub, reduceCtorEq, Int.reduceNe, Int.reduceEq, ne_eq, Nat.reduceLeDiff, Nat.reduceMod, Nat.reduceDiv]; (try rfl); skip)
    intro i hp; try dsimp only at hp
    refine st0 ?_
    refine rg ΦLP_ok [0, 4, 5, 42, 43, 44] (And.intro trE eqT) ?_
    refine cn ?_ ?_
    ·intro h; try exact absurd h (by decide)
     try (exfalso; (try simp only [Bool.not_eq_eq_eq_not, Bool.not_true, Bool.not_false, decide_eq_false_iff_not, decide_eq_true_eq] at *); first | omega | (have g0 := g rfl; omega) | (simp_all; done))
     all_goals
      refine rg ΦLP_ok [0, 4, 5, 7, 42, 43] (And.intro trE eqT) ?_
      have ri := rdsD_at (l := n) (k := i) (by omega)
      refine rg ΦLP_ok [0, 4, 5, 42, 43, 52] ri ?_
      refine cn ?_ ?_
      ·intro h; try exact absurd h (by decide)
       try (exfalso; (try simp only [Bool.not_eq_eq_eq_not, Bool.not_true, Bool.not_false, decide_eq_false_iff_not, decide_eq_true_eq] at *); first | omega | (have g0 := g rfl; omega) | (simp_all; done))
       all_goals
        refine rg ΦLP_ok [6] (And.intro trE eqT) ?_
        first
        | exact fz (And.intro trE eqT)
      ·intro h; try exact absurd h (by decide)
       try (exfalso; (try simp only [Bool.not_eq_eq_eq_not, Bool.not_true, Bool.not_false, decide_eq_false_iff_not, decide_eq_true_eq] at *); first | omega | (have g0 := g rfl; omega) | (simp_all; done))
       all_goals
        refine rgL ΦLP_ok (And.intro trE eqT) ?_
        refine nx ?_
        refine ⟨i + 1, ⟨by omega, fun j hj => ?_⟩, Ent.to rfl rfl rfl ?_ ?_, by omega⟩
        ·rcases Nat.lt_succ_iff_lt_or_eq.1 hj with hj | rfl
         ·exact hp.2 j hj
         ·omega
        ·simp -implicitDefEqProofs only [go_sem, Nat.reduceLT, Nat.reduceAdd, Nat.reduceEqDiff, reduceIte, Nat.reduceMul, Nat.reduceSub, reduceCtorEq, Int.reduceNe, Int.reduceEq, ne_eq, Nat.reduceLeDiff, Nat.reduceMod, Nat.reduceDiv]; (try simp only [D.dat.injEq, Vm.Data.int.injEq, true_and, and_true, and_self, eq_self]); (try omega); (try ((repeat' apply And.intro) <;> first | omega | rfl))
        ·(repeat' (first | exact all_nil | (refine all_cons ?_ ?_))) <;> (simp -implicitDefEqProofs only [go_sem, Nat.reduceLT, Nat.reduceAdd, Nat.reduceEqDiff, reduceIte, Nat.reduceMul, Nat.reduceSub, reduceCtorEq, Int.reduceNe, Int.reduceEq, ne_eq, Nat.reduceLeDiff, Nat.reduceMod, Nat.reduceDiv]; (try rfl); skip)
    ·intro h; try exact absurd h (by decide)
     try (exfalso; (try simp only [Bool.not_eq_eq_eq_not, Bool.not_true, Bool.not_false, decide_eq_false_iff_not, decide_eq_true_eq] at *); first | omega | (have g0 := g rfl; omega) | (simp_all; done))
     all_goals
      have hB : nmB n = True := eq_true (shB_nm hn fun j hj => hp.2 j (by omega))
      have hns := nameT_sz n
      have his := impT_sz (x := x) (by omega)
      refine rg ΦLP_ok [0, 4, 5, 8, 9] (And.intro hB (And.intro trE eqT)) ?_
      refine rg ΦLP_ok [4, 5, 8, 9, 10, 11] (And.intro hB (And.intro trE eqT)) ?_
      refine rg ΦLP_ok [4, 5, 8, 9, 10, 11, 12] (And.intro trE eqT) ?_
      refine rg ΦLP_ok [4, 5, 8, 9, 10, 11, 12] (And.intro trE eqT) ?_
      refine rg ΦLP_ok [4, 5, 8, 9, 10, 11, 12, 13, 14] (And.intro trE eqT) ?_
      refine rg ΦLP_ok [4, 5, 8, 9, 10, 11, 12, 13, 14, 15, 16] (And.intro trE eqT) ?_
      refine rB ΦLP_ok [5, 110] (And.intro trE eqT) fun K' hK => ?_
      repeat' first | (refine lf hK (And.intro trE eqT) ?_; clear hK K') | with_reducible apply And.intro | refine sA (And.intro trE eqT) (fun _ => ?_) fun _ => ?_ | refine sAb (And.intro trE eqT) (fun _ => ?_) fun _ => ?_ | refine sAl (And.intro trE eqT) (fun g => ?_) fun g => ?_ | exact sd | exact sde (And.intro trE eqT) | exact sdp (And.intro trE eqT) | refine stk (And.intro trE eqT) ?_ | fail
      all_goals
       refine cn ?_ ?_
       ·intro h; try exact absurd h (by decide)
        try (exfalso; (try simp only [Bool.not_eq_eq_eq_not, Bool.not_true, Bool.not_false, decide_eq_false_iff_not, decide_eq_true_eq] at *); first | omega | (have g0 := g rfl; omega) | (simp_all; done))
        all_goals
         refine rg ΦLP_ok [6] (And.intro trE eqT) ?_
         first
         | exact fz (And.intro trE eqT)
       ·intro h; try exact absurd h (by decide)
        try (exfalso; (try simp only [Bool.not_eq_eq_eq_not, Bool.not_true, Bool.not_false, decide_eq_false_iff_not, decide_eq_true_eq] at *); first | omega | (have g0 := g rfl; omega) | (simp_all; done))
        all_goals
         refine rg ΦLP_ok [5, 17] (And.intro trE eqT) ?_
         have hpn := prnN_len t
         have hNE := rN_eq t
         have hpn2 : (rrnN t).length ≤ t.sz := by rw [← hNE.1]; exact hpn
         refine rg ΦLP_ok [5, 17, 18, 19] (And.intro trE eqT) ?_
         refine rg ΦLP_ok [5, 17, 18, 19, 20, 21] (And.intro trE eqT) ?_
         have hB : riOk t = false ∨ riOk t = true := by cases riOk t <;> simp
         rcases hB with hr | hr
         ·have hR := And.intro (pri_f hr) (rR_f hr)
          refine rg ΦLP_ok [5, 17, 18, 19, 20, 21, 22, 23] (And.intro hR (And.intro trE eqT)) ?_
          refine rg ΦLP_ok [5, 17, 18, 19, 20, 21, 22, 23, 24, 25] (And.intro trE eqT) ?_
          refine rB ΦLP_ok [5, 17, 18, 19, 20, 21, 22, 23, 25, 26] (And.intro hR (And.intro trE eqT)) fun K' hK => ?_
          repeat' first | (refine lf hK (And.intro hR (And.intro trE eqT)) ?_; clear hK K') | with_reducible apply And.intro | refine sA (And.intro hR (And.intro trE eqT)) (fun _ => ?_) fun _ => ?_ | refine sAb (And.intro hR (And.intro trE eqT)) (fun _ => ?_) fun _ => ?_ | refine sAl (And.intro hR (And.intro trE eqT)) (fun g => ?_) fun g => ?_ | exact sd | exact sde (And.intro hR (And.intro trE eqT)) | exact sdp (And.intro hR (And.intro trE eqT)) | refine stk (And.intro hR (And.intro trE eqT)) ?_ | fail
          all_goals
           refine rg ΦLP_ok [5, 17, 18, 19, 20, 21, 22, 23, 25, 26, 156, 157] (And.intro trE eqT) ?_
           refine nx ?_
           refine VC.loopP (ι := Unit) [5, 17, 18, 19, 20, 21, 22, 23, 25, 26, 156, 157] (fun _ => []) (fun _ => [(2, .cells [.dat (.int .i64 t.cls), .dat (.int .i64 t.tag), .dat (.bool t.cons), .dat (.lst (bytesD t.bytes)), .dat (.lst (nodesD t.kids))] false), (10, .cells [.dat (.int .i64 t.cls), .dat (.int .i64 t.tag), .dat (.bool t.cons), .dat (.lst (bytesD t.bytes)), .dat (.lst (nodesD t.kids))] false), (11, .cells [.dat (.int .i64 0), .dat (.bool false), .dat (.lst [])] false)]) (fun _ => True) (fun _ => 0) () trivial ?_ ?_
           ·refine Ent.to rfl rfl rfl ?_ ?_
            ·simp -implicitDefEqProofs only [go_sem, Nat.reduceLT, Nat.reduceAdd, Nat.reduceEqDiff, reduceIte, Nat.reduceMul, Nat.reduceSub, reduceCtorEq, Int.reduceNe, Int.reduceEq, ne_eq, Nat.reduceLeDiff, Nat.reduceMod, Nat.reduceDiv]; (try simp only [D.dat.injEq, Vm.Data.int.injEq, true_and, and_true, and_self, eq_self]); (try omega); (try ((repeat' apply And.intro) <;> first | omega | rfl))
            ·(repeat' (first | exact all_nil | (refine all_cons ?_ ?_))) <;> (simp -implicitDefEqProofs only [go_sem, Nat.reduceLT, Nat.reduceAdd, Nat.reduceEqDiff, reduceIte, Nat.reduceMul, Nat.reduceSub, reduceCtorEq, Int.reduceNe, Int.reduceEq, ne_eq, Nat.reduceLeDiff, Nat.reduceMod, Nat.reduceDiv]; (try rfl); skip)
           intro i hp
           refine st0 ?_
           refine rg ΦLP_ok [5, 17, 18, 19, 20, 21, 22, 23, 25, 26, 156, 157, 158] (And.intro trE eqT) ?_
           refine cn ?_ ?_
           ·intro h; try exact absurd h (by decide)
            try (exfalso; (try simp only [Bool.not_eq_eq_eq_not, Bool.not_true, Bool.not_false, decide_eq_false_iff_not, decide_eq_true_eq] at *); first | omega | (have g0 := g rfl; omega) | (simp_all; done))
            all_goals
             refine rg ΦLP_ok [5, 17, 18, 19, 20, 21, 22, 23, 25, 26, 27, 156, 157] (And.intro trE eqT) ?_
             try have rb := bytesD_at (l := l) (k := k) (by omega)
             refine rgL ΦLP_ok rb ?_
             refine rgL ΦLP_ok (And.intro trE eqT) ?_
             exact absurd (by assumption) (by decide)
           ·intro h; try exact absurd h (by decide)
            try (exfalso; (try simp only [Bool.not_eq_eq_eq_not, Bool.not_true, Bool.not_false, decide_eq_false_iff_not, decide_eq_true_eq] at *); first | omega | (have g0 := g rfl; omega) | (simp_all; done))
            all_goals
             refine rB ΦLP_ok [6] (And.intro hNE (And.intro hR (And.intro trE eqT))) fun K' hK => ?_
             repeat' first | (refine lf hK (And.intro hNE (And.intro hR (And.intro trE eqT))) ?_; clear hK K') | with_reducible apply And.intro | refine sA (And.intro hNE (And.intro hR (And.intro trE eqT))) (fun _ => ?_) fun _ => ?_ | refine sAb (And.intro hNE (And.intro hR (And.intro trE eqT))) (fun _ => ?_) fun _ => ?_ | refine sAl (And.intro hNE (And.intro hR (And.intro trE eqT))) (fun g => ?_) fun g => ?_ | exact sd | exact sde (And.intro hNE (And.intro hR (And.intro trE eqT))) | exact sdp (And.intro hNE (And.intro hR (And.intro trE eqT))) | refine stk (And.intro hNE (And.intro hR (And.intro trE eqT))) ?_ | fail
             all_goals
              first
              | exact fz (And.intro trE eqT)
         ·have hR := rR_t hr
          obtain ⟨hk2, hz, hlen, hsq, hrd⟩ := ri_facts hr
          have hsq2 : seqT [hashT (rdH (t.kids.getD 0 T.zero)) (rdN (t.kids.getD 0 T.zero)), T.mk 0 4 false (t.kids.getD 1 T.zero).bytes []] = t := hsq
          rw [if_pos hrd, if_pos hrd] at hR
          have hG := And.intro hz (And.intro hlen (And.intro hsq2 hrd))
          refine rB ΦLP2_ok [5, 17, 18, 19, 20, 21, 22, 23] trE fun K' hK => ?_
          repeat' first | with_reducible apply And.intro | exact sd | exact sde trE | exact sdp trE | refine stk trE ?_ | fail
          refine ec (rs := [.cell 2 50, .tmp 3]) (n := 47) Tryz.func27 rfl rfl rfl ?_
          refine rg ΦLP2_ok [1, 2] trE ?_
          refine rB ΦLP2_ok [1, 2, 4] trE fun K' hK => ?_
          repeat' first | with_reducible apply And.intro | exact sd | exact sde trE | exact sdp trE | refine stk trE ?_ | fail
          refine ec (rs := [.tmp 2]) (n := 7) Tryz.func72 rfl rfl rfl ?_
          refine rg ΦLP2_ok [1] trE ?_
          refine rg ΦLP2_ok [2] trE ?_
          refine nx ?_
          refine rt trE ?_
          repeat' first | (refine lf hK trE ?_; clear hK K') | with_reducible apply And.intro | exact sd | exact sde trE | exact sdp trE | refine stk trE ?_ | fail
          all_goals
           have hkl := kids_len t
           have hk0s : (t.kids.getD 0 T.zero).sz ≤ t.sz := kid_sz' t 0
           refine rB ΦLP2_ok [1, 2, 4, 5, 6, 7] trE fun K' hK => ?_
           repeat' first | with_reducible apply And.intro | exact sd | exact sde trE | exact sdp trE | refine stk trE ?_ | fail
           refine ec (rs := [.cell 2 25]) (n := 26) Tryz.func73 rfl rfl rfl ?_
           refine rg ΦLP2_ok [0, 2] (And.intro kget trE) ?_
           refine rg ΦLP2_ok [0, 2, 9] (And.intro kget trE) ?_
           refine cn ?_ ?_
           ·intro h; try exact absurd h (by decide)
            try (exfalso; (try simp only [Bool.not_eq_eq_eq_not, Bool.not_true, Bool.not_false, decide_eq_false_iff_not, decide_eq_true_eq] at *); first | omega | (have g0 := g rfl; omega) | (simp_all; done))
           intro h; try exact absurd h (by decide)
           try (exfalso; (try simp only [Bool.not_eq_eq_eq_not, Bool.not_true, Bool.not_false, decide_eq_false_iff_not, decide_eq_true_eq] at *); first | omega | (have g0 := g rfl; omega) | (simp_all; done))
           refine rg ΦLP2_ok [0, 2, 3] (And.intro kget trE) ?_
           refine rg ΦLP2_ok [2, 3] (And.intro kget trE) ?_
           refine rg ΦLP2_ok [2] (And.intro kget trE) ?_
           refine nx ?_
           refine rt trE ?_
           repeat' first | (refine lf hK trE ?_; clear hK K') | with_reducible apply And.intro | exact sd | exact sde trE | exact sdp trE | refine stk trE ?_ | fail
           all_goals
            have hk0b := T.sz_eq (t.kids.getD 1 T.zero)
            have hk1s := kid_sz' t 1
            have hk1b : (t.kids.getD 1 T.zero).bytes.length ≤ t.sz := by unfold kid at hk1s; omega
            refine rB ΦLP2_ok [1, 2, 7, 8] trE fun K' hK => ?_
            repeat' first | with_reducible apply And.intro | exact sd | exact sde trE | exact sdp trE | refine stk trE ?_ | fail
            refine ec (rs := [.cell 2 25]) (n := 26) Tryz.func73 rfl rfl rfl ?_
            refine rg ΦLP2_ok [0, 2] (And.intro kget trE) ?_
            refine rg ΦLP2_ok [0, 2, 9] (And.intro kget trE) ?_
            refine cn ?_ ?_
            ·intro h; try exact absurd h (by decide)
             try (exfalso; (try simp only [Bool.not_eq_eq_eq_not, Bool.not_true, Bool.not_false, decide_eq_false_iff_not, decide_eq_true_eq] at *); first | omega | (have g0 := g rfl; omega) | (simp_all; done))
            intro h; try exact absurd h (by decide)
            try (exfalso; (try simp only [Bool.not_eq_eq_eq_not, Bool.not_true, Bool.not_false, decide_eq_false_iff_not, decide_eq_true_eq] at *); first | omega | (have g0 := g rfl; omega) | (simp_all; done))
            refine rg ΦLP2_ok [0, 2, 3] (And.intro kget trE) ?_
            refine rg ΦLP2_ok [2, 3] (And.intro kget trE) ?_
            refine rg ΦLP2_ok [2] (And.intro kget trE) ?_
            refine nx ?_
            refine rt trE ?_
            repeat' first | with_reducible apply And.intro | exact sd | exact sde trE | exact sdp trE | refine stk trE ?_ | fail
            refine oc (liftO bcl_own) 40 trE ?_
            repeat' first | (refine lf hK trE ?_; clear hK K') | with_reducible apply And.intro | exact sd | exact sde trE | exact sdp trE | refine stk trE ?_ | fail
            all_goals
             refine rB ΦLP2_ok [1, 2, 7, 8, 9, 10] trE fun K' hK => ?_
             repeat' first | with_reducible apply And.intro | exact sd | exact sde trE | exact sdp trE | refine stk trE ?_ | fail
             refine ec (rs := [.cell 2 25, .tmp 3]) (n := 32) Tryz.func23 rfl rfl rfl ?_
             refine rg ΦLP2_ok [1, 2] (And.intro hG szE) ?_
             refine rg ΦLP2_ok [1, 2, 4, 5] (And.intro hG szE) ?_
             refine rdB (n := 11) ΦLP2_ok [1, 2, 4, 24] (And.intro hG szE) fun L hL => ?_
             repeat' first | (refine lfd hL (And.intro hG szE) ?_; clear hL L) | with_reducible apply And.intro | refine sA (And.intro hG szE) (fun _ => ?_) fun _ => ?_ | refine sAb (And.intro hG szE) (fun _ => ?_) fun _ => ?_ | refine sAl (And.intro hG szE) (fun g => ?_) fun g => ?_ | exact sd | exact sde (And.intro hG szE) | exact sdp (And.intro hG szE) | refine stk (And.intro hG szE) ?_ | fail
             all_goals
              refine cn ?_ ?_
              ·intro h; try exact absurd h (by decide)
               try (exfalso; (try simp only [Bool.not_eq_eq_eq_not, Bool.not_true, Bool.not_false, decide_eq_false_iff_not, decide_eq_true_eq] at *); first | omega | (have g0 := g rfl; omega) | (simp_all; done))
              intro h; try exact absurd h (by decide)
              try (exfalso; (try simp only [Bool.not_eq_eq_eq_not, Bool.not_true, Bool.not_false, decide_eq_false_iff_not, decide_eq_true_eq] at *); first | omega | (have g0 := g rfl; omega) | (simp_all; done))
              have hs1 := hashT_sz (rdH (t.kids.getD 0 T.zero)) (rdN (t.kids.getD 0 T.zero))
              refine dTu ΦLP2_ok (.alt 0 (.alt 1 (.alt 2 (.alt 3 (.alt 4 (.alt 5 (.alt 6 (.alt 7 .stop .done) .done) .done) .done) .done) .done) .done) (.alt 1 (.alt 0 (.alt 2 (.alt 3 (.alt 4 (.alt 5 (.alt 6 (.alt 7 .stop .done) .done) .done) .done) .done) .done) (.alt 2 (.alt 0 (.alt 3 (.alt 4 (.alt 5 (.alt 6 (.alt 7 .stop .done) .done) .done) .done) .done) (.alt 3 (.alt 0 (.alt 4 (.alt 5 (.alt 6 (.alt 7 .stop .done) .done) .done) .done) .done) .done)) .done)) .done)) [2, 3] ?_ (k2 := by
               intro hq K' hK
               refine And.intro ?_ ?_
               ·simp only [List.getElem?_toArray, List.getElem?_cons_succ, List.getElem?_cons_zero, Option.toList_some, List.map_cons, List.map_nil]
                dsimp only [strip, stripG]
                simp -implicitDefEqProofs only [go_sem, (And.intro hG szE)]
                repeat' first | with_reducible apply And.intro | exact sd | exact sde (And.intro hG szE) | exact sdp (And.intro hG szE) | fail
                all_goals
                 refine And.intro ?_ ?_
                 ·simp only [List.getElem?_toArray, List.getElem?_cons_succ, List.getElem?_cons_zero, Option.toList_some, List.map_cons, List.map_nil]
                  dsimp only [strip, stripG]
                  simp -implicitDefEqProofs only [go_sem, (And.intro hG szE)]
                  repeat' first | with_reducible apply And.intro | exact sd | exact sde (And.intro hG szE) | exact sdp (And.intro hG szE) | fail
                  all_goals
                   refine And.intro ?_ ?_
                   ·simp only [List.getElem?_toArray, List.getElem?_cons_succ, List.getElem?_cons_zero, Option.toList_some, List.map_cons, List.map_nil]
                    dsimp only [strip, stripG]
                    simp -implicitDefEqProofs only [go_sem, (And.intro hG szE)]
                    repeat' first | with_reducible apply And.intro | exact sd | exact sde (And.intro hG szE) | exact sdp (And.intro hG szE) | fail
                    all_goals
                     refine And.intro ?_ ?_
                     ·simp only [List.getElem?_toArray, List.getElem?_cons_succ, List.getElem?_cons_zero, Option.toList_some, List.map_cons, List.map_nil]
                      dsimp only [strip, stripG]
                      simp -implicitDefEqProofs only [go_sem, (And.intro hG szE)]
                      repeat' first | with_reducible apply And.intro | exact sd | exact sde (And.intro hG szE) | exact sdp (And.intro hG szE) | fail
                      all_goals
                       refine ec (rs := [.cell 4 25]) (n := 8) Tryz.func61 rfl rfl rfl ?_
                       refine rg ΦLP2_ok [0, 1, 4] trivial ?_
                       refine rB ΦLP2_ok [4] trivial fun K' hK => ?_
                       repeat' first | with_reducible apply And.intro | exact sd | exact sde trivial | exact sdp trivial | refine stk trivial ?_ | fail
                       refine ec (rs := [.cell 6 25]) (n := 12) Tryz.func109 rfl rfl rfl ?_
                       refine rg ΦLP2_ok [0, 1, 2, 6] trivial ?_
                       refine rB ΦLP2_ok [6] trivial fun K' hK => ?_
                       repeat' first | with_reducible apply And.intro | exact sd | exact sde trivial | exact sdp trivial | refine stk trivial ?_ | fail
                       refine ec (rs := [.tmp 2]) (n := 8) Tryz.func88 rfl rfl rfl ?_
                       refine rg ΦLP2_ok [0] trivial ?_
                       refine rB ΦLP2_ok [0, 4] trivial fun K' hK => ?_
                       repeat' first | (refine lf hK trivial ?_; clear hK K') | with_reducible apply And.intro | refine sA trivial (fun _ => ?_) fun _ => ?_ | refine sAb trivial (fun _ => ?_) fun _ => ?_ | refine sAl trivial (fun g => ?_) fun g => ?_ | exact sd | exact sde trivial | exact sdp trivial | refine stk trivial ?_ | fail
                       all_goals
                        refine cn ?_ ?_
                        ·intro h; try exact absurd h (by decide)
                         try (exfalso; (try simp only [Bool.not_eq_eq_eq_not, Bool.not_true, Bool.not_false, decide_eq_false_iff_not, decide_eq_true_eq] at *); first | omega | (have g0 := g rfl; omega) | (simp_all; done))
                         all_goals
                          refine rg ΦLP2_ok [2] trivial ?_
                          refine nx ?_
                          refine rt trivial ?_
                          repeat' first | (refine lf hK trivial ?_; clear hK K') | with_reducible apply And.intro | exact sd | exact sde trivial | exact sdp trivial | refine stk trivial ?_ | fail
                          all_goals
                           refine nx ?_
                           refine rt trivial ?_
                           repeat' first | (refine lf hK trivial ?_; clear hK K') | with_reducible apply And.intro | exact sd | exact sde trivial | exact sdp trivial | refine stk trivial ?_ | fail
                           all_goals
                            refine nx ?_
                            refine rt (And.intro hG szE) ?_
                            all_goals
                             refine And.intro ?_ ?_
                             ·simp only [List.getElem?_toArray, List.getElem?_cons_succ, List.getElem?_cons_zero, Option.toList_some, List.map_cons, List.map_nil]
                              dsimp only [strip, stripG]
                              simp -implicitDefEqProofs only [go_sem, (And.intro hG szE)]
                              repeat' first | with_reducible apply And.intro | exact sd | exact sde (And.intro hG szE) | exact sdp (And.intro hG szE) | fail
                              all_goals
                               refine And.intro ?_ ?_
                               ·simp only [List.getElem?_toArray, List.getElem?_cons_succ, List.getElem?_cons_zero, Option.toList_some, List.map_cons, List.map_nil]
                                dsimp only [strip, stripG]
                                simp -implicitDefEqProofs only [go_sem, (And.intro hG szE)]
                                repeat' first | with_reducible apply And.intro | exact sd | exact sde (And.intro hG szE) | exact sdp (And.intro hG szE) | fail
                                all_goals
                                 refine And.intro ?_ ?_
                                 ·simp only [List.getElem?_toArray, List.getElem?_cons_succ, List.getElem?_cons_zero, Option.toList_some, List.map_cons, List.map_nil]
                                  dsimp only [strip, stripG]
                                  simp -implicitDefEqProofs only [go_sem, (And.intro hG szE)]
                                  repeat' first | with_reducible apply And.intro | exact sd | exact sde (And.intro hG szE) | exact sdp (And.intro hG szE) | fail
                                  all_goals
                                   refine And.intro ?_ ?_
                                   ·simp only [List.getElem?_toArray, List.getElem?_cons_succ, List.getElem?_cons_zero, Option.toList_some, List.map_cons, List.map_nil]
                                    dsimp only [strip, stripG]
                                    simp -implicitDefEqProofs only [go_sem, (And.intro hG szE)]
                                    repeat' first | with_reducible apply And.intro | exact sd | exact sde (And.intro hG szE) | exact sdp (And.intro hG szE) | fail
                                    all_goals
                                     refine hK _ ?_; apply VC.atR hq.out; (try simp -implicitDefEqProofs only [go_sem, (And.intro hG szE)]); (try simp (disch := omega) only [i64_in, u64_in, tmodN, tdivN]); first | exact rfl | done
                                   ·skip
                                    exact trivial
                                 ·skip
                                  exact trivial
                               ·skip
                                exact trivial
                             ·skip
                              exact trivial
                        ·intro h; try exact absurd h (by decide)
                         try (exfalso; (try simp only [Bool.not_eq_eq_eq_not, Bool.not_true, Bool.not_false, decide_eq_false_iff_not, decide_eq_true_eq] at *); first | omega | (have g0 := g rfl; omega) | (simp_all; done))
                         all_goals
                          refine rg ΦLP2_ok [2] trivial ?_
                          refine nx ?_
                          refine rt trivial ?_
                          repeat' first | (refine lf hK trivial ?_; clear hK K') | with_reducible apply And.intro | exact sd | exact sde trivial | exact sdp trivial | refine stk trivial ?_ | fail
                          all_goals
                           refine nx ?_
                           refine rt trivial ?_
                           repeat' first | (refine lf hK trivial ?_; clear hK K') | with_reducible apply And.intro | exact sd | exact sde trivial | exact sdp trivial | refine stk trivial ?_ | fail
                           all_goals
                            refine nx ?_
                            refine rt (And.intro hG szE) ?_
                            all_goals
                             refine And.intro ?_ ?_
                             ·simp only [List.getElem?_toArray, List.getElem?_cons_succ, List.getElem?_cons_zero, Option.toList_some, List.map_cons, List.map_nil]
                              dsimp only [strip, stripG]
                              simp -implicitDefEqProofs only [go_sem, (And.intro hG szE)]
                              repeat' first | with_reducible apply And.intro | exact sd | exact sde (And.intro hG szE) | exact sdp (And.intro hG szE) | fail
                              all_goals
                               refine And.intro ?_ ?_
                               ·simp only [List.getElem?_toArray, List.getElem?_cons_succ, List.getElem?_cons_zero, Option.toList_some, List.map_cons, List.map_nil]
                                dsimp only [strip, stripG]
                                simp -implicitDefEqProofs only [go_sem, (And.intro hG szE)]
                                repeat' first | with_reducible apply And.intro | exact sd | exact sde (And.intro hG szE) | exact sdp (And.intro hG szE) | fail
                                all_goals
                                 refine And.intro ?_ ?_
                                 ·simp only [List.getElem?_toArray, List.getElem?_cons_succ, List.getElem?_cons_zero, Option.toList_some, List.map_cons, List.map_nil]
                                  dsimp only [strip, stripG]
                                  simp -implicitDefEqProofs only [go_sem, (And.intro hG szE)]
                                  repeat' first | with_reducible apply And.intro | exact sd | exact sde (And.intro hG szE) | exact sdp (And.intro hG szE) | fail
                                  all_goals
                                   refine And.intro ?_ ?_
                                   ·simp only [List.getElem?_toArray, List.getElem?_cons_succ, List.getElem?_cons_zero, Option.toList_some, List.map_cons, List.map_nil]
                                    dsimp only [strip, stripG]
                                    simp -implicitDefEqProofs only [go_sem, (And.intro hG szE)]
                                    repeat' first | with_reducible apply And.intro | exact sd | exact sde (And.intro hG szE) | exact sdp (And.intro hG szE) | fail
                                    all_goals
                                     refine hK _ ?_; apply VC.atR hq.out; (try simp -implicitDefEqProofs only [go_sem, (And.intro hG szE)]); (try simp (disch := omega) only [i64_in, u64_in, tmodN, tdivN]); first | exact rfl | done
                                   ·skip
                                    exact trivial
                                 ·skip
                                  exact trivial
                               ·skip
                                exact trivial
                             ·skip
                              exact trivial
                     ·skip
                      exact trivial
                   ·skip
                    exact trivial
                 ·skip
                  exact trivial
               ·skip
                refine And.intro ?_ ?_
                ·simp only [List.getElem?_toArray, List.getElem?_cons_succ, List.getElem?_cons_zero, Option.toList_some, List.map_cons, List.map_nil]
                 dsimp only [strip, stripG]
                 simp -implicitDefEqProofs only [go_sem, (And.intro hG szE)]
                 repeat' first | with_reducible apply And.intro | exact sd | exact sde (And.intro hG szE) | exact sdp (And.intro hG szE) | fail
                 all_goals
                  refine And.intro ?_ ?_
                  ·simp only [List.getElem?_toArray, List.getElem?_cons_succ, List.getElem?_cons_zero, Option.toList_some, List.map_cons, List.map_nil]
                   dsimp only [strip, stripG]
                   simp -implicitDefEqProofs only [go_sem, (And.intro hG szE)]
                   repeat' first | with_reducible apply And.intro | exact sd | exact sde (And.intro hG szE) | exact sdp (And.intro hG szE) | fail
                   all_goals
                    refine And.intro ?_ ?_
                    ·simp only [List.getElem?_toArray, List.getElem?_cons_succ, List.getElem?_cons_zero, Option.toList_some, List.map_cons, List.map_nil]
                     dsimp only [strip, stripG]
                     simp -implicitDefEqProofs only [go_sem, (And.intro hG szE)]
                     repeat' first | with_reducible apply And.intro | exact sd | exact sde (And.intro hG szE) | exact sdp (And.intro hG szE) | fail
                     all_goals
                      refine And.intro ?_ ?_
                      ·simp only [List.getElem?_toArray, List.getElem?_cons_succ, List.getElem?_cons_zero, Option.toList_some, List.map_cons, List.map_nil]
                       dsimp only [strip, stripG]
                       simp -implicitDefEqProofs only [go_sem, (And.intro hG szE)]
                       repeat' first | with_reducible apply And.intro | exact sd | exact sde (And.intro hG szE) | exact sdp (And.intro hG szE) | fail
                       all_goals
                        refine ec (rs := [.cell 4 25]) (n := 8) Tryz.func61 rfl rfl rfl ?_
                        refine rg ΦLP2_ok [0, 1, 4] trivial ?_
                        refine rB ΦLP2_ok [4] trivial fun K' hK => ?_
                        repeat' first | with_reducible apply And.intro | exact sd | exact sde trivial | exact sdp trivial | refine stk trivial ?_ | fail
                        refine ec (rs := [.cell 6 25]) (n := 12) Tryz.func109 rfl rfl rfl ?_
                        refine rg ΦLP2_ok [0, 1, 2, 6] trivial ?_
                        refine rB ΦLP2_ok [6] trivial fun K' hK => ?_
                        repeat' first | with_reducible apply And.intro | exact sd | exact sde trivial | exact sdp trivial | refine stk trivial ?_ | fail
                        refine ec (rs := [.tmp 2]) (n := 8) Tryz.func88 rfl rfl rfl ?_
                        refine rg ΦLP2_ok [0] trivial ?_
                        refine rB ΦLP2_ok [0, 4] trivial fun K' hK => ?_
                        repeat' first | (refine lf hK trivial ?_; clear hK K') | with_reducible apply And.intro | refine sA trivial (fun _ => ?_) fun _ => ?_ | refine sAb trivial (fun _ => ?_) fun _ => ?_ | refine sAl trivial (fun g => ?_) fun g => ?_ | exact sd | exact sde trivial | exact sdp trivial | refine stk trivial ?_ | fail
                        all_goals
                         refine cn ?_ ?_
                         ·intro h; try exact absurd h (by decide)
                          try (exfalso; (try simp only [Bool.not_eq_eq_eq_not, Bool.not_true, Bool.not_false, decide_eq_false_iff_not, decide_eq_true_eq] at *); first | omega | (have g0 := g rfl; omega) | (simp_all; done))
                          all_goals
                           refine rg ΦLP2_ok [2] trivial ?_
                           refine nx ?_
                           refine rt trivial ?_
                           repeat' first | (refine lf hK trivial ?_; clear hK K') | with_reducible apply And.intro | exact sd | exact sde trivial | exact sdp trivial | refine stk trivial ?_ | fail
                           all_goals
                            refine nx ?_
                            refine rt trivial ?_
                            repeat' first | (refine lf hK trivial ?_; clear hK K') | with_reducible apply And.intro | exact sd | exact sde trivial | exact sdp trivial | refine stk trivial ?_ | fail
                            all_goals
                             refine nx ?_
                             refine rt (And.intro hG szE) ?_
                             all_goals
                              refine And.intro ?_ ?_
                              ·simp only [List.getElem?_toArray, List.getElem?_cons_succ, List.getElem?_cons_zero, Option.toList_some, List.map_cons, List.map_nil]
                               dsimp only [strip, stripG]
                               simp -implicitDefEqProofs only [go_sem, (And.intro hG szE)]
                               repeat' first | with_reducible apply And.intro | exact sd | exact sde (And.intro hG szE) | exact sdp (And.intro hG szE) | fail
                               all_goals
                                refine And.intro ?_ ?_
                                ·simp only [List.getElem?_toArray, List.getElem?_cons_succ, List.getElem?_cons_zero, Option.toList_some, List.map_cons, List.map_nil]
                                 dsimp only [strip, stripG]
                                 simp -implicitDefEqProofs only [go_sem, (And.intro hG szE)]
                                 repeat' first | with_reducible apply And.intro | exact sd | exact sde (And.intro hG szE) | exact sdp (And.intro hG szE) | fail
                                 all_goals
                                  refine And.intro ?_ ?_
                                  ·simp only [List.getElem?_toArray, List.getElem?_cons_succ, List.getElem?_cons_zero, Option.toList_some, List.map_cons, List.map_nil]
                                   dsimp only [strip, stripG]
                                   simp -implicitDefEqProofs only [go_sem, (And.intro hG szE)]
                                   repeat' first | with_reducible apply And.intro | exact sd | exact sde (And.intro hG szE) | exact sdp (And.intro hG szE) | fail
                                   all_goals
                                    refine And.intro ?_ ?_
                                    ·simp only [List.getElem?_toArray, List.getElem?_cons_succ, List.getElem?_cons_zero, Option.toList_some, List.map_cons, List.map_nil]
                                     dsimp only [strip, stripG]
                                     simp -implicitDefEqProofs only [go_sem, (And.intro hG szE)]
                                     repeat' first | with_reducible apply And.intro | exact sd | exact sde (And.intro hG szE) | exact sdp (And.intro hG szE) | fail
                                     all_goals
                                      refine hK _ ?_; apply VC.atR hq.out; (try simp -implicitDefEqProofs only [go_sem, (And.intro hG szE)]); (try simp (disch := omega) only [i64_in, u64_in, tmodN, tdivN]); first | exact rfl | done
                                    ·skip
                                     exact trivial
                                  ·skip
                                   exact trivial
                                ·skip
                                 exact trivial
                              ·skip
                               exact trivial
                         ·intro h; try exact absurd h (by decide)
                          try (exfalso; (try simp only [Bool.not_eq_eq_eq_not, Bool.not_true, Bool.not_false, decide_eq_false_iff_not, decide_eq_true_eq] at *); first | omega | (have g0 := g rfl; omega) | (simp_all; done))
                          all_goals
                           refine rg ΦLP2_ok [2] trivial ?_
                           refine nx ?_
                           refine rt trivial ?_
                           repeat' first | (refine lf hK trivial ?_; clear hK K') | with_reducible apply And.intro | exact sd | exact sde trivial | exact sdp trivial | refine stk trivial ?_ | fail
                           all_goals
                            refine nx ?_
                            refine rt trivial ?_
                            repeat' first | (refine lf hK trivial ?_; clear hK K') | with_reducible apply And.intro | exact sd | exact sde trivial | exact sdp trivial | refine stk trivial ?_ | fail
                            all_goals
                             refine nx ?_
                             refine rt (And.intro hG szE) ?_
                             all_goals
                              refine And.intro ?_ ?_
                              ·simp only [List.getElem?_toArray, List.getElem?_cons_succ, List.getElem?_cons_zero, Option.toList_some, List.map_cons, List.map_nil]
                               dsimp only [strip, stripG]
                               simp -implicitDefEqProofs only [go_sem, (And.intro hG szE)]
                               repeat' first | with_reducible apply And.intro | exact sd | exact sde (And.intro hG szE) | exact sdp (And.intro hG szE) | fail
                               all_goals
                                refine And.intro ?_ ?_
                                ·simp only [List.getElem?_toArray, List.getElem?_cons_succ, List.getElem?_cons_zero, Option.toList_some, List.map_cons, List.map_nil]
                                 dsimp only [strip, stripG]
                                 simp -implicitDefEqProofs only [go_sem, (And.intro hG szE)]
                                 repeat' first | with_reducible apply And.intro | exact sd | exact sde (And.intro hG szE) | exact sdp (And.intro hG szE) | fail
                                 all_goals
                                  refine And.intro ?_ ?_
                                  ·simp only [List.getElem?_toArray, List.getElem?_cons_succ, List.getElem?_cons_zero, Option.toList_some, List.map_cons, List.map_nil]
                                   dsimp only [strip, stripG]
                                   simp -implicitDefEqProofs only [go_sem, (And.intro hG szE)]
                                   repeat' first | with_reducible apply And.intro | exact sd | exact sde (And.intro hG szE) | exact sdp (And.intro hG szE) | fail
                                   all_goals
                                    refine And.intro ?_ ?_
                                    ·simp only [List.getElem?_toArray, List.getElem?_cons_succ, List.getElem?_cons_zero, Option.toList_some, List.map_cons, List.map_nil]
                                     dsimp only [strip, stripG]
                                     simp -implicitDefEqProofs only [go_sem, (And.intro hG szE)]
                                     repeat' first | with_reducible apply And.intro | exact sd | exact sde (And.intro hG szE) | exact sdp (And.intro hG szE) | fail
                                     all_goals
                                      refine hK _ ?_; apply VC.atR hq.out; (try simp -implicitDefEqProofs only [go_sem, (And.intro hG szE)]); (try simp (disch := omega) only [i64_in, u64_in, tmodN, tdivN]); first | exact rfl | done
                                    ·skip
                                     exact trivial
                                  ·skip
                                   exact trivial
                                ·skip
                                 exact trivial
                              ·skip
                               exact trivial
                      ·skip
                       exact trivial
                    ·skip
                     exact trivial
                  ·skip
                   refine And.intro ?_ ?_
                   ·simp only [List.getElem?_toArray, List.getElem?_cons_succ, List.getElem?_cons_zero, Option.toList_some, List.map_cons, List.map_nil]
                    dsimp only [strip, stripG]
                    simp -implicitDefEqProofs only [go_sem, (And.intro hG szE)]
                    repeat' first | with_reducible apply And.intro | exact sd | exact sde (And.intro hG szE) | exact sdp (And.intro hG szE) | fail
                    all_goals
                     refine And.intro ?_ ?_
                     ·simp only [List.getElem?_toArray, List.getElem?_cons_succ, List.getElem?_cons_zero, Option.toList_some, List.map_cons, List.map_nil]
                      dsimp only [strip, stripG]
                      simp -implicitDefEqProofs only [go_sem, (And.intro hG szE)]
                      repeat' first | with_reducible apply And.intro | exact sd | exact sde (And.intro hG szE) | exact sdp (And.intro hG szE) | fail
                      all_goals
                       refine And.intro ?_ ?_
                       ·simp only [List.getElem?_toArray, List.getElem?_cons_succ, List.getElem?_cons_zero, Option.toList_some, List.map_cons, List.map_nil]
                        dsimp only [strip, stripG]
                        simp -implicitDefEqProofs only [go_sem, (And.intro hG szE)]
                        repeat' first | with_reducible apply And.intro | exact sd | exact sde (And.intro hG szE) | exact sdp (And.intro hG szE) | fail
                        all_goals
                         refine ec (rs := [.cell 4 25]) (n := 8) Tryz.func61 rfl rfl rfl ?_
                         refine rg ΦLP2_ok [0, 1, 4] trivial ?_
                         refine rB ΦLP2_ok [4] trivial fun K' hK => ?_
                         repeat' first | with_reducible apply And.intro | exact sd | exact sde trivial | exact sdp trivial | refine stk trivial ?_ | fail
                         refine ec (rs := [.cell 6 25]) (n := 12) Tryz.func109 rfl rfl rfl ?_
                         refine rg ΦLP2_ok [0, 1, 2, 6] trivial ?_
                         refine rB ΦLP2_ok [6] trivial fun K' hK => ?_
                         repeat' first | with_reducible apply And.intro | exact sd | exact sde trivial | exact sdp trivial | refine stk trivial ?_ | fail
                         refine ec (rs := [.tmp 2]) (n := 8) Tryz.func88 rfl rfl rfl ?_
                         refine rg ΦLP2_ok [0] trivial ?_
                         refine rB ΦLP2_ok [0, 4] trivial fun K' hK => ?_
                         repeat' first | (refine lf hK trivial ?_; clear hK K') | with_reducible apply And.intro | refine sA trivial (fun _ => ?_) fun _ => ?_ | refine sAb trivial (fun _ => ?_) fun _ => ?_ | refine sAl trivial (fun g => ?_) fun g => ?_ | exact sd | exact sde trivial | exact sdp trivial | refine stk trivial ?_ | fail
                         all_goals
                          refine cn ?_ ?_
                          ·intro h; try exact absurd h (by decide)
                           try (exfalso; (try simp only [Bool.not_eq_eq_eq_not, Bool.not_true, Bool.not_false, decide_eq_false_iff_not, decide_eq_true_eq] at *); first | omega | (have g0 := g rfl; omega) | (simp_all; done))
                           all_goals
                            refine rg ΦLP2_ok [2] trivial ?_
                            refine nx ?_
                            refine rt trivial ?_
                            repeat' first | (refine lf hK trivial ?_; clear hK K') | with_reducible apply And.intro | exact sd | exact sde trivial | exact sdp trivial | refine stk trivial ?_ | fail
                            all_goals
                             refine nx ?_
                             refine rt trivial ?_
                             repeat' first | (refine lf hK trivial ?_; clear hK K') | with_reducible apply And.intro | exact sd | exact sde trivial | exact sdp trivial | refine stk trivial ?_ | fail
                             all_goals
                              refine nx ?_
                              refine rt (And.intro hG szE) ?_
                              all_goals
                               refine And.intro ?_ ?_
                               ·simp only [List.getElem?_toArray, List.getElem?_cons_succ, List.getElem?_cons_zero, Option.toList_some, List.map_cons, List.map_nil]
                                dsimp only [strip, stripG]
                                simp -implicitDefEqProofs only [go_sem, (And.intro hG szE)]
                                repeat' first | with_reducible apply And.intro | exact sd | exact sde (And.intro hG szE) | exact sdp (And.intro hG szE) | fail
                                all_goals
                                 refine And.intro ?_ ?_
                                 ·simp only [List.getElem?_toArray, List.getElem?_cons_succ, List.getElem?_cons_zero, Option.toList_some, List.map_cons, List.map_nil]
                                  dsimp only [strip, stripG]
                                  simp -implicitDefEqProofs only [go_sem, (And.intro hG szE)]
                                  repeat' first | with_reducible apply And.intro | exact sd | exact sde (And.intro hG szE) | exact sdp (And.intro hG szE) | fail
                                  all_goals
                                   refine And.intro ?_ ?_
                                   ·simp only [List.getElem?_toArray, List.getElem?_cons_succ, List.getElem?_cons_zero, Option.toList_some, List.map_cons, List.map_nil]
                                    dsimp only [strip, stripG]
                                    simp -implicitDefEqProofs only [go_sem, (And.intro hG szE)]
                                    repeat' first | with_reducible apply And.intro | exact sd | exact sde (And.intro hG szE) | exact sdp (And.intro hG szE) | fail
                                    all_goals
                                     refine And.intro ?_ ?_
                                     ·simp only [List.getElem?_toArray, List.getElem?_cons_succ, List.getElem?_cons_zero, Option.toList_some, List.map_cons, List.map_nil]
                                      dsimp only [strip, stripG]
                                      simp -implicitDefEqProofs only [go_sem, (And.intro hG szE)]
                                      repeat' first | with_reducible apply And.intro | exact sd | exact sde (And.intro hG szE) | exact sdp (And.intro hG szE) | fail
                                      all_goals
                                       refine hK _ ?_; apply VC.atR hq.out; (try simp -implicitDefEqProofs only [go_sem, (And.intro hG szE)]); (try simp (disch := omega) only [i64_in, u64_in, tmodN, tdivN]); first | exact rfl | done
                                     ·skip
                                      exact trivial
                                   ·skip
                                    exact trivial
                                 ·skip
                                  exact trivial
                               ·skip
                                exact trivial
                          ·intro h; try exact absurd h (by decide)
                           try (exfalso; (try simp only [Bool.not_eq_eq_eq_not, Bool.not_true, Bool.not_false, decide_eq_false_iff_not, decide_eq_true_eq] at *); first | omega | (have g0 := g rfl; omega) | (simp_all; done))
                           all_goals
                            refine rg ΦLP2_ok [2] trivial ?_
                            refine nx ?_
                            refine rt trivial ?_
                            repeat' first | (refine lf hK trivial ?_; clear hK K') | with_reducible apply And.intro | exact sd | exact sde trivial | exact sdp trivial | refine stk trivial ?_ | fail
                            all_goals
                             refine nx ?_
                             refine rt trivial ?_
                             repeat' first | (refine lf hK trivial ?_; clear hK K') | with_reducible apply And.intro | exact sd | exact sde trivial | exact sdp trivial | refine stk trivial ?_ | fail
                             all_goals
                              refine nx ?_
                              refine rt (And.intro hG szE) ?_
                              all_goals
                               refine And.intro ?_ ?_
                               ·simp only [List.getElem?_toArray, List.getElem?_cons_succ, List.getElem?_cons_zero, Option.toList_some, List.map_cons, List.map_nil]
                                dsimp only [strip, stripG]
                                simp -implicitDefEqProofs only [go_sem, (And.intro hG szE)]
                                repeat' first | with_reducible apply And.intro | exact sd | exact sde (And.intro hG szE) | exact sdp (And.intro hG szE) | fail
                                all_goals
                                 refine And.intro ?_ ?_
                                 ·simp only [List.getElem?_toArray, List.getElem?_cons_succ, List.getElem?_cons_zero, Option.toList_some, List.map_cons, List.map_nil]
                                  dsimp only [strip, stripG]
                                  simp -implicitDefEqProofs only [go_sem, (And.intro hG szE)]
                                  repeat' first | with_reducible apply And.intro | exact sd | exact sde (And.intro hG szE) | exact sdp (And.intro hG szE) | fail
                                  all_goals
                                   refine And.intro ?_ ?_
                                   ·simp only [List.getElem?_toArray, List.getElem?_cons_succ, List.getElem?_cons_zero, Option.toList_some, List.map_cons, List.map_nil]
                                    dsimp only [strip, stripG]
                                    simp -implicitDefEqProofs only [go_sem, (And.intro hG szE)]
                                    repeat' first | with_reducible apply And.intro | exact sd | exact sde (And.intro hG szE) | exact sdp (And.intro hG szE) | fail
                                    all_goals
                                     refine And.intro ?_ ?_
                                     ·simp only [List.getElem?_toArray, List.getElem?_cons_succ, List.getElem?_cons_zero, Option.toList_some, List.map_cons, List.map_nil]
                                      dsimp only [strip, stripG]
                                      simp -implicitDefEqProofs only [go_sem, (And.intro hG szE)]
                                      repeat' first | with_reducible apply And.intro | exact sd | exact sde (And.intro hG szE) | exact sdp (And.intro hG szE) | fail
                                      all_goals
                                       refine hK _ ?_; apply VC.atR hq.out; (try simp -implicitDefEqProofs only [go_sem, (And.intro hG szE)]); (try simp (disch := omega) only [i64_in, u64_in, tmodN, tdivN]); first | exact rfl | done
                                     ·skip
                                      exact trivial
                                   ·skip
                                    exact trivial
                                 ·skip
                                  exact trivial
                               ·skip
                                exact trivial
                       ·skip
                        exact trivial
                     ·skip
                      refine And.intro ?_ ?_
                      ·simp only [List.getElem?_toArray, List.getElem?_cons_succ, List.getElem?_cons_zero, Option.toList_some, List.map_cons, List.map_nil]
                       dsimp only [strip, stripG]
                       simp -implicitDefEqProofs only [go_sem, (And.intro hG szE)]
                       repeat' first | with_reducible apply And.intro | exact sd | exact sde (And.intro hG szE) | exact sdp (And.intro hG szE) | fail
                       all_goals
                        refine ec (rs := [.cell 4 25]) (n := 8) Tryz.func61 rfl rfl rfl ?_
                        refine rg ΦLP2_ok [0, 1, 4] trivial ?_
                        refine rB ΦLP2_ok [4] trivial fun K' hK => ?_
                        repeat' first | with_reducible apply And.intro | exact sd | exact sde trivial | exact sdp trivial | refine stk trivial ?_ | fail
                        refine ec (rs := [.cell 6 25]) (n := 12) Tryz.func109 rfl rfl rfl ?_
                        refine rg ΦLP2_ok [0, 1, 2, 6] trivial ?_
                        refine rB ΦLP2_ok [6] trivial fun K' hK => ?_
                        repeat' first | with_reducible apply And.intro | exact sd | exact sde trivial | exact sdp trivial | refine stk trivial ?_ | fail
                        refine ec (rs := [.tmp 2]) (n := 8) Tryz.func88 rfl rfl rfl ?_
                        refine rg ΦLP2_ok [0] trivial ?_
                        refine rB ΦLP2_ok [0, 4] trivial fun K' hK => ?_
                        repeat' first | (refine lf hK trivial ?_; clear hK K') | with_reducible apply And.intro | refine sA trivial (fun _ => ?_) fun _ => ?_ | refine sAb trivial (fun _ => ?_) fun _ => ?_ | refine sAl trivial (fun g => ?_) fun g => ?_ | exact sd | exact sde trivial | exact sdp trivial | refine stk trivial ?_ | fail
                        all_goals
                         refine cn ?_ ?_
                         ·intro h; try exact absurd h (by decide)
                          try (exfalso; (try simp only [Bool.not_eq_eq_eq_not, Bool.not_true, Bool.not_false, decide_eq_false_iff_not, decide_eq_true_eq] at *); first | omega | (have g0 := g rfl; omega) | (simp_all; done))
                          all_goals
                           refine rg ΦLP2_ok [2] trivial ?_
                           refine nx ?_
                           refine rt trivial ?_
                           repeat' first | (refine lf hK trivial ?_; clear hK K') | with_reducible apply And.intro | exact sd | exact sde trivial | exact sdp trivial | refine stk trivial ?_ | fail
                           all_goals
                            refine nx ?_
                            refine rt trivial ?_
                            repeat' first | (refine lf hK trivial ?_; clear hK K') | with_reducible apply And.intro | exact sd | exact sde trivial | exact sdp trivial | refine stk trivial ?_ | fail
                            all_goals
                             refine nx ?_
                             refine rt (And.intro hG szE) ?_
                             all_goals
                              refine And.intro ?_ ?_
                              ·simp only [List.getElem?_toArray, List.getElem?_cons_succ, List.getElem?_cons_zero, Option.toList_some, List.map_cons, List.map_nil]
                               dsimp only [strip, stripG]
                               simp -implicitDefEqProofs only [go_sem, (And.intro hG szE)]
                               repeat' first | with_reducible apply And.intro | exact sd | exact sde (And.intro hG szE) | exact sdp (And.intro hG szE) | fail
                               all_goals
                                refine And.intro ?_ ?_
                                ·simp only [List.getElem?_toArray, List.getElem?_cons_succ, List.getElem?_cons_zero, Option.toList_some, List.map_cons, List.map_nil]
                                 dsimp only [strip, stripG]
                                 simp -implicitDefEqProofs only [go_sem, (And.intro hG szE)]
                                 repeat' first | with_reducible apply And.intro | exact sd | exact sde (And.intro hG szE) | exact sdp (And.intro hG szE) | fail
                                 all_goals
                                  refine And.intro ?_ ?_
                                  ·simp only [List.getElem?_toArray, List.getElem?_cons_succ, List.getElem?_cons_zero, Option.toList_some, List.map_cons, List.map_nil]
                                   dsimp only [strip, stripG]
                                   simp -implicitDefEqProofs only [go_sem, (And.intro hG szE)]
                                   repeat' first | with_reducible apply And.intro | exact sd | exact sde (And.intro hG szE) | exact sdp (And.intro hG szE) | fail
                                   all_goals
                                    refine And.intro ?_ ?_
                                    ·simp only [List.getElem?_toArray, List.getElem?_cons_succ, List.getElem?_cons_zero, Option.toList_some, List.map_cons, List.map_nil]
                                     dsimp only [strip, stripG]
                                     simp -implicitDefEqProofs only [go_sem, (And.intro hG szE)]
                                     repeat' first | with_reducible apply And.intro | exact sd | exact sde (And.intro hG szE) | exact sdp (And.intro hG szE) | fail
                                     all_goals
                                      refine And.intro ?_ ?_
                                      ·simp only [List.getElem?_toArray, List.getElem?_cons_succ, List.getElem?_cons_zero, Option.toList_some, List.map_cons, List.map_nil]
                                       dsimp only [strip, stripG]
                                       simp -implicitDefEqProofs only [go_sem, (And.intro hG szE)]
                                       repeat' first | with_reducible apply And.intro | exact sd | exact sde (And.intro hG szE) | exact sdp (And.intro hG szE) | fail
                                       all_goals
                                        refine hK _ ?_; apply VC.atR hq.out; (try simp -implicitDefEqProofs only [go_sem, (And.intro hG szE)]); (try simp (disch := omega) only [i64_in, u64_in, tmodN, tdivN]); first | exact rfl | done
                                      ·skip
                                       exact trivial
                                    ·skip
                                     exact trivial
                                  ·skip
                                   exact trivial
                                ·skip
                                 exact trivial
                              ·skip
                               exact trivial
                         ·intro h; try exact absurd h (by decide)
                          try (exfalso; (try simp only [Bool.not_eq_eq_eq_not, Bool.not_true, Bool.not_false, decide_eq_false_iff_not, decide_eq_true_eq] at *); first | omega | (have g0 := g rfl; omega) | (simp_all; done))
                          all_goals
                           refine rg ΦLP2_ok [2] trivial ?_
                           refine nx ?_
                           refine rt trivial ?_
                           repeat' first | (refine lf hK trivial ?_; clear hK K') | with_reducible apply And.intro | exact sd | exact sde trivial | exact sdp trivial | refine stk trivial ?_ | fail
                           all_goals
                            refine nx ?_
                            refine rt trivial ?_
                            repeat' first | (refine lf hK trivial ?_; clear hK K') | with_reducible apply And.intro | exact sd | exact sde trivial | exact sdp trivial | refine stk trivial ?_ | fail
                            all_goals
                             refine nx ?_
                             refine rt (And.intro hG szE) ?_
                             all_goals
                              refine And.intro ?_ ?_
                              ·simp only [List.getElem?_toArray, List.getElem?_cons_succ, List.getElem?_cons_zero, Option.toList_some, List.map_cons, List.map_nil]
                               dsimp only [strip, stripG]
                               simp -implicitDefEqProofs only [go_sem, (And.intro hG szE)]
                               repeat' first | with_reducible apply And.intro | exact sd | exact sde (And.intro hG szE) | exact sdp (And.intro hG szE) | fail
                               all_goals
                                refine And.intro ?_ ?_
                                ·simp only [List.getElem?_toArray, List.getElem?_cons_succ, List.getElem?_cons_zero, Option.toList_some, List.map_cons, List.map_nil]
                                 dsimp only [strip, stripG]
                                 simp -implicitDefEqProofs only [go_sem, (And.intro hG szE)]
                                 repeat' first | with_reducible apply And.intro | exact sd | exact sde (And.intro hG szE) | exact sdp (And.intro hG szE) | fail
                                 all_goals
                                  refine And.intro ?_ ?_
                                  ·simp only [List.getElem?_toArray, List.getElem?_cons_succ, List.getElem?_cons_zero, Option.toList_some, List.map_cons, List.map_nil]
                                   dsimp only [strip, stripG]
                                   simp -implicitDefEqProofs only [go_sem, (And.intro hG szE)]
                                   repeat' first | with_reducible apply And.intro | exact sd | exact sde (And.intro hG szE) | exact sdp (And.intro hG szE) | fail
                                   all_goals
                                    refine And.intro ?_ ?_
                                    ·simp only [List.getElem?_toArray, List.getElem?_cons_succ, List.getElem?_cons_zero, Option.toList_some, List.map_cons, List.map_nil]
                                     dsimp only [strip, stripG]
                                     simp -implicitDefEqProofs only [go_sem, (And.intro hG szE)]
                                     repeat' first | with_reducible apply And.intro | exact sd | exact sde (And.intro hG szE) | exact sdp (And.intro hG szE) | fail
                                     all_goals
                                      refine And.intro ?_ ?_
                                      ·simp only [List.getElem?_toArray, List.getElem?_cons_succ, List.getElem?_cons_zero, Option.toList_some, List.map_cons, List.map_nil]
                                       dsimp only [strip, stripG]
                                       simp -implicitDefEqProofs only [go_sem, (And.intro hG szE)]
                                       repeat' first | with_reducible apply And.intro | exact sd | exact sde (And.intro hG szE) | exact sdp (And.intro hG szE) | fail
                                       all_goals
                                        refine hK _ ?_; apply VC.atR hq.out; (try simp -implicitDefEqProofs only [go_sem, (And.intro hG szE)]); (try simp (disch := omega) only [i64_in, u64_in, tmodN, tdivN]); first | exact rfl | done
                                      ·skip
                                       exact trivial
                                    ·skip
                                     exact trivial
                                  ·skip
                                   exact trivial
                                ·skip
                                 exact trivial
                              ·skip
                               exact trivial
                      ·skip
                       exact trivial
                   ·skip
                    exact trivial
                ·skip
                 exact trivial)
              refine nx ?_
              refine rt trE ?_
              repeat' first | (refine lf hK trE ?_; clear hK K') | with_reducible apply And.intro | exact sd | exact sde trE | exact sdp trE | refine stk trE ?_ | fail
              all_goals
               skip
               refine rB ΦLP2_ok [2, 8, 44] (And.intro hG (And.intro trE szE)) fun K' hK => ?_
               repeat' first | (refine lf hK (And.intro hG (And.intro trE szE)) ?_; clear hK K') | with_reducible apply And.intro | refine sA (And.intro hG (And.intro trE szE)) (fun _ => ?_) fun _ => ?_ | refine sAb (And.intro hG (And.intro trE szE)) (fun _ => ?_) fun _ => ?_ | refine sAl (And.intro hG (And.intro trE szE)) (fun g => ?_) fun g => ?_ | exact sd | exact sde (And.intro hG (And.intro trE szE)) | exact sdp (And.intro hG (And.intro trE szE)) | refine stk (And.intro hG (And.intro trE szE)) ?_ | fail
               all_goals
                refine cn ?_ ?_
                ·intro h; try exact absurd h (by decide)
                 try (exfalso; (try simp only [Bool.not_eq_eq_eq_not, Bool.not_true, Bool.not_false, decide_eq_false_iff_not, decide_eq_true_eq] at *); first | omega | (have g0 := g rfl; omega) | (simp_all; done))
                intro h; try exact absurd h (by decide)
                try (exfalso; (try simp only [Bool.not_eq_eq_eq_not, Bool.not_true, Bool.not_false, decide_eq_false_iff_not, decide_eq_true_eq] at *); first | omega | (have g0 := g rfl; omega) | (simp_all; done))
                refine rg ΦLP2_ok [2, 3] trE ?_
                refine nx ?_
                refine rt (And.intro trE eqT) ?_
                repeat' first | (refine lf hK trE ?_; clear hK K') | with_reducible apply And.intro | exact sd | exact sde trE | exact sdp trE | refine stk trE ?_ | fail
                all_goals
                 refine rg ΦLP_ok [5, 17, 18, 19, 20, 21, 22, 23, 24, 25] (And.intro trE eqT) ?_
                 refine rB ΦLP_ok [5, 17, 18, 19, 20, 21, 22, 23, 25, 26] (And.intro hR (And.intro trE eqT)) fun K' hK => ?_
                 repeat' first | (refine lf hK (And.intro hR (And.intro trE eqT)) ?_; clear hK K') | with_reducible apply And.intro | refine sA (And.intro hR (And.intro trE eqT)) (fun _ => ?_) fun _ => ?_ | refine sAb (And.intro hR (And.intro trE eqT)) (fun _ => ?_) fun _ => ?_ | refine sAl (And.intro hR (And.intro trE eqT)) (fun g => ?_) fun g => ?_ | exact sd | exact sde (And.intro hR (And.intro trE eqT)) | exact sdp (And.intro hR (And.intro trE eqT)) | refine stk (And.intro hR (And.intro trE eqT)) ?_ | fail
                 all_goals
                  refine rg ΦLP_ok [5, 17, 18, 19, 20, 21, 22, 23, 25, 26, 156, 157] (And.intro trE eqT) ?_
                  refine nx ?_
                  refine VC.loopP (ι := Nat × List UInt8) [5, 17, 18, 19, 20, 21, 22, 23, 25, 26, 156] (fun i => [(157, .dat (.int .i64 (i.1 : Int)))]) (fun i => [(2, .cells [.dat (.int .i64 t.cls), .dat (.int .i64 t.tag), .dat (.bool t.cons), .dat (.lst (bytesD t.bytes)), .dat (.lst (nodesD t.kids))] false), (10, .cells [.dat (.int .i64 t.cls), .dat (.int .i64 t.tag), .dat (.bool t.cons), .dat (.lst (bytesD t.bytes)), .dat (.lst (nodesD t.kids))] false), (28, .cells [.dat (.int .i64 (rdH (t.kids.getD 0 T.zero))), .dat (.bool (rdN (t.kids.getD 0 T.zero))), .sl 40 0 (t.kids.getD 1 T.zero).bytes.length] false), (40, .arr 5 1 (bytesD i.2) 0)]) (fun i => i.1 ≤ i.2.length ∧ i.2.length = (t.kids.getD 1 T.zero).bytes.length) (fun i => i.2.length - i.1) (0, (t.kids.getD 1 T.zero).bytes) ⟨Nat.zero_le _, rfl⟩ ?_ ?_
                  ·refine Ent.to rfl rfl rfl ?_ ?_
                   ·simp -implicitDefEqProofs only [go_sem, Nat.reduceLT, Nat.reduceAdd, Nat.reduceEqDiff, reduceIte, Nat.reduceMul, Nat.reduceSub, reduceCtorEq, Int.reduceNe, Int.reduceEq, ne_eq, Nat.reduceLeDiff, Nat.reduceMod, Nat.reduceDiv]; (try simp only [D.dat.injEq, Vm.Data.int.injEq, true_and, and_true, and_self, eq_self]); (try omega); (try ((repeat' apply And.intro) <;> first | omega | rfl))
                   ·(repeat' (first | exact all_nil | (refine all_cons ?_ ?_))) <;> (simp -implicitDefEqProofs only [go_sem, Nat.reduceLT, Nat.reduceAdd, Nat.reduceEqDiff, reduceIte, Nat.reduceMul, Nat.reduceSub, reduceCtorEq, Int.reduceNe, Int.reduceEq, ne_eq, Nat.reduceLeDiff, Nat.reduceMod, Nat.reduceDiv]; (try rfl); skip)
                  rintro ⟨k, l⟩ hp; try dsimp only at hp
                  obtain ⟨hp1, hp2⟩ := hp
                  refine st0 ?_
                  refine rg ΦLP_ok [5, 17, 18, 19, 20, 21, 22, 23, 25, 26, 156, 157, 158] (And.intro trE eqT) ?_
                  refine cn ?_ ?_
                  ·intro h; try exact absurd h (by decide)
                   try (exfalso; (try simp only [Bool.not_eq_eq_eq_not, Bool.not_true, Bool.not_false, decide_eq_false_iff_not, decide_eq_true_eq] at *); first | omega | (have g0 := g rfl; omega) | (simp_all; done))
                   all_goals
                    refine rg ΦLP_ok [5, 17, 18, 19, 20, 21, 22, 23, 25, 26, 27, 156, 157] (And.intro trE eqT) ?_
                    try have rb := bytesD_at (l := l) (k := k) (by omega)
                    refine rgL ΦLP_ok rb ?_
                    refine rgL ΦLP_ok (And.intro trE eqT) ?_
                    refine nx ?_
                    refine ⟨(k + 1, l.set k (byI (((l.getD k 0).toNat : Int) + 1))), ⟨by rw [List.length_set]; omega, by rw [List.length_set]; exact hp2⟩, Ent.to rfl rfl rfl ?_ ?_, by dsimp only; rw [List.length_set]; omega⟩
                    ·simp -implicitDefEqProofs only [go_sem, Nat.reduceLT, Nat.reduceAdd, Nat.reduceEqDiff, reduceIte, Nat.reduceMul, Nat.reduceSub, reduceCtorEq, Int.reduceNe, Int.reduceEq, ne_eq, Nat.reduceLeDiff, Nat.reduceMod, Nat.reduceDiv]; (try simp only [D.dat.injEq, Vm.Data.int.injEq, true_and, and_true, and_self, eq_self]); (try omega); (try ((repeat' apply And.intro) <;> first | omega | rfl))
                    ·(repeat' (first | exact all_nil | (refine all_cons ?_ ?_))) <;> (simp -implicitDefEqProofs only [go_sem, Nat.reduceLT, Nat.reduceAdd, Nat.reduceEqDiff, reduceIte, Nat.reduceMul, Nat.reduceSub, reduceCtorEq, Int.reduceNe, Int.reduceEq, ne_eq, Nat.reduceLeDiff, Nat.reduceMod, Nat.reduceDiv]; (try rfl); try rw [bytes_set])
                  ·intro h; try exact absurd h (by decide)
                   try (exfalso; (try simp only [Bool.not_eq_eq_eq_not, Bool.not_true, Bool.not_false, decide_eq_false_iff_not, decide_eq_true_eq] at *); first | omega | (have g0 := g rfl; omega) | (simp_all; done))
                   all_goals
                    refine rB ΦLP_ok [6] (And.intro hNE (And.intro hR (And.intro trE eqT))) fun K' hK => ?_
                    repeat' first | (refine lf hK (And.intro hNE (And.intro hR (And.intro trE eqT))) ?_; clear hK K') | with_reducible apply And.intro | refine sA (And.intro hNE (And.intro hR (And.intro trE eqT))) (fun _ => ?_) fun _ => ?_ | refine sAb (And.intro hNE (And.intro hR (And.intro trE eqT))) (fun _ => ?_) fun _ => ?_ | refine sAl (And.intro hNE (And.intro hR (And.intro trE eqT))) (fun g => ?_) fun g => ?_ | exact sd | exact sde (And.intro hNE (And.intro hR (And.intro trE eqT))) | exact sdp (And.intro hNE (And.intro hR (And.intro trE eqT))) | refine stk (And.intro hNE (And.intro hR (And.intro trE eqT))) ?_ | fail
                    all_goals
                     first
                     | exact fz (And.intro trE eqT))
end Go.Proofs.YtpajpkbipagjpaaGreatDoor.Oc
