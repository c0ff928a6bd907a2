/- What functions of the program, of its library and of the document compute: their contracts, and laws about what they compute (X12). No condition. -/
import Derived.Test.YtpajpkbipagjpaaGreatDoorX11
import Derived.Test.YtpajpkbipagjpaaGreatDoorX08
import Derived.Test.YtpajpkbipagjpaaGreatDoorX03
import Derived.Test.YtpajpkbipagjpaaGreatDoorX10
import Derived.Test.YtpajpkbipagjpaaGreatDoorX09
set_option linter.unusedVariables false
set_option linter.unusedSimpArgs false
namespace Go.Proofs.YtpajpkbipagjpaaGreatDoor.Oc
open Go Go.RowKit Go.Proofs.YtpajpkbipagjpaaGreatDoor.Vm Go.Proofs.YtpajpkbipagjpaaGreatDoor.Tr Go.IntWalk
set_option maxRecDepth 100000
set_option maxHeartbeats 4000000
theorem part_no {x : Rd} (h : x.kind < 1 ∨ 3 < x.kind ∨ (x.text.length : Int) = 0 ∨ 64 < (x.text.length : Int)) : partB x = false := by
 unfold partB
 rw [decide_eq_false (by omega), Bool.false_and]
theorem part_mid {x : Rd} (h1 : ¬ x.kind < 1) (h2 : ¬ 3 < x.kind) (h3 : ¬ (x.text.length : Int) = 0) (h4 : ¬ 64 < (x.text.length : Int)) : partB x = (fits2 x.print x.text && decide (¬ x.kind = 3 ∨ x.print = true ∧ x.text.length = 2)) := by
 unfold partB
 rw [decide_eq_true (by omega), Bool.true_and]
noncomputable def ΦPRT : Fns := tab [(80, clabelF), (116, checkLF)]
theorem ΦPRT_ok : Sound E ΦPRT := sound_cons (by kernel_rfl) clabel_ok (sound_cons (by kernel_rfl) checkL_ok (sound_nil))
@[go_sem] theorem ΦPRT_r : ΦPRT 80 = some clabelF ∧ ΦPRT 116 = some checkLF := ⟨rfl, rfl⟩
@[go_sem] noncomputable def cpartF : PFn := PF [SR] (fun (x : Rd) => x.text.length ≤ 90000) (fun (x : Rd) => [.bool (partB x)])
theorem cpart_ok : Pure E 78 cpartF := Pure.of_sig (rs := [.tmp 2]) (n := 42) Tryz.func78 rfl rfl rfl (Nat.le_of_ble_eq_true rfl) (by
 intro (x : Rd) hds
 refine st0 ?_
 refine rg ΦPRT_ok [1] trivial ?_
 refine rB ΦPRT_ok [1, 22] trivial fun K' hK => ?_
 repeat' first | (refine lf hK trivial ?_; clear hK K') | with_reducible apply And.intro | refine sA trivial (fun _ => ?_) fun _ => ?_ | refine sAb trivial (fun _ => ?_) fun _ => ?_ | refine sAl trivial (fun g => ?_) fun g => ?_ | exact sd | exact sde trivial | exact sdp trivial | refine stk trivial ?_ | fail
 all_goals
  refine cn ?_ ?_
  ·intro h; try exact absurd h (by decide)
   all_goals
    have hy := part_no (x := x) (by (try simp only [Bool.not_eq_eq_eq_not, Bool.not_true, Bool.not_false, decide_eq_false_iff_not, decide_eq_true_eq] at *); omega)
    refine rg ΦPRT_ok [2] trivial ?_
    exact fz hy
  ·intro h; try exact absurd h (by decide)
   all_goals
    have hm := part_mid (x := x) (by (try simp only [Bool.not_eq_eq_eq_not, Bool.not_true, Bool.not_false, decide_eq_false_iff_not, decide_eq_true_eq] at *); omega) (by (try simp only [Bool.not_eq_eq_eq_not, Bool.not_true, Bool.not_false, decide_eq_false_iff_not, decide_eq_true_eq] at *); omega) (by (try simp only [Bool.not_eq_eq_eq_not, Bool.not_true, Bool.not_false, decide_eq_false_iff_not, decide_eq_true_eq] at *); omega) (by (try simp only [Bool.not_eq_eq_eq_not, Bool.not_true, Bool.not_false, decide_eq_false_iff_not, decide_eq_true_eq] at *); omega)
    refine rB ΦPRT_ok [2] trivial fun K' hK => ?_
    repeat' first | (refine lf hK trivial ?_; clear hK K') | with_reducible apply And.intro | refine sA trivial (fun _ => ?_) fun _ => ?_ | refine sAb trivial (fun _ => ?_) fun _ => ?_ | refine sAl trivial (fun g => ?_) fun g => ?_ | exact sd | exact sde trivial | exact sdp trivial | refine stk trivial ?_ | fail
    all_goals
     refine fi trivial ?_
     rw [hm]
     cases hv : fits2 x.print x.text
     ·simp_all
     ·first
      | (simp_all; done)
      | (simp_all; omega)
      | (simp_all; rw [decide_eq_decide]; omega))
end Go.Proofs.YtpajpkbipagjpaaGreatDoor.Oc
namespace Go.Proofs.YtpajpkbipagjpaaGreatDoor.Oc
open Go Go.RowKit Go.Proofs.YtpajpkbipagjpaaGreatDoor.Vm Go.Proofs.YtpajpkbipagjpaaGreatDoor.Tr Go.IntWalk
set_option maxRecDepth 100000
set_option maxHeartbeats 4000000
def okTo (n : List Rd) (i : Nat) : Prop := ∀ j, j < i → partB (n.getD j Rd.zero) = true
theorem nm_no {n : List Rd} (h : n.length < 1 ∨ 8 < n.length) : nameT n = T.zero ∧ nameE n = 200 := by
 have : nameOk n = false := by unfold nameOk; rw [decide_eq_false (by omega), Bool.false_and]
 exact ⟨by unfold nameT; rw [this]; rfl, by unfold nameE; rw [this]; rfl⟩
theorem nm_bad {n : List Rd} {i : Nat} (hi : i < n.length) (h : partB (n.getD i Rd.zero) = false) : nameT n = T.zero ∧ nameE n = 200 := by
 have hm : n.getD i Rd.zero ∈ n := by rw [List.getD_eq_getElem?_getD, List.getElem?_eq_getElem hi]; exact List.getElem_mem hi
 have : nameOk n = false := by
  unfold nameOk
  cases ha : n.all partB with
  | false => rw [Bool.and_false]
  | true => rw [List.all_eq_true.1 ha _ hm] at h; cases h
 exact ⟨by unfold nameT; rw [this]; rfl, by unfold nameE; rw [this]; rfl⟩
theorem nm_ok {n : List Rd} (h1 : 1 ≤ n.length ∧ n.length ≤ 8) (h : ∀ j, j < n.length → partB (n.getD j Rd.zero) = true) : nameT n = seqT (n.map rdnT) ∧ nameE n = 0 := by
 have : nameOk n = true := by
  unfold nameOk
  rw [decide_eq_true h1, Bool.true_and, List.all_eq_true]
  intro x hx
  obtain ⟨j, hj, rfl⟩ := List.mem_iff_getElem.1 hx
  have := h j hj
  rwa [List.getD_eq_getElem?_getD, List.getElem?_eq_getElem hj] at this
 exact ⟨by unfold nameT; rw [this]; rfl, by unfold nameE; rw [this]; rfl⟩
theorem rdn_take {n : List Rd} {i : Nat} (hi : i < n.length) : (n.take i).map rdnT ++ [rdnT (n.getD i Rd.zero)] = (n.take (i + 1)).map rdnT := by
 rw [List.take_add_one, List.map_append, List.getD_eq_getElem?_getD, List.getElem?_eq_getElem hi]; rfl
theorem rdn_all {n : List Rd} {i : Nat} (h : n.length ≤ i) : (n.take i).map rdnT = n.map rdnT := by rw [List.take_of_length_le h]
def nmB (n : List Rd) : Prop := n.length ≤ 4611686018427387904 ∧ ∀ j, (n.getD j Rd.zero).text.length ≤ 20000
theorem rdnT_sz {r : Rd} (h : r.text.length ≤ 64) : (rdnT r).sz ≤ 300 := by
 have := namedB_len (kindN r.kind)
 unfold rdnT labelT
 simp only [sz_set, sz_seq, T.szs_cons, sz_prim, T.szs_nil]
 omega
theorem part_len {r : Rd} (h : partB r = true) : r.text.length ≤ 64 ∧ 1 ≤ r.kind ∧ r.kind ≤ 3 := by
 unfold partB at h
 simp only [Bool.and_eq_true, decide_eq_true_eq] at h
 exact ⟨h.1.2.2.2, h.1.1, h.1.2.1⟩
theorem szs_rdn : ∀ (l : List Rd), (∀ r ∈ l, partB r = true) → T.szs (l.map rdnT) ≤ 300 * l.length
 | [], _ => by simp [T.szs_nil]
 | r :: l, h => by
   have h1 := rdnT_sz (part_len (h r (by simp))).1
   have h2 := szs_rdn l fun x hx => h x (by simp [hx])
   rw [List.map_cons, T.szs_cons, List.length_cons]; omega
theorem szs_take {n : List Rd} {i : Nat} (h8 : n.length ≤ 8) (h : okTo n i) (hi : i ≤ n.length) : T.szs ((n.take i).map rdnT) ≤ 2400 := by
 have h1 := szs_rdn (n.take i) fun r hr => by
  obtain ⟨j, hj, rfl⟩ := List.mem_iff_getElem.1 hr
  rw [List.length_take] at hj
  have := h j (by omega)
  rw [List.getElem_take]
  rwa [List.getD_eq_getElem?_getD, List.getElem?_eq_getElem (by omega)] at this
 rw [List.length_take] at h1
 omega
end Go.Proofs.YtpajpkbipagjpaaGreatDoor.Oc
namespace Go.Proofs.YtpajpkbipagjpaaGreatDoor.Oc
open Go Go.RowKit Go.Proofs.YtpajpkbipagjpaaGreatDoor.Vm Go.Proofs.YtpajpkbipagjpaaGreatDoor.Tr Go.IntWalk
set_option maxRecDepth 100000
set_option maxHeartbeats 4000000
theorem kE {k : Int} (h : 1 ≤ k ∧ k ≤ 3) : (kindsD.drop (k.toNat * 1)).take 1 = [.str (kindN k)] := by
 have : k = 1 ∨ k = 2 ∨ k = 3 := by omega
 rcases this with rfl | rfl | rfl <;> rfl
theorem kL : kindsD.length = 4 := rfl
theorem nodes1 (t : T) : [[.int .i64 t.cls, .int .i64 t.tag, .bool t.cons, .lst (bytesD t.bytes), .lst (nodesD t.kids)]] = nodesD [t] := by rw [nodesD_cons, nodesD_nil, nodeC_eq]
theorem rdnC (r : Rd) : nodeC (rdnT r) = [.int .i64 0, .int .i64 17, .bool true, .lst (bytesD []), .lst (nodesD [seqT [primT 6 (namedB (kindN r.kind)), labelT r]])] := by unfold rdnT setT; rw [nodeC]
theorem rdn_row {l : List T} {r : Rd} : nodesD l ++ [[.int .i64 0, .int .i64 17, .bool true, .lst (bytesD []), .lst (nodesD [seqT [primT 6 (namedB (kindN r.kind)), labelT r]])]] = nodesD (l ++ [rdnT r]) := by
 rw [← nodesD_append, show nodesD [rdnT r] = [nodeC (rdnT r)] by rw [nodesD_cons, nodesD_nil], rdnC]
theorem label_sz {r : Rd} (h : partB r = true) : (labelT r).sz ≤ 69 := by
 have := (part_len h).1
 unfold labelT
 rw [sz_prim]; omega
noncomputable def ΦBN : Fns := tab [(78, cpartF), (80, clabelF), (59, cnamedF), (62, cseqF), (79, consF)]
theorem ΦBN_ok : Sound E1 ΦBN := sound_cons (by kernel_rfl) (lift1 cpart_ok) (sound_cons (by kernel_rfl) (lift1 clabel_ok) (sound_cons (by kernel_rfl) (lift1 cnamed_ok) (sound_cons (by kernel_rfl) (lift1 cseq_ok) (sound_cons (by kernel_rfl) (lift1 cons_ok) (sound_nil)))))
@[go_sem] theorem ΦBN_r : ΦBN 78 = some cpartF ∧ ΦBN 80 = some clabelF ∧ ΦBN 59 = some cnamedF ∧ ΦBN 62 = some cseqF ∧ ΦBN 79 = some consF := ⟨rfl, rfl, rfl, rfl, rfl⟩
@[go_sem] noncomputable def bname_1F : PFn := PF [SRs] (fun (n : List Rd) => nmB n) (fun (n : List Rd) => [nodeD (nameT n), .int .i64 (nameE n)])
theorem bname_1_ok : Pure E1 21 bname_1F := Pure.of_sig (rs := [.cell 2 25, .tmp 3]) (n := 43) Tryz.func21 rfl rfl rfl (Nat.le_of_ble_eq_true rfl) (by
 intro (n : List Rd) hds
 obtain ⟨hnl, htx⟩ := hds
 refine st0 ?_
 refine rg ΦBN_ok [0, 2] szE ?_
 refine rB ΦBN_ok [0, 2, 14] szE fun K' hK => ?_
 repeat' first | (refine lf hK szE ?_; clear hK K') | with_reducible apply And.intro | refine sA szE (fun _ => ?_) fun _ => ?_ | refine sAb szE (fun _ => ?_) fun _ => ?_ | refine sAl szE (fun g => ?_) fun g => ?_ | exact sd | exact sde szE | exact sdp szE | refine stk szE ?_ | fail
 all_goals
  refine cn ?_ ?_
  ·intro h; try exact absurd h (by decide)
   all_goals
    have hy := And.intro (nm_no (n := n) (by first | exact .inl (by omega) | exact .inr (by omega))) zeroE
    refine rg ΦBN_ok [2, 3] szE ?_
    first
    | (rw [← hlx] at hy; exact fz hy)
    | exact fz hy
    | (rw [← hlx] at hy; exact fz hy)
  ·intro h; try exact absurd h (by decide)
   all_goals
    refine rg ΦBN_ok [0, 2, 4] szE ?_
    refine rg ΦBN_ok [2, 4, 16, 17, 18] szE ?_
    refine nx ?_
    refine VC.loopP (ι := Nat × List T) [0, 2, 16, 17] (fun z => [(4, .sl 2 0 z.2.length), (18, .dat (.int .i64 (z.1 : Int)))]) (fun z => [(1, .cells [.dat (.int .i64 0), .dat (.int .i64 0), .dat (.bool false), .nilsl, .nilsl] false), (2, .arr 25 5 (nodesD z.2) 0)]) (fun z => z.1 ≤ n.length ∧ okTo n z.1 ∧ z.2 = (n.take z.1).map rdnT) (fun z => n.length - z.1) (0, []) ⟨Nat.zero_le _, (fun j hj => absurd hj (Nat.not_lt_zero _)), rfl⟩ ?_ ?_
    ·refine (Ent.nilT 4 2 25 5 (by decide) (by simp -implicitDefEqProofs only [go_sem, Nat.reduceLT, Nat.reduceAdd, Nat.reduceEqDiff, reduceIte, Nat.reduceMul, Nat.reduceSub, reduceCtorEq, Int.reduceNe, Int.reduceEq, ne_eq, Nat.reduceLeDiff, Nat.reduceMod, Nat.reduceDiv]) (by simp -implicitDefEqProofs only [go_sem, Nat.reduceLT, Nat.reduceAdd, Nat.reduceEqDiff, reduceIte, Nat.reduceMul, Nat.reduceSub, reduceCtorEq, Int.reduceNe, Int.reduceEq, ne_eq, Nat.reduceLeDiff, Nat.reduceMod, Nat.reduceDiv])).trans (Ent.to rfl rfl rfl ?_ ?_)
     ·simp -implicitDefEqProofs only [go_sem, Nat.reduceLT, Nat.reduceAdd, Nat.reduceEqDiff, reduceIte, Nat.reduceMul, Nat.reduceSub, reduceCtorEq, Int.reduceNe, Int.reduceEq, ne_eq, Nat.reduceLeDiff, Nat.reduceMod, Nat.reduceDiv]; (try simp only [D.dat.injEq, Vm.Data.int.injEq, true_and, and_true, and_self, eq_self]); (try omega); (try ((repeat' apply And.intro) <;> first | omega | rfl))
     ·(repeat' (first | exact all_nil | (refine all_cons ?_ ?_))) <;> (simp -implicitDefEqProofs only [go_sem, Nat.reduceLT, Nat.reduceAdd, Nat.reduceEqDiff, reduceIte, Nat.reduceMul, Nat.reduceSub, reduceCtorEq, Int.reduceNe, Int.reduceEq, ne_eq, Nat.reduceLeDiff, Nat.reduceMod, Nat.reduceDiv]; (try rfl); (try rw [nodesD_nil]))
    rintro ⟨i, l⟩ hp; (try dsimp only at hp); obtain ⟨hi, hok, hl⟩ := hp
    have hll : l.length = i := by rw [hl, List.length_map, List.length_take]; omega
    have hsz : T.szs l ≤ 2400 := by rw [hl]; exact szs_take (by omega) hok hi
    refine st0 ?_
    refine rg ΦBN_ok [0, 2, 4, 16, 17, 18, 19] szE ?_
    refine cn ?_ ?_
    ·intro h; try exact absurd h (by decide)
     all_goals
      have ri := rdsD_at (l := n) (k := i) (by omega)
      have hti := htx i
      refine rg ΦBN_ok [0, 2, 4, 6, 16, 17, 18] ri ?_
      refine rg ΦBN_ok [0, 2, 4, 6, 16, 17, 18, 24] szE ?_
      refine cn ?_ ?_
      ·intro h; try exact absurd h (by decide)
       all_goals
        have hy := And.intro (nm_bad (n := n) (i := i) (by omega) (by simp_all)) zeroE
        refine rg ΦBN_ok [2, 3] szE ?_
        first
        | (rw [← hlx] at hy; exact fz hy)
        | exact fz hy
        | (rw [← hlx] at hy; exact fz hy)
      ·intro h; try exact absurd h (by decide)
       all_goals
        have hpt : partB (n.getD i Rd.zero) = true := by simp_all
        have hpl := part_len hpt
        have hk := kE hpl.2
        have hlb := namedB_len (kindN (n.getD i Rd.zero).kind)
        have hls := label_sz hpt
        refine rdL ΦBN_ok 13 (And.intro hk (And.intro kL szE)) ?_
        refine rgL ΦBN_ok szE ?_
        refine nx ?_
        refine ⟨(i + 1, l ++ [rdnT (n.getD i Rd.zero)]), ⟨by dsimp only; omega, fun j hj => ?_, by dsimp only; rw [hl]; exact rdn_take (by omega)⟩, Ent.to rfl rfl rfl ?_ ?_, by dsimp only; omega⟩
        ·rcases Nat.lt_succ_iff_lt_or_eq.1 hj with hj | rfl
         ·exact hok j hj
         ·exact hpt
        ·simp -implicitDefEqProofs only [go_sem, Nat.reduceLT, Nat.reduceAdd, Nat.reduceEqDiff, reduceIte, Nat.reduceMul, Nat.reduceSub, reduceCtorEq, Int.reduceNe, Int.reduceEq, ne_eq, Nat.reduceLeDiff, Nat.reduceMod, Nat.reduceDiv]; (try simp only [List.length_append, List.length_cons, List.length_nil]); (try simp only [D.dat.injEq, Vm.Data.int.injEq, true_and, and_true, and_self, eq_self]); (try omega); (try ((repeat' apply And.intro) <;> first | omega | rfl))
        ·(repeat' (first | exact all_nil | (refine all_cons ?_ ?_))) <;> (simp -implicitDefEqProofs only [go_sem, Nat.reduceLT, Nat.reduceAdd, Nat.reduceEqDiff, reduceIte, Nat.reduceMul, Nat.reduceSub, reduceCtorEq, Int.reduceNe, Int.reduceEq, ne_eq, Nat.reduceLeDiff, Nat.reduceMod, Nat.reduceDiv]; (try rfl); (try simp only [rdn_row]))
    ·intro h; try exact absurd h (by decide)
     all_goals
      have hy := nm_ok (n := n) (by omega) (fun j hj => hok j (by omega))
      have hlx : l = n.map rdnT := hl.trans (rdn_all (by omega))
      refine rg ΦBN_ok [2, 3] szE ?_
      first
      | (rw [← hlx] at hy; exact fz hy)
      | exact fz hy
      | (rw [← hlx] at hy; exact fz hy))
end Go.Proofs.YtpajpkbipagjpaaGreatDoor.Oc
namespace Go.Proofs.YtpajpkbipagjpaaGreatDoor.Oc
open Go Go.RowKit Go.Proofs.YtpajpkbipagjpaaGreatDoor.Vm Go.Proofs.YtpajpkbipagjpaaGreatDoor.Tr Go.IntWalk
set_option maxRecDepth 100000
set_option maxHeartbeats 4000000
def rrnN (t : T) : List Rd := if rrnOk t then rnN t else []
def rrnE (t : T) : Int := if rrnOk t then 0 else 200
theorem rrn_f {t : T} (h : rrnOk t = false) : rrnN t = [] ∧ rrnE t = 200 ∧ rdsD [] = [] := ⟨by unfold rrnN; rw [h]; rfl, by unfold rrnE; rw [h]; rfl, rfl⟩
theorem rrn_t {t : T} (h : rrnOk t = true) : rrnN t = rnN t ∧ rrnE t = 0 := ⟨by unfold rrnN; rw [h]; rfl, by unfold rrnE; rw [h]; rfl⟩
theorem rrn_no1 {t : T} (h : ¬ hasT t 0 16 t.kids.length) : rrnOk t = false := by
 unfold rrnOk; rw [decide_eq_false (fun hc => h hc.1), Bool.false_and]
theorem rrn_no2 {t : T} {i : Nat} (hi : i < t.kids.length) (h : ¬ okRd (t.kids.getD i T.zero)) : rrnOk t = false := by
 unfold rrnOk
 have hm : t.kids.getD i T.zero ∈ t.kids := by rw [List.getD_eq_getElem?_getD, List.getElem?_eq_getElem hi]; exact List.getElem_mem hi
 rw [decide_eq_false (fun hc => h (hc.2 _ hm)), Bool.false_and]
theorem nmE_ok {n : List Rd} : (nameE n = 0 ↔ nameOk n = true) ∧ (¬ nameE n = 0 ↔ nameOk n = false) := by
 unfold nameE; cases nameOk n <;> simp
theorem rrn_no3 {t : T} (h : ¬ nameE (rnN t) = 0) : rrnOk t = false := by
 unfold rrnOk; rw [nmE_ok.2.1 h, Bool.and_false]
theorem rrn_yes {t : T} (h1 : hasT t 0 16 t.kids.length) (h2 : ∀ j, j < t.kids.length → okRd (t.kids.getD j T.zero)) (h3 : nameE (rnN t) = 0) : rrnOk t = true := by
 unfold rrnOk
 rw [nmE_ok.1.1 h3, Bool.and_true]
 refine decide_eq_true ⟨h1, fun x hx => ?_⟩
 obtain ⟨j, hj, rfl⟩ := List.mem_iff_getElem.1 hx
 have := h2 j hj
 rwa [List.getD_eq_getElem?_getD, List.getElem?_eq_getElem hj] at this
theorem rdO_take {l : List T} {i : Nat} (hi : i < l.length) : (l.take i).map rdOf ++ [rdOf (l.getD i T.zero)] = (l.take (i + 1)).map rdOf := by
 rw [List.take_add_one, List.map_append, List.getD_eq_getElem?_getD, List.getElem?_eq_getElem hi]; rfl
theorem rdO_all {t : T} {i : Nat} (h : t.kids.length ≤ i) : (t.kids.take i).map rdOf = rnN t := by rw [List.take_of_length_le h]; rfl
theorem kid_sz' (t : T) (i : Nat) : (kid t i).sz ≤ t.sz := by
 unfold kid
 rcases Nat.lt_or_ge i t.kids.length with h | h
 ·exact Nat.le_of_lt (kid_lt h)
 ·rw [List.getD_eq_getElem?_getD, List.getElem?_eq_none h]
  have := T.sz_eq t
  rw [Option.getD_none, zeq]; omega
theorem rd_len (x : T) : (rdOf x).text.length ≤ x.sz := by
 have h1 := kid_sz' x 0
 have h2 := kid_sz' (kid x 0) 1
 have h3 := T.sz_eq (kid (kid x 0) 1)
 show (kid (kid x 0) 1).bytes.length ≤ x.sz
 omega
theorem rn_B {t : T} (h : t.sz ≤ 20000) : nmB (rnN t) := by
 have hl := kids_len t
 refine ⟨by unfold rnN; rw [List.length_map]; omega, fun j => ?_⟩
 unfold rnN
 rw [List.getD_eq_getElem?_getD, List.getElem?_map]
 rcases Nat.lt_or_ge j t.kids.length with hj | hj
 ·rw [List.getElem?_eq_getElem hj]
  have h1 := rd_len t.kids[j]
  have h2 := T.kid_sz (List.getElem_mem hj)
  simp only [Option.map_some, Option.getD_some]
  omega
 ·rw [List.getElem?_eq_none hj]; simp [Rd.zero]
def whT (k : T) : Nat → Int
 | 0 => 0
 | m + 1 => if k = primT 6 (namedB (kindN ((m + 1 : Nat) : Int))) then ((m + 1 : Nat) : Int) else whT k m
theorem whT_3 (k : T) : whT k 3 = whichK k := by
 unfold whT whT whT whT whichK
 simp only [eq_comm (a := k)]
 rfl
theorem whT_hit {k : T} {m : Nat} (hm : 1 ≤ m) (h : k = primT 6 (namedB (kindN (m : Int)))) : whT k m = (m : Int) := by
 obtain ⟨j, rfl⟩ : ∃ j, m = j + 1 := ⟨m - 1, by omega⟩
 rw [whT, if_pos h]
theorem whT_miss {k : T} {m : Nat} (hm : 1 ≤ m) (h : ¬ k = primT 6 (namedB (kindN (m : Int)))) : whT k m = whT k (m - 1) := by
 obtain ⟨j, rfl⟩ : ∃ j, m = j + 1 := ⟨m - 1, by omega⟩
 rw [whT, if_neg h]; rfl
theorem rdO_row {l : List Rd} {x : T} {w : Int} (hw : w = (rdOf x).kind) : rdsD l ++ [[.int .i64 w, .str ((x.kids.getD 0 T.zero).kids.getD 1 T.zero).bytes, .bool (decide (((x.kids.getD 0 T.zero).kids.getD 1 T.zero).tag = 19))]] = rdsD (l ++ [rdOf x]) := by
 subst hw
 rw [rdsD_snoc]; rfl
end Go.Proofs.YtpajpkbipagjpaaGreatDoor.Oc
namespace Go.Proofs.YtpajpkbipagjpaaGreatDoor.Oc
open Go Go.RowKit Go.Proofs.YtpajpkbipagjpaaGreatDoor.Vm Go.Proofs.YtpajpkbipagjpaaGreatDoor.Tr Go.IntWalk
set_option maxRecDepth 100000
set_option maxHeartbeats 4000000
def prnN (t : T) : List Rd := if rnOk t then rnN t else []
def prnE (t : T) : Int := if rnOk t then 0 else 200
theorem prn_f {t : T} (h : rnOk t = false) : prnN t = [] ∧ prnE t = 200 ∧ rdsD [] = [] := ⟨by unfold prnN; rw [h]; rfl, by unfold prnE; rw [h]; rfl, rfl⟩
theorem prn_t {t : T} (h : rnOk t = true) : prnN t = rnN t ∧ prnE t = 0 := ⟨by unfold prnN; rw [h]; rfl, by unfold prnE; rw [h]; rfl⟩
theorem prn_no1 {t : T} (h : ¬ nameE (rnN t) = 0) : rnOk t = false := by unfold rnOk; rw [nmE_ok.2.1 h, Bool.false_and]
theorem prn_no2 {t : T} (h : ¬ nameT (rnN t) = t) : rnOk t = false := by unfold rnOk; rw [decide_eq_false h, Bool.and_false]
theorem prn_yes {t : T} (h : nameE (rnN t) = 0) (h2 : nameT (rnN t) = t) : rnOk t = true := by unfold rnOk; rw [nmE_ok.1.1 h, decide_eq_true h2]; rfl
theorem rdO_row3 {l : List Rd} {x : T} {a b : List UInt8} {c : Bool} (ha : a = (kid (kid x 0) 0).bytes) (hb : b = (kid (kid x 0) 1).bytes) (hc : c = decide ((kid (kid x 0) 1).tag = 19)) : rdsD l ++ [[.int .i64 (idxK (nameOf a)), .str b, .bool c]] = rdsD (l ++ [rdOf x]) := by
 subst ha hb hc
 rw [rdsD_snoc]; rfl
theorem kid_nil {t : T} (h : (t.kids.length : Int) = 0) (i : Nat) : t.kids.getD i T.zero = T.zero := by rw [List.eq_nil_of_length_eq_zero (show t.kids.length = 0 by omega)]; rfl
theorem kb {x : T} : ((x.kids.getD 0 T.zero).kids.getD 0 T.zero).bytes.length ≤ x.sz := by
 have h1 := kid_sz' x 0
 have h2 := kid_sz' (kid x 0) 0
 have h3 := T.sz_eq (kid (kid x 0) 0)
 show (kid (kid x 0) 0).bytes.length ≤ x.sz
 omega
theorem kdrop (l : List T) : (l.drop 1).take ((l.length : Int) - 1).toNat = l.drop 1 := List.take_of_length_le (by rw [List.length_drop]; omega)
theorem kid_out {t : T} (h : (((t.kids.drop 1).take ((t.kids.length : Int) - 1).toNat).length : Int) = 0) : t.kids.getD 1 T.zero = T.zero := by
 rw [kdrop, List.length_drop] at h
 rw [List.getD_eq_getElem?_getD, List.getElem?_eq_none (by omega)]; rfl
theorem kget (l : List T) : ((l.drop 1).take ((l.length : Int) - 1).toNat).getD 0 T.zero = l.getD 1 T.zero := by
 rw [kdrop, List.getD_eq_getElem?_getD, List.getElem?_drop, List.getD_eq_getElem?_getD]
theorem nameT_sz (n : List Rd) : (nameT n).sz ≤ 5000 := by
 unfold nameT
 split
 ·rename_i h
  unfold nameOk at h
  simp only [Bool.and_eq_true, decide_eq_true_eq, List.all_eq_true] at h
  have := szs_rdn n h.2
  rw [sz_seq]; omega
 ·decide
noncomputable def ΦPN : Fns := tab [(75, onameF), (85, sindexF), (21, bname_1F), (76, same0F)]
theorem ΦPN_ok : Sound E1 ΦPN := sound_cons (by kernel_rfl) (lift1 oname_ok) (sound_cons (by kernel_rfl) (lift1 sindex_ok) (sound_cons (by kernel_rfl) bname_1_ok (sound_cons (by kernel_rfl) (lift1 same0_ok) (sound_nil))))
@[go_sem] theorem ΦPN_r : ΦPN 75 = some onameF ∧ ΦPN 85 = some sindexF ∧ ΦPN 21 = some bname_1F ∧ ΦPN 76 = some same0F ∧ ΦPN 72 = none ∧ ΦPN 73 = none := ⟨rfl, rfl, rfl, rfl, rfl, rfl⟩
@[go_sem] noncomputable def rname_1F : PFn := PF [ST] (fun (t : T) => t.sz ≤ 20000) (fun (t : T) => [.lst (rdsD (prnN t)), .int .i64 (prnE t)])
theorem rname_1_ok : Pure E1 25 rname_1F := Pure.of_sig (rs := [.tmp 2, .tmp 3]) (n := 58) Tryz.func25 rfl rfl rfl (Nat.le_of_ble_eq_true rfl) (by
 intro (t : T) hds
 have hkl := kids_len t
 have hB := rn_B hds
 refine st0 ?_
 refine rg ΦPN_ok [1] trE ?_
 refine rg ΦPN_ok [1, 4] trE ?_
 refine rg ΦPN_ok [1, 4, 13, 14, 15] trE ?_
 refine nx ?_
 refine VC.loopP (ι := Nat × List Rd) [1, 13, 14] (fun z => [(4, .sl 2 0 z.2.length), (15, .dat (.int .i64 (z.1 : Int)))]) (fun z => [(1, .cells [.dat (.int .i64 t.cls), .dat (.int .i64 t.tag), .dat (.bool t.cons), .dat (.lst (bytesD t.bytes)), .dat (.lst (nodesD t.kids))] false), (2, .arr 52 3 (rdsD z.2) 0)]) (fun z => z.1 ≤ t.kids.length ∧ z.2 = (t.kids.take z.1).map rdOf) (fun z => t.kids.length - z.1) (0, []) ⟨Nat.zero_le _, rfl⟩ ?_ ?_
 ·refine (Ent.nilT 4 2 52 3 (by decide) (by simp -implicitDefEqProofs only [go_sem, Nat.reduceLT, Nat.reduceAdd, Nat.reduceEqDiff, reduceIte, Nat.reduceMul, Nat.reduceSub, reduceCtorEq, Int.reduceNe, Int.reduceEq, ne_eq, Nat.reduceLeDiff, Nat.reduceMod, Nat.reduceDiv]) (by simp -implicitDefEqProofs only [go_sem, Nat.reduceLT, Nat.reduceAdd, Nat.reduceEqDiff, reduceIte, Nat.reduceMul, Nat.reduceSub, reduceCtorEq, Int.reduceNe, Int.reduceEq, ne_eq, Nat.reduceLeDiff, Nat.reduceMod, Nat.reduceDiv])).trans (Ent.to rfl rfl rfl ?_ ?_)
  ·simp -implicitDefEqProofs only [go_sem, Nat.reduceLT, Nat.reduceAdd, Nat.reduceEqDiff, reduceIte, Nat.reduceMul, Nat.reduceSub, reduceCtorEq, Int.reduceNe, Int.reduceEq, ne_eq, Nat.reduceLeDiff, Nat.reduceMod, Nat.reduceDiv]; (try simp only [D.dat.injEq, Vm.Data.int.injEq, true_and, and_true, and_self, eq_self]); (try omega); (try ((repeat' apply And.intro) <;> first | omega | rfl))
  ·(repeat' (first | exact all_nil | (refine all_cons ?_ ?_))) <;> (simp -implicitDefEqProofs only [go_sem, Nat.reduceLT, Nat.reduceAdd, Nat.reduceEqDiff, reduceIte, Nat.reduceMul, Nat.reduceSub, reduceCtorEq, Int.reduceNe, Int.reduceEq, ne_eq, Nat.reduceLeDiff, Nat.reduceMod, Nat.reduceDiv]; (try rfl); (try rw [rdsD_nil]))
 rintro ⟨i, l⟩ hp; (try dsimp only at hp); obtain ⟨hi, hl⟩ := hp
 have hll : l.length = i := by rw [hl, List.length_map, List.length_take]; omega
 refine st0 ?_
 refine rg ΦPN_ok [1, 4, 13, 14, 15, 16] trE ?_
 refine cn ?_ ?_
 ·intro h; try exact absurd h (by decide)
  try (exfalso; (try simp only [Bool.not_eq_eq_eq_not, Bool.not_true, Bool.not_false, decide_eq_false_iff_not, decide_eq_true_eq] at *); omega)
  all_goals
   have hxs := kid_lt (t := t) (i := i) (by omega)
   refine rg ΦPN_ok [1, 4, 6, 13, 14, 15] trE ?_
   refine rB ΦPN_ok [1, 4, 7, 13, 14, 15] trE fun K' hK => ?_
   repeat' first | with_reducible apply And.intro | exact sd | exact sde trE | exact sdp trE | refine stk trE ?_ | fail
   refine ec (rs := [.tmp 2]) (n := 7) Tryz.func72 rfl rfl rfl ?_
   refine rg ΦPN_ok [1] trE ?_
   refine rg ΦPN_ok [2] trE ?_
   refine nx ?_
   refine rt trE ?_
   repeat' first | with_reducible apply And.intro | exact sd | exact sde trE | exact sdp trE | refine stk trE ?_ | fail
   refine ec (rs := [.cell 2 25]) (n := 26) Tryz.func73 rfl rfl rfl ?_
   refine rg ΦPN_ok [0, 2] trE ?_
   refine rg ΦPN_ok [0, 2, 9] trE ?_
   refine cn ?_ ?_
   ·intro h; try exact absurd h (by decide)
    try (exfalso; (try simp only [Bool.not_eq_eq_eq_not, Bool.not_true, Bool.not_false, decide_eq_false_iff_not, decide_eq_true_eq] at *); omega)
    all_goals
     refine rg ΦPN_ok [2] trE ?_
     refine nx ?_
     refine rt trE ?_
     repeat' first | with_reducible apply And.intro | exact sd | exact sde trE | exact sdp trE | refine stk trE ?_ | fail
     refine ec (rs := [.tmp 2]) (n := 7) Tryz.func72 rfl rfl rfl ?_
     refine rg ΦPN_ok [1] trE ?_
     refine rg ΦPN_ok [2] trE ?_
     refine nx ?_
     refine rt trE ?_
     repeat' first | (refine lf hK trE ?_; clear hK K') | with_reducible apply And.intro | exact sd | exact sde trE | exact sdp trE | refine stk trE ?_ | fail
     all_goals
      refine rB ΦPN_ok [1, 4, 8, 9, 13, 14, 15] trE fun K' hK => ?_
      repeat' first | with_reducible apply And.intro | exact sd | exact sde trE | exact sdp trE | refine stk trE ?_ | fail
      refine ec (rs := [.cell 2 25]) (n := 26) Tryz.func73 rfl rfl rfl ?_
      refine rg ΦPN_ok [0, 2] trE ?_
      refine rg ΦPN_ok [0, 2, 9] trE ?_
      refine cn ?_ ?_
      ·intro h; try exact absurd h (by decide)
       try (exfalso; (try simp only [Bool.not_eq_eq_eq_not, Bool.not_true, Bool.not_false, decide_eq_false_iff_not, decide_eq_true_eq] at *); omega)
       all_goals
        refine rg ΦPN_ok [2] trE ?_
        refine nx ?_
        refine rt trE ?_
        repeat' first | with_reducible apply And.intro | exact sd | exact sde trE | exact sdp trE | refine stk trE ?_ | fail
        refine ec (rs := [.cell 2 25]) (n := 26) Tryz.func73 rfl rfl rfl ?_
        refine rg ΦPN_ok [0, 2] trE ?_
        refine rg ΦPN_ok [0, 2, 9] trE ?_
        refine cn ?_ ?_
        ·intro h; try exact absurd h (by decide)
         try (exfalso; (try simp only [Bool.not_eq_eq_eq_not, Bool.not_true, Bool.not_false, decide_eq_false_iff_not, decide_eq_true_eq] at *); omega)
         all_goals
          refine rg ΦPN_ok [2] trE ?_
          refine nx ?_
          refine rt trE ?_
          repeat' first | (refine lf hK trE ?_; clear hK K') | with_reducible apply And.intro | exact sd | exact sde trE | exact sdp trE | refine stk trE ?_ | fail
          all_goals
           have hkb := kb (x := (t.kids.getD i T.zero))
           refine rdL ΦPN_ok 14 trE ?_
           refine rgL ΦPN_ok trE ?_
           refine nx ?_
           refine ⟨(i + 1, l ++ [rdOf (t.kids.getD i T.zero)]), ⟨by dsimp only; omega, by dsimp only; rw [hl]; exact rdO_take (by omega)⟩, Ent.to rfl rfl rfl ?_ ?_, by dsimp only; omega⟩
           ·simp -implicitDefEqProofs only [go_sem, Nat.reduceLT, Nat.reduceAdd, Nat.reduceEqDiff, reduceIte, Nat.reduceMul, Nat.reduceSub, reduceCtorEq, Int.reduceNe, Int.reduceEq, ne_eq, Nat.reduceLeDiff, Nat.reduceMod, Nat.reduceDiv]; (try simp only [List.length_append, List.length_cons, List.length_nil]); (try simp only [D.dat.injEq, Vm.Data.int.injEq, true_and, and_true, and_self, eq_self]); (try omega); (try ((repeat' apply And.intro) <;> first | omega | rfl))
           ·(repeat' (first | exact all_nil | (refine all_cons ?_ ?_))) <;> (simp -implicitDefEqProofs only [go_sem, Nat.reduceLT, Nat.reduceAdd, Nat.reduceEqDiff, reduceIte, Nat.reduceMul, Nat.reduceSub, reduceCtorEq, Int.reduceNe, Int.reduceEq, ne_eq, Nat.reduceLeDiff, Nat.reduceMod, Nat.reduceDiv]; (try rfl); skip)
            all_goals (refine congrArg (fun r => some (Blk.arr 52 3 r 0)) (rdO_row3 (x := (t.kids.getD i T.zero)) ?_ ?_ ?_) <;> (unfold kid; first | rfl | (rw [kid_nil (t := (t.kids.getD i T.zero)) (by assumption)]; rfl) | (rw [kid_nil (t := ((t.kids.getD i T.zero).kids.getD 0 T.zero)) (by assumption)]; rfl) | (rw [kid_out (t := ((t.kids.getD i T.zero).kids.getD 0 T.zero)) (by assumption)]; rfl) | (rw [kget])))
        ·intro h; try exact absurd h (by decide)
         try (exfalso; (try simp only [Bool.not_eq_eq_eq_not, Bool.not_true, Bool.not_false, decide_eq_false_iff_not, decide_eq_true_eq] at *); omega)
         all_goals
          refine rg ΦPN_ok [0, 2, 3] trE ?_
          refine rg ΦPN_ok [2, 3] trE ?_
          refine rg ΦPN_ok [2] trE ?_
          refine nx ?_
          refine rt trE ?_
          repeat' first | (refine lf hK trE ?_; clear hK K') | with_reducible apply And.intro | exact sd | exact sde trE | exact sdp trE | refine stk trE ?_ | fail
          all_goals
           have hkb := kb (x := (t.kids.getD i T.zero))
           refine rdL ΦPN_ok 14 trE ?_
           refine rgL ΦPN_ok trE ?_
           refine nx ?_
           refine ⟨(i + 1, l ++ [rdOf (t.kids.getD i T.zero)]), ⟨by dsimp only; omega, by dsimp only; rw [hl]; exact rdO_take (by omega)⟩, Ent.to rfl rfl rfl ?_ ?_, by dsimp only; omega⟩
           ·simp -implicitDefEqProofs only [go_sem, Nat.reduceLT, Nat.reduceAdd, Nat.reduceEqDiff, reduceIte, Nat.reduceMul, Nat.reduceSub, reduceCtorEq, Int.reduceNe, Int.reduceEq, ne_eq, Nat.reduceLeDiff, Nat.reduceMod, Nat.reduceDiv]; (try simp only [List.length_append, List.length_cons, List.length_nil]); (try simp only [D.dat.injEq, Vm.Data.int.injEq, true_and, and_true, and_self, eq_self]); (try omega); (try ((repeat' apply And.intro) <;> first | omega | rfl))
           ·(repeat' (first | exact all_nil | (refine all_cons ?_ ?_))) <;> (simp -implicitDefEqProofs only [go_sem, Nat.reduceLT, Nat.reduceAdd, Nat.reduceEqDiff, reduceIte, Nat.reduceMul, Nat.reduceSub, reduceCtorEq, Int.reduceNe, Int.reduceEq, ne_eq, Nat.reduceLeDiff, Nat.reduceMod, Nat.reduceDiv]; (try rfl); skip)
            all_goals (refine congrArg (fun r => some (Blk.arr 52 3 r 0)) (rdO_row3 (x := (t.kids.getD i T.zero)) ?_ ?_ ?_) <;> (unfold kid; first | rfl | (rw [kid_nil (t := (t.kids.getD i T.zero)) (by assumption)]; rfl) | (rw [kid_nil (t := ((t.kids.getD i T.zero).kids.getD 0 T.zero)) (by assumption)]; rfl) | (rw [kid_out (t := ((t.kids.getD i T.zero).kids.getD 0 T.zero)) (by assumption)]; rfl) | (rw [kget])))
      ·intro h; try exact absurd h (by decide)
       try (exfalso; (try simp only [Bool.not_eq_eq_eq_not, Bool.not_true, Bool.not_false, decide_eq_false_iff_not, decide_eq_true_eq] at *); omega)
       all_goals
        refine rg ΦPN_ok [0, 2, 3] trE ?_
        refine rg ΦPN_ok [2, 3] trE ?_
        refine rg ΦPN_ok [2] trE ?_
        refine nx ?_
        refine rt trE ?_
        repeat' first | with_reducible apply And.intro | exact sd | exact sde trE | exact sdp trE | refine stk trE ?_ | fail
        refine ec (rs := [.cell 2 25]) (n := 26) Tryz.func73 rfl rfl rfl ?_
        refine rg ΦPN_ok [0, 2] trE ?_
        refine rg ΦPN_ok [0, 2, 9] trE ?_
        refine cn ?_ ?_
        ·intro h; try exact absurd h (by decide)
         try (exfalso; (try simp only [Bool.not_eq_eq_eq_not, Bool.not_true, Bool.not_false, decide_eq_false_iff_not, decide_eq_true_eq] at *); omega)
         all_goals
          refine rg ΦPN_ok [2] trE ?_
          refine nx ?_
          refine rt trE ?_
          repeat' first | (refine lf hK trE ?_; clear hK K') | with_reducible apply And.intro | exact sd | exact sde trE | exact sdp trE | refine stk trE ?_ | fail
          all_goals
           have hkb := kb (x := (t.kids.getD i T.zero))
           refine rdL ΦPN_ok 14 trE ?_
           refine rgL ΦPN_ok trE ?_
           refine nx ?_
           refine ⟨(i + 1, l ++ [rdOf (t.kids.getD i T.zero)]), ⟨by dsimp only; omega, by dsimp only; rw [hl]; exact rdO_take (by omega)⟩, Ent.to rfl rfl rfl ?_ ?_, by dsimp only; omega⟩
           ·simp -implicitDefEqProofs only [go_sem, Nat.reduceLT, Nat.reduceAdd, Nat.reduceEqDiff, reduceIte, Nat.reduceMul, Nat.reduceSub, reduceCtorEq, Int.reduceNe, Int.reduceEq, ne_eq, Nat.reduceLeDiff, Nat.reduceMod, Nat.reduceDiv]; (try simp only [List.length_append, List.length_cons, List.length_nil]); (try simp only [D.dat.injEq, Vm.Data.int.injEq, true_and, and_true, and_self, eq_self]); (try omega); (try ((repeat' apply And.intro) <;> first | omega | rfl))
           ·(repeat' (first | exact all_nil | (refine all_cons ?_ ?_))) <;> (simp -implicitDefEqProofs only [go_sem, Nat.reduceLT, Nat.reduceAdd, Nat.reduceEqDiff, reduceIte, Nat.reduceMul, Nat.reduceSub, reduceCtorEq, Int.reduceNe, Int.reduceEq, ne_eq, Nat.reduceLeDiff, Nat.reduceMod, Nat.reduceDiv]; (try rfl); skip)
            all_goals (refine congrArg (fun r => some (Blk.arr 52 3 r 0)) (rdO_row3 (x := (t.kids.getD i T.zero)) ?_ ?_ ?_) <;> (unfold kid; first | rfl | (rw [kid_nil (t := (t.kids.getD i T.zero)) (by assumption)]; rfl) | (rw [kid_nil (t := ((t.kids.getD i T.zero).kids.getD 0 T.zero)) (by assumption)]; rfl) | (rw [kid_out (t := ((t.kids.getD i T.zero).kids.getD 0 T.zero)) (by assumption)]; rfl) | (rw [kget])))
        ·intro h; try exact absurd h (by decide)
         try (exfalso; (try simp only [Bool.not_eq_eq_eq_not, Bool.not_true, Bool.not_false, decide_eq_false_iff_not, decide_eq_true_eq] at *); omega)
         all_goals
          refine rg ΦPN_ok [0, 2, 3] trE ?_
          refine rg ΦPN_ok [2, 3] trE ?_
          refine rg ΦPN_ok [2] trE ?_
          refine nx ?_
          refine rt trE ?_
          repeat' first | (refine lf hK trE ?_; clear hK K') | with_reducible apply And.intro | exact sd | exact sde trE | exact sdp trE | refine stk trE ?_ | fail
          all_goals
           have hkb := kb (x := (t.kids.getD i T.zero))
           refine rdL ΦPN_ok 14 trE ?_
           refine rgL ΦPN_ok trE ?_
           refine nx ?_
           refine ⟨(i + 1, l ++ [rdOf (t.kids.getD i T.zero)]), ⟨by dsimp only; omega, by dsimp only; rw [hl]; exact rdO_take (by omega)⟩, Ent.to rfl rfl rfl ?_ ?_, by dsimp only; omega⟩
           ·simp -implicitDefEqProofs only [go_sem, Nat.reduceLT, Nat.reduceAdd, Nat.reduceEqDiff, reduceIte, Nat.reduceMul, Nat.reduceSub, reduceCtorEq, Int.reduceNe, Int.reduceEq, ne_eq, Nat.reduceLeDiff, Nat.reduceMod, Nat.reduceDiv]; (try simp only [List.length_append, List.length_cons, List.length_nil]); (try simp only [D.dat.injEq, Vm.Data.int.injEq, true_and, and_true, and_self, eq_self]); (try omega); (try ((repeat' apply And.intro) <;> first | omega | rfl))
           ·(repeat' (first | exact all_nil | (refine all_cons ?_ ?_))) <;> (simp -implicitDefEqProofs only [go_sem, Nat.reduceLT, Nat.reduceAdd, Nat.reduceEqDiff, reduceIte, Nat.reduceMul, Nat.reduceSub, reduceCtorEq, Int.reduceNe, Int.reduceEq, ne_eq, Nat.reduceLeDiff, Nat.reduceMod, Nat.reduceDiv]; (try rfl); skip)
            all_goals (refine congrArg (fun r => some (Blk.arr 52 3 r 0)) (rdO_row3 (x := (t.kids.getD i T.zero)) ?_ ?_ ?_) <;> (unfold kid; first | rfl | (rw [kid_nil (t := (t.kids.getD i T.zero)) (by assumption)]; rfl) | (rw [kid_nil (t := ((t.kids.getD i T.zero).kids.getD 0 T.zero)) (by assumption)]; rfl) | (rw [kid_out (t := ((t.kids.getD i T.zero).kids.getD 0 T.zero)) (by assumption)]; rfl) | (rw [kget])))
   ·intro h; try exact absurd h (by decide)
    try (exfalso; (try simp only [Bool.not_eq_eq_eq_not, Bool.not_true, Bool.not_false, decide_eq_false_iff_not, decide_eq_true_eq] at *); omega)
    all_goals
     refine rg ΦPN_ok [0, 2, 3] trE ?_
     refine rg ΦPN_ok [2, 3] trE ?_
     refine rg ΦPN_ok [2] trE ?_
     refine nx ?_
     refine rt trE ?_
     repeat' first | with_reducible apply And.intro | exact sd | exact sde trE | exact sdp trE | refine stk trE ?_ | fail
     refine ec (rs := [.tmp 2]) (n := 7) Tryz.func72 rfl rfl rfl ?_
     refine rg ΦPN_ok [1] trE ?_
     refine rg ΦPN_ok [2] trE ?_
     refine nx ?_
     refine rt trE ?_
     repeat' first | (refine lf hK trE ?_; clear hK K') | with_reducible apply And.intro | exact sd | exact sde trE | exact sdp trE | refine stk trE ?_ | fail
     all_goals
      refine rB ΦPN_ok [1, 4, 8, 9, 13, 14, 15] trE fun K' hK => ?_
      repeat' first | with_reducible apply And.intro | exact sd | exact sde trE | exact sdp trE | refine stk trE ?_ | fail
      refine ec (rs := [.cell 2 25]) (n := 26) Tryz.func73 rfl rfl rfl ?_
      refine rg ΦPN_ok [0, 2] trE ?_
      refine rg ΦPN_ok [0, 2, 9] trE ?_
      refine cn ?_ ?_
      ·intro h; try exact absurd h (by decide)
       try (exfalso; (try simp only [Bool.not_eq_eq_eq_not, Bool.not_true, Bool.not_false, decide_eq_false_iff_not, decide_eq_true_eq] at *); omega)
       all_goals
        refine rg ΦPN_ok [2] trE ?_
        refine nx ?_
        refine rt trE ?_
        repeat' first | with_reducible apply And.intro | exact sd | exact sde trE | exact sdp trE | refine stk trE ?_ | fail
        refine ec (rs := [.cell 2 25]) (n := 26) Tryz.func73 rfl rfl rfl ?_
        refine rg ΦPN_ok [0, 2] trE ?_
        refine rg ΦPN_ok [0, 2, 9] trE ?_
        refine cn ?_ ?_
        ·intro h; try exact absurd h (by decide)
         try (exfalso; (try simp only [Bool.not_eq_eq_eq_not, Bool.not_true, Bool.not_false, decide_eq_false_iff_not, decide_eq_true_eq] at *); omega)
         all_goals
          refine rg ΦPN_ok [2] trE ?_
          refine nx ?_
          refine rt trE ?_
          repeat' first | (refine lf hK trE ?_; clear hK K') | with_reducible apply And.intro | exact sd | exact sde trE | exact sdp trE | refine stk trE ?_ | fail
          all_goals
           have hkb := kb (x := (t.kids.getD i T.zero))
           refine rdL ΦPN_ok 14 trE ?_
           refine rgL ΦPN_ok trE ?_
           refine nx ?_
           refine ⟨(i + 1, l ++ [rdOf (t.kids.getD i T.zero)]), ⟨by dsimp only; omega, by dsimp only; rw [hl]; exact rdO_take (by omega)⟩, Ent.to rfl rfl rfl ?_ ?_, by dsimp only; omega⟩
           ·simp -implicitDefEqProofs only [go_sem, Nat.reduceLT, Nat.reduceAdd, Nat.reduceEqDiff, reduceIte, Nat.reduceMul, Nat.reduceSub, reduceCtorEq, Int.reduceNe, Int.reduceEq, ne_eq, Nat.reduceLeDiff, Nat.reduceMod, Nat.reduceDiv]; (try simp only [List.length_append, List.length_cons, List.length_nil]); (try simp only [D.dat.injEq, Vm.Data.int.injEq, true_and, and_true, and_self, eq_self]); (try omega); (try ((repeat' apply And.intro) <;> first | omega | rfl))
           ·(repeat' (first | exact all_nil | (refine all_cons ?_ ?_))) <;> (simp -implicitDefEqProofs only [go_sem, Nat.reduceLT, Nat.reduceAdd, Nat.reduceEqDiff, reduceIte, Nat.reduceMul, Nat.reduceSub, reduceCtorEq, Int.reduceNe, Int.reduceEq, ne_eq, Nat.reduceLeDiff, Nat.reduceMod, Nat.reduceDiv]; (try rfl); skip)
            all_goals (refine congrArg (fun r => some (Blk.arr 52 3 r 0)) (rdO_row3 (x := (t.kids.getD i T.zero)) ?_ ?_ ?_) <;> (unfold kid; first | rfl | (rw [kid_nil (t := (t.kids.getD i T.zero)) (by assumption)]; rfl) | (rw [kid_nil (t := ((t.kids.getD i T.zero).kids.getD 0 T.zero)) (by assumption)]; rfl) | (rw [kid_out (t := ((t.kids.getD i T.zero).kids.getD 0 T.zero)) (by assumption)]; rfl) | (rw [kget])))
        ·intro h; try exact absurd h (by decide)
         try (exfalso; (try simp only [Bool.not_eq_eq_eq_not, Bool.not_true, Bool.not_false, decide_eq_false_iff_not, decide_eq_true_eq] at *); omega)
         all_goals
          refine rg ΦPN_ok [0, 2, 3] trE ?_
          refine rg ΦPN_ok [2, 3] trE ?_
          refine rg ΦPN_ok [2] trE ?_
          refine nx ?_
          refine rt trE ?_
          repeat' first | (refine lf hK trE ?_; clear hK K') | with_reducible apply And.intro | exact sd | exact sde trE | exact sdp trE | refine stk trE ?_ | fail
          all_goals
           have hkb := kb (x := (t.kids.getD i T.zero))
           refine rdL ΦPN_ok 14 trE ?_
           refine rgL ΦPN_ok trE ?_
           refine nx ?_
           refine ⟨(i + 1, l ++ [rdOf (t.kids.getD i T.zero)]), ⟨by dsimp only; omega, by dsimp only; rw [hl]; exact rdO_take (by omega)⟩, Ent.to rfl rfl rfl ?_ ?_, by dsimp only; omega⟩
           ·simp -implicitDefEqProofs only [go_sem, Nat.reduceLT, Nat.reduceAdd, Nat.reduceEqDiff, reduceIte, Nat.reduceMul, Nat.reduceSub, reduceCtorEq, Int.reduceNe, Int.reduceEq, ne_eq, Nat.reduceLeDiff, Nat.reduceMod, Nat.reduceDiv]; (try simp only [List.length_append, List.length_cons, List.length_nil]); (try simp only [D.dat.injEq, Vm.Data.int.injEq, true_and, and_true, and_self, eq_self]); (try omega); (try ((repeat' apply And.intro) <;> first | omega | rfl))
           ·(repeat' (first | exact all_nil | (refine all_cons ?_ ?_))) <;> (simp -implicitDefEqProofs only [go_sem, Nat.reduceLT, Nat.reduceAdd, Nat.reduceEqDiff, reduceIte, Nat.reduceMul, Nat.reduceSub, reduceCtorEq, Int.reduceNe, Int.reduceEq, ne_eq, Nat.reduceLeDiff, Nat.reduceMod, Nat.reduceDiv]; (try rfl); skip)
            all_goals (refine congrArg (fun r => some (Blk.arr 52 3 r 0)) (rdO_row3 (x := (t.kids.getD i T.zero)) ?_ ?_ ?_) <;> (unfold kid; first | rfl | (rw [kid_nil (t := (t.kids.getD i T.zero)) (by assumption)]; rfl) | (rw [kid_nil (t := ((t.kids.getD i T.zero).kids.getD 0 T.zero)) (by assumption)]; rfl) | (rw [kid_out (t := ((t.kids.getD i T.zero).kids.getD 0 T.zero)) (by assumption)]; rfl) | (rw [kget])))
      ·intro h; try exact absurd h (by decide)
       try (exfalso; (try simp only [Bool.not_eq_eq_eq_not, Bool.not_true, Bool.not_false, decide_eq_false_iff_not, decide_eq_true_eq] at *); omega)
       all_goals
        refine rg ΦPN_ok [0, 2, 3] trE ?_
        refine rg ΦPN_ok [2, 3] trE ?_
        refine rg ΦPN_ok [2] trE ?_
        refine nx ?_
        refine rt trE ?_
        repeat' first | with_reducible apply And.intro | exact sd | exact sde trE | exact sdp trE | refine stk trE ?_ | fail
        refine ec (rs := [.cell 2 25]) (n := 26) Tryz.func73 rfl rfl rfl ?_
        refine rg ΦPN_ok [0, 2] trE ?_
        refine rg ΦPN_ok [0, 2, 9] trE ?_
        refine cn ?_ ?_
        ·intro h; try exact absurd h (by decide)
         try (exfalso; (try simp only [Bool.not_eq_eq_eq_not, Bool.not_true, Bool.not_false, decide_eq_false_iff_not, decide_eq_true_eq] at *); omega)
         all_goals
          refine rg ΦPN_ok [2] trE ?_
          refine nx ?_
          refine rt trE ?_
          repeat' first | (refine lf hK trE ?_; clear hK K') | with_reducible apply And.intro | exact sd | exact sde trE | exact sdp trE | refine stk trE ?_ | fail
          all_goals
           have hkb := kb (x := (t.kids.getD i T.zero))
           refine rdL ΦPN_ok 14 trE ?_
           refine rgL ΦPN_ok trE ?_
           refine nx ?_
           refine ⟨(i + 1, l ++ [rdOf (t.kids.getD i T.zero)]), ⟨by dsimp only; omega, by dsimp only; rw [hl]; exact rdO_take (by omega)⟩, Ent.to rfl rfl rfl ?_ ?_, by dsimp only; omega⟩
           ·simp -implicitDefEqProofs only [go_sem, Nat.reduceLT, Nat.reduceAdd, Nat.reduceEqDiff, reduceIte, Nat.reduceMul, Nat.reduceSub, reduceCtorEq, Int.reduceNe, Int.reduceEq, ne_eq, Nat.reduceLeDiff, Nat.reduceMod, Nat.reduceDiv]; (try simp only [List.length_append, List.length_cons, List.length_nil]); (try simp only [D.dat.injEq, Vm.Data.int.injEq, true_and, and_true, and_self, eq_self]); (try omega); (try ((repeat' apply And.intro) <;> first | omega | rfl))
           ·(repeat' (first | exact all_nil | (refine all_cons ?_ ?_))) <;> (simp -implicitDefEqProofs only [go_sem, Nat.reduceLT, Nat.reduceAdd, Nat.reduceEqDiff, reduceIte, Nat.reduceMul, Nat.reduceSub, reduceCtorEq, Int.reduceNe, Int.reduceEq, ne_eq, Nat.reduceLeDiff, Nat.reduceMod, Nat.reduceDiv]; (try rfl); skip)
            all_goals (refine congrArg (fun r => some (Blk.arr 52 3 r 0)) (rdO_row3 (x := (t.kids.getD i T.zero)) ?_ ?_ ?_) <;> (unfold kid; first | rfl | (rw [kid_nil (t := (t.kids.getD i T.zero)) (by assumption)]; rfl) | (rw [kid_nil (t := ((t.kids.getD i T.zero).kids.getD 0 T.zero)) (by assumption)]; rfl) | (rw [kid_out (t := ((t.kids.getD i T.zero).kids.getD 0 T.zero)) (by assumption)]; rfl) | (rw [kget])))
        ·intro h; try exact absurd h (by decide)
         try (exfalso; (try simp only [Bool.not_eq_eq_eq_not, Bool.not_true, Bool.not_false, decide_eq_false_iff_not, decide_eq_true_eq] at *); omega)
         all_goals
          refine rg ΦPN_ok [0, 2, 3] trE ?_
          refine rg ΦPN_ok [2, 3] trE ?_
          refine rg ΦPN_ok [2] trE ?_
          refine nx ?_
          refine rt trE ?_
          repeat' first | (refine lf hK trE ?_; clear hK K') | with_reducible apply And.intro | exact sd | exact sde trE | exact sdp trE | refine stk trE ?_ | fail
          all_goals
           have hkb := kb (x := (t.kids.getD i T.zero))
           refine rdL ΦPN_ok 14 trE ?_
           refine rgL ΦPN_ok trE ?_
           refine nx ?_
           refine ⟨(i + 1, l ++ [rdOf (t.kids.getD i T.zero)]), ⟨by dsimp only; omega, by dsimp only; rw [hl]; exact rdO_take (by omega)⟩, Ent.to rfl rfl rfl ?_ ?_, by dsimp only; omega⟩
           ·simp -implicitDefEqProofs only [go_sem, Nat.reduceLT, Nat.reduceAdd, Nat.reduceEqDiff, reduceIte, Nat.reduceMul, Nat.reduceSub, reduceCtorEq, Int.reduceNe, Int.reduceEq, ne_eq, Nat.reduceLeDiff, Nat.reduceMod, Nat.reduceDiv]; (try simp only [List.length_append, List.length_cons, List.length_nil]); (try simp only [D.dat.injEq, Vm.Data.int.injEq, true_and, and_true, and_self, eq_self]); (try omega); (try ((repeat' apply And.intro) <;> first | omega | rfl))
           ·(repeat' (first | exact all_nil | (refine all_cons ?_ ?_))) <;> (simp -implicitDefEqProofs only [go_sem, Nat.reduceLT, Nat.reduceAdd, Nat.reduceEqDiff, reduceIte, Nat.reduceMul, Nat.reduceSub, reduceCtorEq, Int.reduceNe, Int.reduceEq, ne_eq, Nat.reduceLeDiff, Nat.reduceMod, Nat.reduceDiv]; (try rfl); skip)
            all_goals (refine congrArg (fun r => some (Blk.arr 52 3 r 0)) (rdO_row3 (x := (t.kids.getD i T.zero)) ?_ ?_ ?_) <;> (unfold kid; first | rfl | (rw [kid_nil (t := (t.kids.getD i T.zero)) (by assumption)]; rfl) | (rw [kid_nil (t := ((t.kids.getD i T.zero).kids.getD 0 T.zero)) (by assumption)]; rfl) | (rw [kid_out (t := ((t.kids.getD i T.zero).kids.getD 0 T.zero)) (by assumption)]; rfl) | (rw [kget])))
 ·intro h; try exact absurd h (by decide)
  try (exfalso; (try simp only [Bool.not_eq_eq_eq_not, Bool.not_true, Bool.not_false, decide_eq_false_iff_not, decide_eq_true_eq] at *); omega)
  all_goals
   have hlx : l = rnN t := hl.trans (rdO_all (by omega))
   have hBl : nmB l := by rw [hlx]; exact hB
   have hBB : nmB l = True := eq_true hBl
   have hns := nameT_sz l
   refine rg ΦPN_ok [1, 4, 10, 11] (And.intro hBB trE) ?_
   refine rB ΦPN_ok [4, 56] trE fun K' hK => ?_
   repeat' first | (refine lf hK trE ?_; clear hK K') | with_reducible apply And.intro | refine sA trE (fun _ => ?_) fun _ => ?_ | refine sAb trE (fun _ => ?_) fun _ => ?_ | refine sAl trE (fun g => ?_) fun g => ?_ | exact sd | exact sde trE | exact sdp trE | refine stk trE ?_ | fail
   all_goals
    refine cn ?_ ?_
    ·intro h; try exact absurd h (by decide)
     try (exfalso; (try simp only [Bool.not_eq_eq_eq_not, Bool.not_true, Bool.not_false, decide_eq_false_iff_not, decide_eq_true_eq] at *); omega)
     all_goals
      have hcs : ¬ nameE l = 0 ∨ ¬ nameT l = t := by
       (try simp only [Bool.not_eq_eq_eq_not, Bool.not_true, Bool.not_false, decide_eq_false_iff_not, decide_eq_true_eq] at *)
       first
       | (left; assumption)
       | (right; assumption)
      have hy := prn_f (t := t) (by
       rw [hlx] at hcs
       exact hcs.elim prn_no1 prn_no2)
      refine rg ΦPN_ok [2, 3] trE ?_
      first
      | exact fz hy
    ·intro h; try exact absurd h (by decide)
     try (exfalso; (try simp only [Bool.not_eq_eq_eq_not, Bool.not_true, Bool.not_false, decide_eq_false_iff_not, decide_eq_true_eq] at *); omega)
     all_goals
      have hcs : nameE l = 0 ∧ nameT l = t := by
       (try simp only [Bool.not_eq_eq_eq_not, Bool.not_true, Bool.not_false, decide_eq_false_iff_not, decide_eq_true_eq] at *)
       first
       | exact ⟨by assumption, by assumption⟩
      have hy := prn_t (t := t) (by rw [hlx] at hcs; exact prn_yes hcs.1 hcs.2)
      rw [← hlx] at hy
      refine rg ΦPN_ok [2, 3] trE ?_
      first
      | exact fz hy)
end Go.Proofs.YtpajpkbipagjpaaGreatDoor.Oc
namespace Go.Proofs.YtpajpkbipagjpaaGreatDoor.Oc
open Go Go.RowKit Go.Proofs.YtpajpkbipagjpaaGreatDoor.Vm Go.Proofs.YtpajpkbipagjpaaGreatDoor.Tr Go.IntWalk
set_option maxRecDepth 100000
set_option maxHeartbeats 4000000
def priN (t : T) : Im := if riOk t then imOf t else ⟨0, false, []⟩
def priE (t : T) : Int := if riOk t then 0 else 200
theorem pri_f {t : T} (h : riOk t = false) : (priN t).hash = 0 ∧ (priN t).null = false ∧ (priN t).dig = [] ∧ priE t = 200 ∧ bytesD [] = [] := by
 unfold priN priE; rw [h]; exact ⟨rfl, rfl, rfl, rfl, rfl⟩
theorem rdBad : (if rdOk (T.mk (-1) 0 false [] []) = true then rdH (T.mk (-1) 0 false [] []) else 0) = 0 ∧ (if rdOk (T.mk (-1) 0 false [] []) = true then rdN (T.mk (-1) 0 false [] []) else false) = false ∧ (if rdOk (T.mk (-1) 0 false [] []) = true then (0 : Int) else 200) = 200 := by
 have : rdOk (T.mk (-1) 0 false [] []) = false := by decide +kernel
 rw [this]; exact ⟨rfl, rfl, rfl⟩
theorem rdZ : (if rdOk T.zero = true then rdH T.zero else 0) = 0 ∧ (if rdOk T.zero = true then rdN T.zero else false) = false ∧ rdOk T.zero = false := by
 have : rdOk T.zero = false := by decide +kernel
 rw [this]; exact ⟨rfl, rfl, rfl⟩
theorem impT_sz {x : Im} (h : x.dig.length ≤ 20000) : (impT x).sz ≤ 30000 := by
 have := hashT_sz x.hash x.null
 unfold impT
 split
 ·simp only [sz_seq, T.szs_cons, sz_prim, T.szs_nil]; omega
 ·decide
theorem ri_no {t : T} (h : ¬ rdOk (kid t 0) = true ∨ ¬ impE (imOf t) = 0 ∨ ¬ impT (imOf t) = t) : riOk t = false := by
 unfold riOk
 rcases h with h | h | h
 ·have hz : impOk (imOf t) = false := by
   refine decide_eq_false fun hc => hc.1 ?_
   show sizeH (if rdOk (kid t 0) = true then rdH (kid t 0) else 0) = 0
   rw [if_neg h]; rfl
  rw [hz, Bool.false_and]
 ·have : impOk (imOf t) = false := by
   cases hi : impOk (imOf t) with
   | false => rfl
   | true => exact absurd (by unfold impE; rw [hi]; rfl) h
  rw [this, Bool.false_and]
 ·rw [decide_eq_false h, Bool.and_false]
theorem ri_yes {t : T} (h : impE (imOf t) = 0) (h2 : impT (imOf t) = t) : riOk t = true := by
 unfold riOk
 have : impOk (imOf t) = true := by
  cases hi : impOk (imOf t) with
  | true => rfl
  | false => unfold impE at h; rw [hi] at h; exact absurd h (by decide)
 rw [this, decide_eq_true h2]; rfl
theorem pri_t2 {t : T} {h : Int} {n : Bool} {d : List UInt8} (hx : Im.mk h n d = imOf t) (hr : riOk t = true) : (priN t).hash = h ∧ (priN t).null = n ∧ (priN t).dig = d ∧ priE t = 0 := by
 unfold priN priE; rw [hr, ← hx]; exact ⟨rfl, rfl, rfl, rfl⟩
theorem hx1 {t : T} (h : (t.kids.length : Int) = 0) : Im.mk 0 false [] = imOf t := by
 unfold imOf kid
 rw [kid_nil h, kid_nil h, rdZ.1, rdZ.2.1]; rfl
theorem hx2 {t : T} (h : (((t.kids.drop 1).take ((t.kids.length : Int) - 1).toNat).length : Int) = 0) : Im.mk (if rdOk (t.kids.getD 0 T.zero) = true then rdH (t.kids.getD 0 T.zero) else 0) (if rdOk (t.kids.getD 0 T.zero) = true then rdN (t.kids.getD 0 T.zero) else false) [] = imOf t := by
 unfold imOf kid
 rw [kid_out h]; rfl
theorem hx3 {t : T} : Im.mk (if rdOk (t.kids.getD 0 T.zero) = true then rdH (t.kids.getD 0 T.zero) else 0) (if rdOk (t.kids.getD 0 T.zero) = true then rdN (t.kids.getD 0 T.zero) else false) (t.kids.getD 1 T.zero).bytes = imOf t := rfl
theorem rd_e0 {t : T} (h : (t.kids.length : Int) = 0) : ¬ rdOk (kid t 0) = true := by
 unfold kid; rw [kid_nil h, rdZ.2.2]; decide
theorem rd_e1 {k : T} : (¬ (if rdOk k = true then (0 : Int) else 200) = 0) → ¬ rdOk k = true := fun h hc => h (if_pos hc)
end Go.Proofs.YtpajpkbipagjpaaGreatDoor.Oc
namespace Go.Proofs.YtpajpkbipagjpaaGreatDoor.Oc
open Go Go.RowKit Go.Proofs.YtpajpkbipagjpaaGreatDoor.Vm Go.Proofs.YtpajpkbipagjpaaGreatDoor.Tr Go.IntWalk
set_option maxRecDepth 100000
set_option maxHeartbeats 4000000
noncomputable def ΦRIP : Fns := tab [(17, rdhalgF), (23, bimpF), (76, same0F)]
theorem ΦRIP_ok : Sound E ΦRIP := sound_cons (by kernel_rfl) rdhalg_ok (sound_cons (by kernel_rfl) bimp_ok (sound_cons (by kernel_rfl) same0_ok (sound_nil)))
@[go_sem] theorem ΦRIP_r : ΦRIP 17 = some rdhalgF ∧ ΦRIP 23 = some bimpF ∧ ΦRIP 76 = some same0F ∧ ΦRIP 72 = none ∧ ΦRIP 73 = none ∧ ΦRIP 88 = none := ⟨rfl, rfl, rfl, rfl, rfl, rfl⟩
@[go_sem] theorem ΦRIP_c : callable Tryz.prog 72 = true ∧ callable Tryz.prog 73 = true ∧ callable Tryz.prog 88 = true := ⟨by kernel_rfl, by kernel_rfl, by kernel_rfl⟩
@[go_sem] noncomputable def rimpF : PFn := PF [ST] (fun (t : T) => t.sz ≤ 20000) (fun (t : T) => [.agg (imC (priN t)), .int .i64 (priE t)])
theorem rimp_ok : Pure E 27 rimpF := Pure.of_sig (rs := [.cell 2 50, .tmp 3]) (n := 47) Tryz.func27 rfl rfl rfl (Nat.le_of_ble_eq_true rfl) (by
 intro (t : T) hds
 refine st0 ?_
 refine rg ΦRIP_ok [1, 2] trE ?_
 refine rB ΦRIP_ok [1, 2, 4] trE fun K' hK => ?_
 repeat' first | with_reducible apply And.intro | exact sd | exact sde trE | exact sdp trE | refine stk trE ?_ | fail
 refine ec (rs := [.tmp 2]) (n := 7) Tryz.func72 rfl rfl rfl ?_
 refine rg ΦRIP_ok [1] trE ?_
 refine rg ΦRIP_ok [2] trE ?_
 refine nx ?_
 refine rt trE ?_
 repeat' first | (refine lf hK trE ?_; clear hK K') | with_reducible apply And.intro | exact sd | exact sde trE | exact sdp trE | refine stk trE ?_ | fail
 all_goals
  have hkl := kids_len t
  have hk0s : (t.kids.getD 0 T.zero).sz ≤ t.sz := kid_sz' t 0
  refine rB ΦRIP_ok [1, 2, 4, 5, 6, 7] (And.intro rdBad trE) fun K' hK => ?_
  repeat' first | with_reducible apply And.intro | exact sd | exact sde (And.intro rdBad trE) | exact sdp (And.intro rdBad trE) | refine stk (And.intro rdBad trE) ?_ | fail
  refine ec (rs := [.cell 2 25]) (n := 26) Tryz.func73 rfl rfl rfl ?_
  refine rg ΦRIP_ok [0, 2] (And.intro kget trE) ?_
  refine rg ΦRIP_ok [0, 2, 9] (And.intro kget trE) ?_
  refine cn ?_ ?_
  ·intro h; try exact absurd h (by decide)
   try (exfalso; (try simp only [Bool.not_eq_eq_eq_not, Bool.not_true, Bool.not_false, decide_eq_false_iff_not, decide_eq_true_eq] at *); omega)
   all_goals
    refine rg ΦRIP_ok [2] (And.intro kget trE) ?_
    refine nx ?_
    refine rt trE ?_
    repeat' first | (refine lf hK (And.intro rdBad trE) ?_; clear hK K') | with_reducible apply And.intro | exact sd | exact sde (And.intro rdBad trE) | exact sdp (And.intro rdBad trE) | refine stk (And.intro rdBad trE) ?_ | fail
    all_goals
     have hk0b := T.sz_eq (t.kids.getD 1 T.zero)
     have hk1s := kid_sz' t 1
     have hk1b : (t.kids.getD 1 T.zero).bytes.length ≤ t.sz := by unfold kid at hk1s; omega
     refine rB ΦRIP_ok [1, 2, 7, 8] trE fun K' hK => ?_
     repeat' first | with_reducible apply And.intro | exact sd | exact sde trE | exact sdp trE | refine stk trE ?_ | fail
     refine ec (rs := [.cell 2 25]) (n := 26) Tryz.func73 rfl rfl rfl ?_
     refine rg ΦRIP_ok [0, 2] (And.intro kget trE) ?_
     refine rg ΦRIP_ok [0, 2, 9] (And.intro kget trE) ?_
     refine cn ?_ ?_
     ·intro h; try exact absurd h (by decide)
      try (exfalso; (try simp only [Bool.not_eq_eq_eq_not, Bool.not_true, Bool.not_false, decide_eq_false_iff_not, decide_eq_true_eq] at *); omega)
      all_goals
       refine rg ΦRIP_ok [2] (And.intro kget trE) ?_
       refine nx ?_
       refine rt trE ?_
       repeat' first | with_reducible apply And.intro | exact sd | exact sde trE | exact sdp trE | refine stk trE ?_ | fail
       refine oc bcl_own 40 trE ?_
       repeat' first | (refine lf hK trE ?_; clear hK K') | with_reducible apply And.intro | exact sd | exact sde trE | exact sdp trE | refine stk trE ?_ | fail
       all_goals
        first
        | have hx := hx1 (t := t) (by assumption)
        | have hx := hx2 (t := t) (by assumption)
        | have hx := hx3 (t := t)
        have hdl : (imOf t).dig.length ≤ 20000 := by show (t.kids.getD 1 T.zero).bytes.length ≤ 20000; omega
        have his := impT_sz hdl
        refine rg ΦRIP_ok [1, 2, 7, 8, 9, 10] (And.intro hx (And.intro hdl trE)) ?_
        refine rB ΦRIP_ok [2, 8, 44] trE fun K' hK => ?_
        repeat' first | (refine lf hK trE ?_; clear hK K') | with_reducible apply And.intro | refine sA trE (fun _ => ?_) fun _ => ?_ | refine sAb trE (fun _ => ?_) fun _ => ?_ | refine sAl trE (fun g => ?_) fun g => ?_ | exact sd | exact sde trE | exact sdp trE | refine stk trE ?_ | fail
        all_goals
         refine cn ?_ ?_
         ·intro h; try exact absurd h (by decide)
          try (exfalso; (try simp only [Bool.not_eq_eq_eq_not, Bool.not_true, Bool.not_false, decide_eq_false_iff_not, decide_eq_true_eq] at *); omega)
          all_goals
           have hr : riOk t = false := ri_no (t := t) (by
            (try simp only [Bool.not_eq_eq_eq_not, Bool.not_true, Bool.not_false, decide_eq_false_iff_not, decide_eq_true_eq] at *)
            first
            | exact .inl (rd_e0 (by assumption))
            | exact .inl (rd_e1 (by assumption))
            | exact .inr (.inl (by assumption))
            | exact .inr (.inr (by assumption)))
           have hy := pri_f hr
           refine rg ΦRIP_ok [2, 3] trE ?_
           first
           | exact fz hy
         ·intro h; try exact absurd h (by decide)
          try (exfalso; (try simp only [Bool.not_eq_eq_eq_not, Bool.not_true, Bool.not_false, decide_eq_false_iff_not, decide_eq_true_eq] at *); omega)
          all_goals
           have hr : riOk t = true := by
            (try simp only [Bool.not_eq_eq_eq_not, Bool.not_true, Bool.not_false, decide_eq_false_iff_not, decide_eq_true_eq] at *)
            first
            | exact ri_yes (by assumption) (by assumption)
           have hy := pri_t2 hx hr
           refine rg ΦRIP_ok [2, 3] trE ?_
           first
           | exact fz hy
     ·intro h; try exact absurd h (by decide)
      try (exfalso; (try simp only [Bool.not_eq_eq_eq_not, Bool.not_true, Bool.not_false, decide_eq_false_iff_not, decide_eq_true_eq] at *); omega)
      all_goals
       refine rg ΦRIP_ok [0, 2, 3] (And.intro kget trE) ?_
       refine rg ΦRIP_ok [2, 3] (And.intro kget trE) ?_
       refine rg ΦRIP_ok [2] (And.intro kget trE) ?_
       refine nx ?_
       refine rt trE ?_
       repeat' first | with_reducible apply And.intro | exact sd | exact sde trE | exact sdp trE | refine stk trE ?_ | fail
       refine oc bcl_own 40 trE ?_
       repeat' first | (refine lf hK trE ?_; clear hK K') | with_reducible apply And.intro | exact sd | exact sde trE | exact sdp trE | refine stk trE ?_ | fail
       all_goals
        first
        | have hx := hx1 (t := t) (by assumption)
        | have hx := hx2 (t := t) (by assumption)
        | have hx := hx3 (t := t)
        have hdl : (imOf t).dig.length ≤ 20000 := by show (t.kids.getD 1 T.zero).bytes.length ≤ 20000; omega
        have his := impT_sz hdl
        refine rg ΦRIP_ok [1, 2, 7, 8, 9, 10] (And.intro hx (And.intro hdl trE)) ?_
        refine rB ΦRIP_ok [2, 8, 44] trE fun K' hK => ?_
        repeat' first | (refine lf hK trE ?_; clear hK K') | with_reducible apply And.intro | refine sA trE (fun _ => ?_) fun _ => ?_ | refine sAb trE (fun _ => ?_) fun _ => ?_ | refine sAl trE (fun g => ?_) fun g => ?_ | exact sd | exact sde trE | exact sdp trE | refine stk trE ?_ | fail
        all_goals
         refine cn ?_ ?_
         ·intro h; try exact absurd h (by decide)
          try (exfalso; (try simp only [Bool.not_eq_eq_eq_not, Bool.not_true, Bool.not_false, decide_eq_false_iff_not, decide_eq_true_eq] at *); omega)
          all_goals
           have hr : riOk t = false := ri_no (t := t) (by
            (try simp only [Bool.not_eq_eq_eq_not, Bool.not_true, Bool.not_false, decide_eq_false_iff_not, decide_eq_true_eq] at *)
            first
            | exact .inl (rd_e0 (by assumption))
            | exact .inl (rd_e1 (by assumption))
            | exact .inr (.inl (by assumption))
            | exact .inr (.inr (by assumption)))
           have hy := pri_f hr
           refine rg ΦRIP_ok [2, 3] trE ?_
           first
           | exact fz hy
         ·intro h; try exact absurd h (by decide)
          try (exfalso; (try simp only [Bool.not_eq_eq_eq_not, Bool.not_true, Bool.not_false, decide_eq_false_iff_not, decide_eq_true_eq] at *); omega)
          all_goals
           have hr : riOk t = true := by
            (try simp only [Bool.not_eq_eq_eq_not, Bool.not_true, Bool.not_false, decide_eq_false_iff_not, decide_eq_true_eq] at *)
            first
            | exact ri_yes (by assumption) (by assumption)
           have hy := pri_t2 hx hr
           refine rg ΦRIP_ok [2, 3] trE ?_
           first
           | exact fz hy
  ·intro h; try exact absurd h (by decide)
   try (exfalso; (try simp only [Bool.not_eq_eq_eq_not, Bool.not_true, Bool.not_false, decide_eq_false_iff_not, decide_eq_true_eq] at *); omega)
   all_goals
    refine rg ΦRIP_ok [0, 2, 3] (And.intro kget trE) ?_
    refine rg ΦRIP_ok [2, 3] (And.intro kget trE) ?_
    refine rg ΦRIP_ok [2] (And.intro kget trE) ?_
    refine nx ?_
    refine rt trE ?_
    repeat' first | (refine lf hK (And.intro rdBad trE) ?_; clear hK K') | with_reducible apply And.intro | exact sd | exact sde (And.intro rdBad trE) | exact sdp (And.intro rdBad trE) | refine stk (And.intro rdBad trE) ?_ | fail
    all_goals
     have hk0b := T.sz_eq (t.kids.getD 1 T.zero)
     have hk1s := kid_sz' t 1
     have hk1b : (t.kids.getD 1 T.zero).bytes.length ≤ t.sz := by unfold kid at hk1s; omega
     refine rB ΦRIP_ok [1, 2, 7, 8] trE fun K' hK => ?_
     repeat' first | with_reducible apply And.intro | exact sd | exact sde trE | exact sdp trE | refine stk trE ?_ | fail
     refine ec (rs := [.cell 2 25]) (n := 26) Tryz.func73 rfl rfl rfl ?_
     refine rg ΦRIP_ok [0, 2] (And.intro kget trE) ?_
     refine rg ΦRIP_ok [0, 2, 9] (And.intro kget trE) ?_
     refine cn ?_ ?_
     ·intro h; try exact absurd h (by decide)
      try (exfalso; (try simp only [Bool.not_eq_eq_eq_not, Bool.not_true, Bool.not_false, decide_eq_false_iff_not, decide_eq_true_eq] at *); omega)
      all_goals
       refine rg ΦRIP_ok [2] (And.intro kget trE) ?_
       refine nx ?_
       refine rt trE ?_
       repeat' first | with_reducible apply And.intro | exact sd | exact sde trE | exact sdp trE | refine stk trE ?_ | fail
       refine oc bcl_own 40 trE ?_
       repeat' first | (refine lf hK trE ?_; clear hK K') | with_reducible apply And.intro | exact sd | exact sde trE | exact sdp trE | refine stk trE ?_ | fail
       all_goals
        first
        | have hx := hx1 (t := t) (by assumption)
        | have hx := hx2 (t := t) (by assumption)
        | have hx := hx3 (t := t)
        have hdl : (imOf t).dig.length ≤ 20000 := by show (t.kids.getD 1 T.zero).bytes.length ≤ 20000; omega
        have his := impT_sz hdl
        refine rg ΦRIP_ok [1, 2, 7, 8, 9, 10] (And.intro hx (And.intro hdl trE)) ?_
        refine rB ΦRIP_ok [2, 8, 44] trE fun K' hK => ?_
        repeat' first | (refine lf hK trE ?_; clear hK K') | with_reducible apply And.intro | refine sA trE (fun _ => ?_) fun _ => ?_ | refine sAb trE (fun _ => ?_) fun _ => ?_ | refine sAl trE (fun g => ?_) fun g => ?_ | exact sd | exact sde trE | exact sdp trE | refine stk trE ?_ | fail
        all_goals
         refine cn ?_ ?_
         ·intro h; try exact absurd h (by decide)
          try (exfalso; (try simp only [Bool.not_eq_eq_eq_not, Bool.not_true, Bool.not_false, decide_eq_false_iff_not, decide_eq_true_eq] at *); omega)
          all_goals
           have hr : riOk t = false := ri_no (t := t) (by
            (try simp only [Bool.not_eq_eq_eq_not, Bool.not_true, Bool.not_false, decide_eq_false_iff_not, decide_eq_true_eq] at *)
            first
            | exact .inl (rd_e0 (by assumption))
            | exact .inl (rd_e1 (by assumption))
            | exact .inr (.inl (by assumption))
            | exact .inr (.inr (by assumption)))
           have hy := pri_f hr
           refine rg ΦRIP_ok [2, 3] trE ?_
           first
           | exact fz hy
         ·intro h; try exact absurd h (by decide)
          try (exfalso; (try simp only [Bool.not_eq_eq_eq_not, Bool.not_true, Bool.not_false, decide_eq_false_iff_not, decide_eq_true_eq] at *); omega)
          all_goals
           have hr : riOk t = true := by
            (try simp only [Bool.not_eq_eq_eq_not, Bool.not_true, Bool.not_false, decide_eq_false_iff_not, decide_eq_true_eq] at *)
            first
            | exact ri_yes (by assumption) (by assumption)
           have hy := pri_t2 hx hr
           refine rg ΦRIP_ok [2, 3] trE ?_
           first
           | exact fz hy
     ·intro h; try exact absurd h (by decide)
      try (exfalso; (try simp only [Bool.not_eq_eq_eq_not, Bool.not_true, Bool.not_false, decide_eq_false_iff_not, decide_eq_true_eq] at *); omega)
      all_goals
       refine rg ΦRIP_ok [0, 2, 3] (And.intro kget trE) ?_
       refine rg ΦRIP_ok [2, 3] (And.intro kget trE) ?_
       refine rg ΦRIP_ok [2] (And.intro kget trE) ?_
       refine nx ?_
       refine rt trE ?_
       repeat' first | with_reducible apply And.intro | exact sd | exact sde trE | exact sdp trE | refine stk trE ?_ | fail
       refine oc bcl_own 40 trE ?_
       repeat' first | (refine lf hK trE ?_; clear hK K') | with_reducible apply And.intro | exact sd | exact sde trE | exact sdp trE | refine stk trE ?_ | fail
       all_goals
        first
        | have hx := hx1 (t := t) (by assumption)
        | have hx := hx2 (t := t) (by assumption)
        | have hx := hx3 (t := t)
        have hdl : (imOf t).dig.length ≤ 20000 := by show (t.kids.getD 1 T.zero).bytes.length ≤ 20000; omega
        have his := impT_sz hdl
        refine rg ΦRIP_ok [1, 2, 7, 8, 9, 10] (And.intro hx (And.intro hdl trE)) ?_
        refine rB ΦRIP_ok [2, 8, 44] trE fun K' hK => ?_
        repeat' first | (refine lf hK trE ?_; clear hK K') | with_reducible apply And.intro | refine sA trE (fun _ => ?_) fun _ => ?_ | refine sAb trE (fun _ => ?_) fun _ => ?_ | refine sAl trE (fun g => ?_) fun g => ?_ | exact sd | exact sde trE | exact sdp trE | refine stk trE ?_ | fail
        all_goals
         refine cn ?_ ?_
         ·intro h; try exact absurd h (by decide)
          try (exfalso; (try simp only [Bool.not_eq_eq_eq_not, Bool.not_true, Bool.not_false, decide_eq_false_iff_not, decide_eq_true_eq] at *); omega)
          all_goals
           have hr : riOk t = false := ri_no (t := t) (by
            (try simp only [Bool.not_eq_eq_eq_not, Bool.not_true, Bool.not_false, decide_eq_false_iff_not, decide_eq_true_eq] at *)
            first
            | exact .inl (rd_e0 (by assumption))
            | exact .inl (rd_e1 (by assumption))
            | exact .inr (.inl (by assumption))
            | exact .inr (.inr (by assumption)))
           have hy := pri_f hr
           refine rg ΦRIP_ok [2, 3] trE ?_
           first
           | exact fz hy
         ·intro h; try exact absurd h (by decide)
          try (exfalso; (try simp only [Bool.not_eq_eq_eq_not, Bool.not_true, Bool.not_false, decide_eq_false_iff_not, decide_eq_true_eq] at *); omega)
          all_goals
           have hr : riOk t = true := by
            (try simp only [Bool.not_eq_eq_eq_not, Bool.not_true, Bool.not_false, decide_eq_false_iff_not, decide_eq_true_eq] at *)
            first
            | exact ri_yes (by assumption) (by assumption)
           have hy := pri_t2 hx hr
           refine rg ΦRIP_ok [2, 3] trE ?_
           first
           | exact fz hy)
end Go.Proofs.YtpajpkbipagjpaaGreatDoor.Oc
namespace Go.Proofs.YtpajpkbipagjpaaGreatDoor.Oc
open Go Go.RowKit Go.Proofs.YtpajpkbipagjpaaGreatDoor.Vm Go.Proofs.YtpajpkbipagjpaaGreatDoor.Tr Go.IntWalk
set_option maxRecDepth 100000
set_option maxHeartbeats 4000000
def rriN (t : T) : Im := if rriOk t then ⟨rrH (kid t 0), rrN (kid t 0), (kid t 1).bytes⟩ else ⟨0, false, []⟩
def rriE (t : T) : Int := if rriOk t then 0 else 200
theorem rri_f {t : T} (h : rriOk t = false) : (rriN t).hash = 0 ∧ (rriN t).null = false ∧ (rriN t).dig = [] ∧ rriE t = 200 ∧ bytesD [] = [] := by
 unfold rriN rriE; rw [h]; exact ⟨rfl, rfl, rfl, rfl, rfl⟩
theorem rri_t {t : T} (h : rriOk t = true) : (rriN t).hash = rrH (t.kids.getD 0 T.zero) ∧ (rriN t).null = rrN (t.kids.getD 0 T.zero) ∧ (rriN t).dig = (t.kids.getD 1 T.zero).bytes ∧ rriE t = 0 := by
 unfold rriN rriE; rw [h]; exact ⟨rfl, rfl, rfl, rfl⟩
theorem rri_no {t : T} (h : ¬ (hasT t 0 16 2 ∧ isT (t.kids.getD 1 T.zero) 4 ∧ rrE (t.kids.getD 0 T.zero) = 0 ∧ ((t.kids.getD 1 T.zero).bytes.length : Int) = sizeH (rrH (t.kids.getD 0 T.zero)))) : rriOk t = false := decide_eq_false h
theorem rri_yes {t : T} (h : hasT t 0 16 2 ∧ isT (t.kids.getD 1 T.zero) 4 ∧ rrE (t.kids.getD 0 T.zero) = 0 ∧ ((t.kids.getD 1 T.zero).bytes.length : Int) = sizeH (rrH (t.kids.getD 0 T.zero))) : rriOk t = true := decide_eq_true h
noncomputable def ΦRRI : Fns := tab [(86, rhasF), (87, risF), (18, rrdhalgF), (70, rsizeF), (82, rprimF)]
theorem ΦRRI_ok : Sound E ΦRRI := sound_cons (by kernel_rfl) rhas_ok (sound_cons (by kernel_rfl) ris_ok (sound_cons (by kernel_rfl) rrdhalg_ok (sound_cons (by kernel_rfl) rsize_ok (sound_cons (by kernel_rfl) rprim_ok (sound_nil)))))
@[go_sem] theorem ΦRRI_r : ΦRRI 86 = some rhasF ∧ ΦRRI 87 = some risF ∧ ΦRRI 18 = some rrdhalgF ∧ ΦRRI 70 = some rsizeF ∧ ΦRRI 82 = some rprimF := ⟨rfl, rfl, rfl, rfl, rfl⟩
@[go_sem] noncomputable def rrimpF : PFn := PF [ST] (fun (t : T) => t.sz ≤ 20000) (fun (t : T) => [.agg (imC (rriN t)), .int .i64 (rriE t)])
theorem rrimp_ok : Pure E 28 rrimpF := Pure.of_sig (rs := [.cell 2 50, .tmp 3]) (n := 52) Tryz.func28 rfl rfl rfl (Nat.le_of_ble_eq_true rfl) (by
 intro (t : T) hds
 have hkl := kids_len t
 refine st0 ?_
 refine rg ΦRRI_ok [1, 2] trE ?_
 rcases hc : decide (hasT t 0 16 2) with _ | _
 all_goals
  try (have hkn : t.kids.length = 2 := (of_decide_eq_true hc).2.2.2.2)
  refine rB ΦRRI_ok [1, 2, 17] (And.intro hc (And.intro (show Int.toNat 2 = 2 from rfl) trE)) fun K' hK => ?_
  repeat' first | (refine lf hK (And.intro hc (And.intro (show Int.toNat 2 = 2 from rfl) trE)) ?_; clear hK K') | with_reducible apply And.intro | refine sA (And.intro hc (And.intro (show Int.toNat 2 = 2 from rfl) trE)) (fun _ => ?_) fun _ => ?_ | refine sAb (And.intro hc (And.intro (show Int.toNat 2 = 2 from rfl) trE)) (fun _ => ?_) fun _ => ?_ | refine sAl (And.intro hc (And.intro (show Int.toNat 2 = 2 from rfl) trE)) (fun g => ?_) fun g => ?_ | exact sd | exact sde (And.intro hc (And.intro (show Int.toNat 2 = 2 from rfl) trE)) | exact sdp (And.intro hc (And.intro (show Int.toNat 2 = 2 from rfl) trE)) | refine stk (And.intro hc (And.intro (show Int.toNat 2 = 2 from rfl) trE)) ?_ | fail
  all_goals
   refine cn ?_ ?_
   ·intro h; try exact absurd h (by decide)
    try (exfalso; (try simp only [Bool.not_eq_eq_eq_not, Bool.not_true, Bool.not_false, decide_eq_false_iff_not, decide_eq_true_eq] at *); omega)
    all_goals
     have hy := rri_f (rri_no (t := t) (fun hO => by first | exact absurd hc (by rw [decide_eq_true hO.1]; decide) | (obtain ⟨_, h2, _⟩ := hO; simp_all)))
     refine rg ΦRRI_ok [2, 3] trE ?_
     first
     | exact fz hy
   ·intro h; try exact absurd h (by decide)
    try (exfalso; (try simp only [Bool.not_eq_eq_eq_not, Bool.not_true, Bool.not_false, decide_eq_false_iff_not, decide_eq_true_eq] at *); omega)
    all_goals
     have hA : hasT t 0 16 2 := by
      first
      | exact of_decide_eq_true hc
      | (simp_all; done)
     have hkn : t.kids.length = 2 := hA.2.2.2.2
     have hI : isT (t.kids.getD 1 T.zero) 4 := by first | assumption | (simp_all; done)
     have hk0 := kid_lt (t := t) (i := 0) (by omega)
     have hk1 := kid_lt (t := t) (i := 1) (by omega)
     have hb1 := T.sz_eq (t.kids.getD 1 T.zero)
     refine rg ΦRRI_ok [1, 2, 4, 5, 6] trE ?_
     refine rdB (n := 13) ΦRRI_ok [1, 2, 4, 5, 40] trE fun L hL => ?_
     repeat' first | (refine lfd hL trE ?_; clear hL L) | with_reducible apply And.intro | refine sA trE (fun _ => ?_) fun _ => ?_ | refine sAb trE (fun _ => ?_) fun _ => ?_ | refine sAl trE (fun g => ?_) fun g => ?_ | exact sd | exact sde trE | exact sdp trE | refine stk trE ?_ | fail
     all_goals
      refine cn ?_ ?_
      ·intro h; try exact absurd h (by decide)
       try (exfalso; (try simp only [Bool.not_eq_eq_eq_not, Bool.not_true, Bool.not_false, decide_eq_false_iff_not, decide_eq_true_eq] at *); omega)
       all_goals
        have hy := rri_f (rri_no (t := t) (fun hO => by
         obtain ⟨_, _, h3, h4⟩ := hO
         (try simp only [Bool.not_eq_eq_eq_not, Bool.not_true, Bool.not_false, decide_eq_false_iff_not, decide_eq_true_eq] at *)
         first
         | contradiction
         | omega
         | (simp_all; done)))
        refine rg ΦRRI_ok [2, 3] trE ?_
        first
        | exact fz hy
      ·intro h; try exact absurd h (by decide)
       try (exfalso; (try simp only [Bool.not_eq_eq_eq_not, Bool.not_true, Bool.not_false, decide_eq_false_iff_not, decide_eq_true_eq] at *); omega)
       all_goals
        have hy := rri_t (rri_yes (t := t) (by
         (try simp only [Bool.not_eq_eq_eq_not, Bool.not_true, Bool.not_false, decide_eq_false_iff_not, decide_eq_true_eq] at *)
         exact ⟨hA, hI, by first | assumption | omega, by first | assumption | omega⟩))
        refine rg ΦRRI_ok [2, 3] trE ?_
        first
        | exact fz hy)
end Go.Proofs.YtpajpkbipagjpaaGreatDoor.Oc
