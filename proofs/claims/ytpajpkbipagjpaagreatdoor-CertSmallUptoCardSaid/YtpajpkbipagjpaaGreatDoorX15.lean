/- What functions of the program, of its library and of the document compute: their contracts, and laws about what they compute (X15). No condition. -/
import Derived.Test.YtpajpkbipagjpaaGreatDoorX13
import Derived.Test.YtpajpkbipagjpaaGreatDoorX14
import Derived.Test.YtpajpkbipagjpaaGreatDoorX11
import Derived.Test.YtpajpkbipagjpaaGreatDoorX12
import Derived.Test.YtpajpkbipagjpaaGreatDoorX03
import Derived.Test.YtpajpkbipagjpaaGreatDoorX06
set_option linter.unusedVariables false
set_option linter.unusedSimpArgs false
namespace Go.Proofs.YtpajpkbipagjpaaGreatDoor.Oc
open Go Go.RowKit Go.Proofs.YtpajpkbipagjpaaGreatDoor.Vm Go.Proofs.YtpajpkbipagjpaaGreatDoor.Tr Go.IntWalk
set_option maxRecDepth 100000
set_option maxHeartbeats 4000000
def prnN (t : T) : List Rd := if rnOk t then rnN t else []
def prnE (t : T) : Int := if rnOk t then 0 else 200
theorem prn_f {t : T} (h : rnOk t = false) : prnN t = [] ∧ prnE t = 200 ∧ rdsD [] = [] := ⟨by unfold prnN; rw [h]; rfl, by unfold prnE; rw [h]; rfl, rfl⟩
theorem prn_t {t : T} (h : rnOk t = true) : prnN t = rnN t ∧ prnE t = 0 := ⟨by unfold prnN; rw [h]; rfl, by unfold prnE; rw [h]; rfl⟩
theorem prn_no1 {t : T} (h : ¬ nameE (rnN t) = 0) : rnOk t = false := by unfold rnOk; rw [nmE_ok.2.1 h, Bool.false_and]
theorem prn_no2 {t : T} (h : ¬ nameT (rnN t) = t) : rnOk t = false := by unfold rnOk; rw [decide_eq_false h, Bool.and_false]
theorem prn_yes {t : T} (h : nameE (rnN t) = 0) (h2 : nameT (rnN t) = t) : rnOk t = true := by unfold rnOk; rw [nmE_ok.1.1 h, decide_eq_true h2]; rfl
theorem rdO_row3 {l : List Rd} {x : T} {a b : List UInt8} {c : Bool} (ha : a = (kid (kid x 0) 0).bytes) (hb : b = (kid (kid x 0) 1).bytes) (hc : c = decide ((kid (kid x 0) 1).tag = 19)) : rdsD l ++ [[.int .i64 (idxK (nameOf a)), .str b, .bool c]] = rdsD (l ++ [rdOf x]) := by
 subst ha hb hc
 rw [rdsD_snoc]; rfl
theorem kid_nil {t : T} (h : (t.kids.length : Int) = 0) (i : Nat) : t.kids.getD i T.zero = T.zero := by rw [List.eq_nil_of_length_eq_zero (show t.kids.length = 0 by omega)]; rfl
theorem kb {x : T} : ((x.kids.getD 0 T.zero).kids.getD 0 T.zero).bytes.length ≤ x.sz := by
 have h1 := kid_sz' x 0
 have h2 := kid_sz' (kid x 0) 0
 have h3 := T.sz_eq (kid (kid x 0) 0)
 show (kid (kid x 0) 0).bytes.length ≤ x.sz
 omega
theorem kdrop (l : List T) : (l.drop 1).take ((l.length : Int) - 1).toNat = l.drop 1 := List.take_of_length_le (by rw [List.length_drop]; omega)
theorem kid_out {t : T} (h : (((t.kids.drop 1).take ((t.kids.length : Int) - 1).toNat).length : Int) = 0) : t.kids.getD 1 T.zero = T.zero := by
 rw [kdrop, List.length_drop] at h
 rw [List.getD_eq_getElem?_getD, List.getElem?_eq_none (by omega)]; rfl
theorem kget (l : List T) : ((l.drop 1).take ((l.length : Int) - 1).toNat).getD 0 T.zero = l.getD 1 T.zero := by
 rw [kdrop, List.getD_eq_getElem?_getD, List.getElem?_drop, List.getD_eq_getElem?_getD]
theorem nameT_sz (n : List Rd) : (nameT n).sz ≤ 5000 := by
 unfold nameT
 split
 ·rename_i h
  unfold nameOk at h
  simp only [Bool.and_eq_true, decide_eq_true_eq, List.all_eq_true] at h
  have := szs_rdn n h.2
  rw [sz_seq]; omega
 ·decide
noncomputable def ΦPN : Fns := tab [(75, onameF), (85, sindexF), (21, bname_1F), (76, same0F)]
theorem ΦPN_ok : Sound E1 ΦPN := sound_cons (by kernel_rfl) (lift1 oname_ok) (sound_cons (by kernel_rfl) (lift1 sindex_ok) (sound_cons (by kernel_rfl) bname_1_ok (sound_cons (by kernel_rfl) (lift1 same0_ok) (sound_nil))))
@[go_sem] theorem ΦPN_r : ΦPN 75 = some onameF ∧ ΦPN 85 = some sindexF ∧ ΦPN 21 = some bname_1F ∧ ΦPN 76 = some same0F ∧ ΦPN 72 = none ∧ ΦPN 73 = none := ⟨rfl, rfl, rfl, rfl, rfl, rfl⟩
@[go_sem] noncomputable def rname_1F : PFn := PF [ST] (fun (t : T) => t.sz ≤ 20000) (fun (t : T) => [.lst (rdsD (prnN t)), .int .i64 (prnE t)])
theorem rname_1_ok : Pure E1 25 rname_1F := Pure.of_sig (rs := [.tmp 2, .tmp 3]) (n := 58) Tryz.func25 rfl rfl rfl (Nat.le_of_ble_eq_true rfl) (by
 intro (t : T) hds
 have hkl := kids_len t
 have hB := rn_B hds
 refine st0 ?_
 refine rg ΦPN_ok [1] trE ?_
 refine rg ΦPN_ok [1, 4] trE ?_
 refine rg ΦPN_ok [1, 4, 13, 14, 15] trE ?_
 refine nx ?_
 refine VC.loopP (ι := Nat × List Rd) [1, 13, 14] (fun z => [(4, .sl 2 0 z.2.length), (15, .dat (.int .i64 (z.1 : Int)))]) (fun z => [(1, .cells [.dat (.int .i64 t.cls), .dat (.int .i64 t.tag), .dat (.bool t.cons), .dat (.lst (bytesD t.bytes)), .dat (.lst (nodesD t.kids))] false), (2, .arr 52 3 (rdsD z.2) 0)]) (fun z => z.1 ≤ t.kids.length ∧ z.2 = (t.kids.take z.1).map rdOf) (fun z => t.kids.length - z.1) (0, []) ⟨Nat.zero_le _, rfl⟩ ?_ ?_
 ·refine (Ent.nilT 4 2 52 3 (by decide) (by simp -implicitDefEqProofs only [go_sem]) (by simp -implicitDefEqProofs only [go_sem])).trans (Ent.to rfl rfl rfl ?_ ?_)
  ·simp -implicitDefEqProofs only [go_sem]; (try simp only [D.dat.injEq, Vm.Data.int.injEq, true_and, and_true, and_self, eq_self]); (try omega); (try ((repeat' apply And.intro) <;> first | omega | rfl))
  ·(repeat' (first | exact all_nil | (refine all_cons ?_ ?_))) <;> (simp -implicitDefEqProofs only [go_sem]; (try rfl); (try rw [rdsD_nil]))
 rintro ⟨i, l⟩ hp; (try dsimp only at hp); obtain ⟨hi, hl⟩ := hp
 have hll : l.length = i := by rw [hl, List.length_map, List.length_take]; omega
 refine st0 ?_
 refine rg ΦPN_ok [1, 4, 13, 14, 15, 16] trE ?_
 refine cn ?_ ?_
 ·intro h; try exact na h
  all_goals
   have hxs := kid_lt (t := t) (i := i) (by omega)
   refine rg ΦPN_ok [1, 4, 6, 13, 14, 15] trE ?_
   refine rB ΦPN_ok [1, 4, 7, 13, 14, 15] trE fun K' hK => ?_
   repeat' first | with_reducible apply And.intro | exact sd | exact sde trE | exact sdp trE | refine stk trE ?_ | fail
   refine ec (rs := [.tmp 2]) (n := 7) Tryz.func72 rfl rfl rfl ?_
   refine rg ΦPN_ok [1] trE ?_
   refine rg ΦPN_ok [2] trE ?_
   refine nx ?_
   refine rt trE ?_
   repeat' first | with_reducible apply And.intro | exact sd | exact sde trE | exact sdp trE | refine stk trE ?_ | fail
   refine ec (rs := [.cell 2 25]) (n := 26) Tryz.func73 rfl rfl rfl ?_
   refine rg ΦPN_ok [0, 2] trE ?_
   refine rg ΦPN_ok [0, 2, 9] trE ?_
   refine cn ?_ ?_
   ·intro h; try exact na h
    all_goals
     refine rg ΦPN_ok [2] trE ?_
     refine nx ?_
     refine rt trE ?_
     repeat' first | with_reducible apply And.intro | exact sd | exact sde trE | exact sdp trE | refine stk trE ?_ | fail
     refine ec (rs := [.tmp 2]) (n := 7) Tryz.func72 rfl rfl rfl ?_
     refine rg ΦPN_ok [1] trE ?_
     refine rg ΦPN_ok [2] trE ?_
     refine nx ?_
     refine rt trE ?_
     repeat' first | (refine lf hK trE ?_; clear hK K') | with_reducible apply And.intro | exact sd | exact sde trE | exact sdp trE | refine stk trE ?_ | fail
     all_goals
      refine rB ΦPN_ok [1, 4, 8, 9, 13, 14, 15] trE fun K' hK => ?_
      repeat' first | with_reducible apply And.intro | exact sd | exact sde trE | exact sdp trE | refine stk trE ?_ | fail
      refine ec (rs := [.cell 2 25]) (n := 26) Tryz.func73 rfl rfl rfl ?_
      refine rg ΦPN_ok [0, 2] trE ?_
      refine rg ΦPN_ok [0, 2, 9] trE ?_
      refine cn ?_ ?_
      ·intro h; try exact na h
       all_goals
        refine rg ΦPN_ok [2] trE ?_
        refine nx ?_
        refine rt trE ?_
        repeat' first | with_reducible apply And.intro | exact sd | exact sde trE | exact sdp trE | refine stk trE ?_ | fail
        refine ec (rs := [.cell 2 25]) (n := 26) Tryz.func73 rfl rfl rfl ?_
        refine rg ΦPN_ok [0, 2] trE ?_
        refine rg ΦPN_ok [0, 2, 9] trE ?_
        refine cn ?_ ?_
        ·intro h; try exact na h
         all_goals
          refine rg ΦPN_ok [2] trE ?_
          refine nx ?_
          refine rt trE ?_
          repeat' first | (refine lf hK trE ?_; clear hK K') | with_reducible apply And.intro | exact sd | exact sde trE | exact sdp trE | refine stk trE ?_ | fail
          all_goals
           have hkb := kb (x := (t.kids.getD i T.zero))
           refine rdL ΦPN_ok 14 trE ?_
           refine rgL ΦPN_ok trE ?_
           refine nx ?_
           refine ⟨(i + 1, l ++ [rdOf (t.kids.getD i T.zero)]), ⟨by dsimp only; omega, by dsimp only; rw [hl]; exact rdO_take (by omega)⟩, Ent.to rfl rfl rfl ?_ ?_, by dsimp only; omega⟩
           ·simp -implicitDefEqProofs only [go_sem]; (try simp only [List.length_append, List.length_cons, List.length_nil]); (try simp only [D.dat.injEq, Vm.Data.int.injEq, true_and, and_true, and_self, eq_self]); (try omega); (try ((repeat' apply And.intro) <;> first | omega | rfl))
           ·(repeat' (first | exact all_nil | (refine all_cons ?_ ?_))) <;> (simp -implicitDefEqProofs only [go_sem]; (try rfl); skip)
            all_goals (refine congrArg (fun r => some (Blk.arr 52 3 r 0)) (rdO_row3 (x := (t.kids.getD i T.zero)) ?_ ?_ ?_) <;> (unfold kid; first | rfl | (rw [kid_nil (t := (t.kids.getD i T.zero)) (by assumption)]; rfl) | (rw [kid_nil (t := ((t.kids.getD i T.zero).kids.getD 0 T.zero)) (by assumption)]; rfl) | (rw [kid_out (t := ((t.kids.getD i T.zero).kids.getD 0 T.zero)) (by assumption)]; rfl) | (rw [kget])))
        ·exact fun h => na h
      ·exact fun h => na h
   ·intro h; try exact na h
    all_goals
     refine rg ΦPN_ok [0, 2, 3] trE ?_
     refine rg ΦPN_ok [2, 3] trE ?_
     refine rg ΦPN_ok [2] trE ?_
     refine nx ?_
     refine rt trE ?_
     repeat' first | with_reducible apply And.intro | exact sd | exact sde trE | exact sdp trE | refine stk trE ?_ | fail
     refine ec (rs := [.tmp 2]) (n := 7) Tryz.func72 rfl rfl rfl ?_
     refine rg ΦPN_ok [1] trE ?_
     refine rg ΦPN_ok [2] trE ?_
     refine nx ?_
     refine rt trE ?_
     repeat' first | (refine lf hK trE ?_; clear hK K') | with_reducible apply And.intro | exact sd | exact sde trE | exact sdp trE | refine stk trE ?_ | fail
     all_goals
      refine rB ΦPN_ok [1, 4, 8, 9, 13, 14, 15] trE fun K' hK => ?_
      repeat' first | with_reducible apply And.intro | exact sd | exact sde trE | exact sdp trE | refine stk trE ?_ | fail
      refine ec (rs := [.cell 2 25]) (n := 26) Tryz.func73 rfl rfl rfl ?_
      refine rg ΦPN_ok [0, 2] trE ?_
      refine rg ΦPN_ok [0, 2, 9] trE ?_
      refine cn ?_ ?_
      ·intro h; try exact na h
       all_goals
        refine rg ΦPN_ok [2] trE ?_
        refine nx ?_
        refine rt trE ?_
        repeat' first | with_reducible apply And.intro | exact sd | exact sde trE | exact sdp trE | refine stk trE ?_ | fail
        refine ec (rs := [.cell 2 25]) (n := 26) Tryz.func73 rfl rfl rfl ?_
        refine rg ΦPN_ok [0, 2] trE ?_
        refine rg ΦPN_ok [0, 2, 9] trE ?_
        refine cn ?_ ?_
        ·intro h; try exact na h
         all_goals
          refine rg ΦPN_ok [2] trE ?_
          refine nx ?_
          refine rt trE ?_
          repeat' first | (refine lf hK trE ?_; clear hK K') | with_reducible apply And.intro | exact sd | exact sde trE | exact sdp trE | refine stk trE ?_ | fail
          all_goals
           have hkb := kb (x := (t.kids.getD i T.zero))
           refine rdL ΦPN_ok 14 trE ?_
           refine rgL ΦPN_ok trE ?_
           refine nx ?_
           refine ⟨(i + 1, l ++ [rdOf (t.kids.getD i T.zero)]), ⟨by dsimp only; omega, by dsimp only; rw [hl]; exact rdO_take (by omega)⟩, Ent.to rfl rfl rfl ?_ ?_, by dsimp only; omega⟩
           ·simp -implicitDefEqProofs only [go_sem]; (try simp only [List.length_append, List.length_cons, List.length_nil]); (try simp only [D.dat.injEq, Vm.Data.int.injEq, true_and, and_true, and_self, eq_self]); (try omega); (try ((repeat' apply And.intro) <;> first | omega | rfl))
           ·(repeat' (first | exact all_nil | (refine all_cons ?_ ?_))) <;> (simp -implicitDefEqProofs only [go_sem]; (try rfl); skip)
            all_goals (refine congrArg (fun r => some (Blk.arr 52 3 r 0)) (rdO_row3 (x := (t.kids.getD i T.zero)) ?_ ?_ ?_) <;> (unfold kid; first | rfl | (rw [kid_nil (t := (t.kids.getD i T.zero)) (by assumption)]; rfl) | (rw [kid_nil (t := ((t.kids.getD i T.zero).kids.getD 0 T.zero)) (by assumption)]; rfl) | (rw [kid_out (t := ((t.kids.getD i T.zero).kids.getD 0 T.zero)) (by assumption)]; rfl) | (rw [kget])))
        ·exact fun h => na h
      ·intro h; try exact na h
       all_goals
        refine rg ΦPN_ok [0, 2, 3] trE ?_
        refine rg ΦPN_ok [2, 3] trE ?_
        refine rg ΦPN_ok [2] trE ?_
        refine nx ?_
        refine rt trE ?_
        repeat' first | with_reducible apply And.intro | exact sd | exact sde trE | exact sdp trE | refine stk trE ?_ | fail
        refine ec (rs := [.cell 2 25]) (n := 26) Tryz.func73 rfl rfl rfl ?_
        refine rg ΦPN_ok [0, 2] trE ?_
        refine rg ΦPN_ok [0, 2, 9] trE ?_
        refine cn ?_ ?_
        ·intro h; try exact na h
         all_goals
          refine rg ΦPN_ok [2] trE ?_
          refine nx ?_
          refine rt trE ?_
          repeat' first | (refine lf hK trE ?_; clear hK K') | with_reducible apply And.intro | exact sd | exact sde trE | exact sdp trE | refine stk trE ?_ | fail
          all_goals
           have hkb := kb (x := (t.kids.getD i T.zero))
           refine rdL ΦPN_ok 14 trE ?_
           refine rgL ΦPN_ok trE ?_
           refine nx ?_
           refine ⟨(i + 1, l ++ [rdOf (t.kids.getD i T.zero)]), ⟨by dsimp only; omega, by dsimp only; rw [hl]; exact rdO_take (by omega)⟩, Ent.to rfl rfl rfl ?_ ?_, by dsimp only; omega⟩
           ·simp -implicitDefEqProofs only [go_sem]; (try simp only [List.length_append, List.length_cons, List.length_nil]); (try simp only [D.dat.injEq, Vm.Data.int.injEq, true_and, and_true, and_self, eq_self]); (try omega); (try ((repeat' apply And.intro) <;> first | omega | rfl))
           ·(repeat' (first | exact all_nil | (refine all_cons ?_ ?_))) <;> (simp -implicitDefEqProofs only [go_sem]; (try rfl); skip)
            all_goals (refine congrArg (fun r => some (Blk.arr 52 3 r 0)) (rdO_row3 (x := (t.kids.getD i T.zero)) ?_ ?_ ?_) <;> (unfold kid; first | rfl | (rw [kid_nil (t := (t.kids.getD i T.zero)) (by assumption)]; rfl) | (rw [kid_nil (t := ((t.kids.getD i T.zero).kids.getD 0 T.zero)) (by assumption)]; rfl) | (rw [kid_out (t := ((t.kids.getD i T.zero).kids.getD 0 T.zero)) (by assumption)]; rfl) | (rw [kget])))
        ·intro h; try exact na h
         all_goals
          refine rg ΦPN_ok [0, 2, 3] trE ?_
          refine rg ΦPN_ok [2, 3] trE ?_
          refine rg ΦPN_ok [2] trE ?_
          refine nx ?_
          refine rt trE ?_
          repeat' first | (refine lf hK trE ?_; clear hK K') | with_reducible apply And.intro | exact sd | exact sde trE | exact sdp trE | refine stk trE ?_ | fail
          all_goals
           have hkb := kb (x := (t.kids.getD i T.zero))
           refine rdL ΦPN_ok 14 trE ?_
           refine rgL ΦPN_ok trE ?_
           refine nx ?_
           refine ⟨(i + 1, l ++ [rdOf (t.kids.getD i T.zero)]), ⟨by dsimp only; omega, by dsimp only; rw [hl]; exact rdO_take (by omega)⟩, Ent.to rfl rfl rfl ?_ ?_, by dsimp only; omega⟩
           ·simp -implicitDefEqProofs only [go_sem]; (try simp only [List.length_append, List.length_cons, List.length_nil]); (try simp only [D.dat.injEq, Vm.Data.int.injEq, true_and, and_true, and_self, eq_self]); (try omega); (try ((repeat' apply And.intro) <;> first | omega | rfl))
           ·(repeat' (first | exact all_nil | (refine all_cons ?_ ?_))) <;> (simp -implicitDefEqProofs only [go_sem]; (try rfl); skip)
            all_goals (refine congrArg (fun r => some (Blk.arr 52 3 r 0)) (rdO_row3 (x := (t.kids.getD i T.zero)) ?_ ?_ ?_) <;> (unfold kid; first | rfl | (rw [kid_nil (t := (t.kids.getD i T.zero)) (by assumption)]; rfl) | (rw [kid_nil (t := ((t.kids.getD i T.zero).kids.getD 0 T.zero)) (by assumption)]; rfl) | (rw [kid_out (t := ((t.kids.getD i T.zero).kids.getD 0 T.zero)) (by assumption)]; rfl) | (rw [kget])))
 ·intro h; try exact na h
  all_goals
   have hlx : l = rnN t := hl.trans (rdO_all (by omega))
   have hBl : nmB l := by rw [hlx]; exact hB
   have hBB : nmB l = True := eq_true hBl
   have hns := nameT_sz l
   refine rg ΦPN_ok [1, 4, 10, 11] (And.intro hBB trE) ?_
   refine rB ΦPN_ok [4, 56] trE fun K' hK => ?_
   repeat' first | (refine lf hK trE ?_; clear hK K') | with_reducible apply And.intro | refine sA trE (fun _ => ?_) fun _ => ?_ | refine sAb trE (fun _ => ?_) fun _ => ?_ | refine sAl trE (fun g => ?_) fun g => ?_ | exact sd | exact sde trE | exact sdp trE | refine stk trE ?_ | fail
   all_goals
    refine cn ?_ ?_
    ·intro h; try exact na h
     all_goals
      have hcs : ¬ nameE l = 0 ∨ ¬ nameT l = t := by
       (try simp only [Bool.not_eq_eq_eq_not, Bool.not_true, Bool.not_false, decide_eq_false_iff_not, decide_eq_true_eq] at *)
       first
       | (left; assumption)
       | (right; assumption)
      have hy := prn_f (t := t) (by
       rw [hlx] at hcs
       exact hcs.elim prn_no1 prn_no2)
      refine rg ΦPN_ok [2, 3] trE ?_
      first
      | exact fz hy
    ·intro h; try exact na h
     all_goals
      have hcs : nameE l = 0 ∧ nameT l = t := by
       (try simp only [Bool.not_eq_eq_eq_not, Bool.not_true, Bool.not_false, decide_eq_false_iff_not, decide_eq_true_eq] at *)
       first
       | exact ⟨by assumption, by assumption⟩
      have hy := prn_t (t := t) (by rw [hlx] at hcs; exact prn_yes hcs.1 hcs.2)
      rw [← hlx] at hy
      refine rg ΦPN_ok [2, 3] trE ?_
      first
      | exact fz hy)
end Go.Proofs.YtpajpkbipagjpaaGreatDoor.Oc
namespace Go.Proofs.YtpajpkbipagjpaaGreatDoor.Oc
open Go Go.RowKit Go.Proofs.YtpajpkbipagjpaaGreatDoor.Vm Go.Proofs.YtpajpkbipagjpaaGreatDoor.Tr Go.IntWalk
set_option maxRecDepth 100000
set_option maxHeartbeats 4000000
def priN (t : T) : Im := if riOk t then imOf t else ⟨0, false, []⟩
def priE (t : T) : Int := if riOk t then 0 else 200
theorem pri_f {t : T} (h : riOk t = false) : (priN t).hash = 0 ∧ (priN t).null = false ∧ (priN t).dig = [] ∧ priE t = 200 ∧ bytesD [] = [] := by
 unfold priN priE; rw [h]; exact ⟨rfl, rfl, rfl, rfl, rfl⟩
theorem pri_t {t : T} (h : riOk t = true) : (priN t).hash = (imOf t).hash ∧ (priN t).null = (imOf t).null ∧ (priN t).dig = (imOf t).dig ∧ priE t = 0 := by
 unfold priN priE; rw [h]; exact ⟨rfl, rfl, rfl, rfl⟩
theorem rdBad : (if rdOk (T.mk (-1) 0 false [] []) = true then rdH (T.mk (-1) 0 false [] []) else 0) = 0 ∧ (if rdOk (T.mk (-1) 0 false [] []) = true then rdN (T.mk (-1) 0 false [] []) else false) = false ∧ (if rdOk (T.mk (-1) 0 false [] []) = true then (0 : Int) else 200) = 200 := by
 have : rdOk (T.mk (-1) 0 false [] []) = false := by decide +kernel
 rw [this]; exact ⟨rfl, rfl, rfl⟩
theorem rdZ : (if rdOk T.zero = true then rdH T.zero else 0) = 0 ∧ (if rdOk T.zero = true then rdN T.zero else false) = false ∧ rdOk T.zero = false := by
 have : rdOk T.zero = false := by decide +kernel
 rw [this]; exact ⟨rfl, rfl, rfl⟩
theorem impT_sz {x : Im} (h : x.dig.length ≤ 20000) : (impT x).sz ≤ 30000 := by
 have := hashT_sz x.hash x.null
 unfold impT
 split
 ·simp only [sz_seq, T.szs_cons, sz_prim, T.szs_nil]; omega
 ·decide
theorem ri_no {t : T} (h : ¬ rdOk (kid t 0) = true ∨ ¬ impE (imOf t) = 0 ∨ ¬ impT (imOf t) = t) : riOk t = false := by
 unfold riOk
 rcases h with h | h | h
 ·have hz : impOk (imOf t) = false := by
   refine decide_eq_false fun hc => hc.1 ?_
   show sizeH (if rdOk (kid t 0) = true then rdH (kid t 0) else 0) = 0
   rw [if_neg h]; rfl
  rw [hz, Bool.false_and]
 ·have : impOk (imOf t) = false := by
   cases hi : impOk (imOf t) with
   | false => rfl
   | true => exact absurd (by unfold impE; rw [hi]; rfl) h
  rw [this, Bool.false_and]
 ·rw [decide_eq_false h, Bool.and_false]
theorem ri_yes {t : T} (h : impE (imOf t) = 0) (h2 : impT (imOf t) = t) : riOk t = true := by
 unfold riOk
 have : impOk (imOf t) = true := by
  cases hi : impOk (imOf t) with
  | true => rfl
  | false => unfold impE at h; rw [hi] at h; exact absurd h (by decide)
 rw [this, decide_eq_true h2]; rfl
theorem pri_t2 {t : T} {h : Int} {n : Bool} {d : List UInt8} (hx : Im.mk h n d = imOf t) (hr : riOk t = true) : (priN t).hash = h ∧ (priN t).null = n ∧ (priN t).dig = d ∧ priE t = 0 := by
 unfold priN priE; rw [hr, ← hx]; exact ⟨rfl, rfl, rfl, rfl⟩
theorem hx1 {t : T} (h : (t.kids.length : Int) = 0) : Im.mk 0 false [] = imOf t := by
 unfold imOf kid
 rw [kid_nil h, kid_nil h, rdZ.1, rdZ.2.1]; rfl
theorem hx2 {t : T} (h : (((t.kids.drop 1).take ((t.kids.length : Int) - 1).toNat).length : Int) = 0) : Im.mk (if rdOk (t.kids.getD 0 T.zero) = true then rdH (t.kids.getD 0 T.zero) else 0) (if rdOk (t.kids.getD 0 T.zero) = true then rdN (t.kids.getD 0 T.zero) else false) [] = imOf t := by
 unfold imOf kid
 rw [kid_out h]; rfl
theorem hx3 {t : T} : Im.mk (if rdOk (t.kids.getD 0 T.zero) = true then rdH (t.kids.getD 0 T.zero) else 0) (if rdOk (t.kids.getD 0 T.zero) = true then rdN (t.kids.getD 0 T.zero) else false) (t.kids.getD 1 T.zero).bytes = imOf t := rfl
theorem rd_e0 {t : T} (h : (t.kids.length : Int) = 0) : ¬ rdOk (kid t 0) = true := by
 unfold kid; rw [kid_nil h, rdZ.2.2]; decide
theorem rd_e1 {k : T} : (¬ (if rdOk k = true then (0 : Int) else 200) = 0) → ¬ rdOk k = true := fun h hc => h (if_pos hc)
end Go.Proofs.YtpajpkbipagjpaaGreatDoor.Oc
namespace Go.Proofs.YtpajpkbipagjpaaGreatDoor.Oc
open Go Go.RowKit Go.Proofs.YtpajpkbipagjpaaGreatDoor.Vm Go.Proofs.YtpajpkbipagjpaaGreatDoor.Tr Go.IntWalk
set_option maxRecDepth 100000
set_option maxHeartbeats 4000000
noncomputable def ΦRIP : Fns := tab [(17, rdhalgF), (23, bimpF), (76, same0F)]
theorem ΦRIP_ok : Sound E ΦRIP := sound_cons (by kernel_rfl) rdhalg_ok (sound_cons (by kernel_rfl) bimp_ok (sound_cons (by kernel_rfl) same0_ok (sound_nil)))
@[go_sem] theorem ΦRIP_r : ΦRIP 17 = some rdhalgF ∧ ΦRIP 23 = some bimpF ∧ ΦRIP 76 = some same0F ∧ ΦRIP 72 = none ∧ ΦRIP 73 = none ∧ ΦRIP 88 = none := ⟨rfl, rfl, rfl, rfl, rfl, rfl⟩
@[go_sem] theorem ΦRIP_c : callable Tryz.prog 72 = true ∧ callable Tryz.prog 73 = true ∧ callable Tryz.prog 88 = true := ⟨by kernel_rfl, by kernel_rfl, by kernel_rfl⟩
@[go_sem] noncomputable def rimpF : PFn := PF [ST] (fun (t : T) => t.sz ≤ 20000) (fun (t : T) => [.agg (imC (priN t)), .int .i64 (priE t)])
theorem rimp_ok : Pure E 27 rimpF := Pure.of_sig (rs := [.cell 2 50, .tmp 3]) (n := 47) Tryz.func27 rfl rfl rfl (Nat.le_of_ble_eq_true rfl) (by
 intro (t : T) hds
 refine st0 ?_
 refine rg ΦRIP_ok [1, 2] trE ?_
 refine rB ΦRIP_ok [1, 2, 4] trE fun K' hK => ?_
 repeat' first | with_reducible apply And.intro | exact sd | exact sde trE | exact sdp trE | refine stk trE ?_ | fail
 refine ec (rs := [.tmp 2]) (n := 7) Tryz.func72 rfl rfl rfl ?_
 refine rg ΦRIP_ok [1] trE ?_
 refine rg ΦRIP_ok [2] trE ?_
 refine nx ?_
 refine rt trE ?_
 repeat' first | (refine lf hK trE ?_; clear hK K') | with_reducible apply And.intro | exact sd | exact sde trE | exact sdp trE | refine stk trE ?_ | fail
 all_goals
  have hkl := kids_len t
  have hk0s : (t.kids.getD 0 T.zero).sz ≤ t.sz := kid_sz' t 0
  refine rB ΦRIP_ok [1, 2, 4, 5, 6, 7] (And.intro rdBad trE) fun K' hK => ?_
  repeat' first | with_reducible apply And.intro | exact sd | exact sde (And.intro rdBad trE) | exact sdp (And.intro rdBad trE) | refine stk (And.intro rdBad trE) ?_ | fail
  refine ec (rs := [.cell 2 25]) (n := 26) Tryz.func73 rfl rfl rfl ?_
  refine rg ΦRIP_ok [0, 2] (And.intro kget trE) ?_
  refine rg ΦRIP_ok [0, 2, 9] (And.intro kget trE) ?_
  refine cn ?_ ?_
  ·intro h; try exact na h
   all_goals
    refine rg ΦRIP_ok [2] (And.intro kget trE) ?_
    refine nx ?_
    refine rt trE ?_
    repeat' first | (refine lf hK (And.intro rdBad trE) ?_; clear hK K') | with_reducible apply And.intro | exact sd | exact sde (And.intro rdBad trE) | exact sdp (And.intro rdBad trE) | refine stk (And.intro rdBad trE) ?_ | fail
    all_goals
     have hk0b := T.sz_eq (t.kids.getD 1 T.zero)
     have hk1s := kid_sz' t 1
     have hk1b : (t.kids.getD 1 T.zero).bytes.length ≤ t.sz := by unfold kid at hk1s; omega
     refine rB ΦRIP_ok [1, 2, 7, 8] trE fun K' hK => ?_
     repeat' first | with_reducible apply And.intro | exact sd | exact sde trE | exact sdp trE | refine stk trE ?_ | fail
     refine ec (rs := [.cell 2 25]) (n := 26) Tryz.func73 rfl rfl rfl ?_
     refine rg ΦRIP_ok [0, 2] (And.intro kget trE) ?_
     refine rg ΦRIP_ok [0, 2, 9] (And.intro kget trE) ?_
     refine cn ?_ ?_
     ·intro h; try exact na h
      all_goals
       refine rg ΦRIP_ok [2] (And.intro kget trE) ?_
       refine nx ?_
       refine rt trE ?_
       repeat' first | with_reducible apply And.intro | exact sd | exact sde trE | exact sdp trE | refine stk trE ?_ | fail
       refine oc bcl_own 40 trE ?_
       repeat' first | (refine lf hK trE ?_; clear hK K') | with_reducible apply And.intro | exact sd | exact sde trE | exact sdp trE | refine stk trE ?_ | fail
       all_goals
        first
        | have hx := hx1 (t := t) (by assumption)
        | have hx := hx2 (t := t) (by assumption)
        | have hx := hx3 (t := t)
        have hdl : (imOf t).dig.length ≤ 20000 := by show (t.kids.getD 1 T.zero).bytes.length ≤ 20000; omega
        have his := impT_sz hdl
        refine rg ΦRIP_ok [1, 2, 7, 8, 9, 10] (And.intro hx (And.intro hdl trE)) ?_
        refine rB ΦRIP_ok [2, 8, 44] trE fun K' hK => ?_
        repeat' first | (refine lf hK trE ?_; clear hK K') | with_reducible apply And.intro | refine sA trE (fun _ => ?_) fun _ => ?_ | refine sAb trE (fun _ => ?_) fun _ => ?_ | refine sAl trE (fun g => ?_) fun g => ?_ | exact sd | exact sde trE | exact sdp trE | refine stk trE ?_ | fail
        all_goals
         refine cn ?_ ?_
         ·intro h; try exact na h
          all_goals
           have hr : riOk t = false := ri_no (t := t) (by
            (try simp only [Bool.not_eq_eq_eq_not, Bool.not_true, Bool.not_false, decide_eq_false_iff_not, decide_eq_true_eq] at *)
            first
            | exact .inl (rd_e0 (by assumption))
            | exact .inl (rd_e1 (by assumption))
            | exact .inr (.inl (by assumption))
            | exact .inr (.inr (by assumption)))
           have hy := pri_f hr
           refine rg ΦRIP_ok [2, 3] trE ?_
           first
           | exact fz hy
         ·exact fun h => na h
     ·exact fun h => na h
  ·intro h; try exact na h
   all_goals
    refine rg ΦRIP_ok [0, 2, 3] (And.intro kget trE) ?_
    refine rg ΦRIP_ok [2, 3] (And.intro kget trE) ?_
    refine rg ΦRIP_ok [2] (And.intro kget trE) ?_
    refine nx ?_
    refine rt trE ?_
    repeat' first | (refine lf hK (And.intro rdBad trE) ?_; clear hK K') | with_reducible apply And.intro | exact sd | exact sde (And.intro rdBad trE) | exact sdp (And.intro rdBad trE) | refine stk (And.intro rdBad trE) ?_ | fail
    all_goals
     have hk0b := T.sz_eq (t.kids.getD 1 T.zero)
     have hk1s := kid_sz' t 1
     have hk1b : (t.kids.getD 1 T.zero).bytes.length ≤ t.sz := by unfold kid at hk1s; omega
     refine rB ΦRIP_ok [1, 2, 7, 8] trE fun K' hK => ?_
     repeat' first | with_reducible apply And.intro | exact sd | exact sde trE | exact sdp trE | refine stk trE ?_ | fail
     refine ec (rs := [.cell 2 25]) (n := 26) Tryz.func73 rfl rfl rfl ?_
     refine rg ΦRIP_ok [0, 2] (And.intro kget trE) ?_
     refine rg ΦRIP_ok [0, 2, 9] (And.intro kget trE) ?_
     refine cn ?_ ?_
     ·intro h; try exact na h
      all_goals
       refine rg ΦRIP_ok [2] (And.intro kget trE) ?_
       refine nx ?_
       refine rt trE ?_
       repeat' first | with_reducible apply And.intro | exact sd | exact sde trE | exact sdp trE | refine stk trE ?_ | fail
       refine oc bcl_own 40 trE ?_
       repeat' first | (refine lf hK trE ?_; clear hK K') | with_reducible apply And.intro | exact sd | exact sde trE | exact sdp trE | refine stk trE ?_ | fail
       all_goals
        first
        | have hx := hx1 (t := t) (by assumption)
        | have hx := hx2 (t := t) (by assumption)
        | have hx := hx3 (t := t)
        have hdl : (imOf t).dig.length ≤ 20000 := by show (t.kids.getD 1 T.zero).bytes.length ≤ 20000; omega
        have his := impT_sz hdl
        refine rg ΦRIP_ok [1, 2, 7, 8, 9, 10] (And.intro hx (And.intro hdl trE)) ?_
        refine rB ΦRIP_ok [2, 8, 44] trE fun K' hK => ?_
        repeat' first | (refine lf hK trE ?_; clear hK K') | with_reducible apply And.intro | refine sA trE (fun _ => ?_) fun _ => ?_ | refine sAb trE (fun _ => ?_) fun _ => ?_ | refine sAl trE (fun g => ?_) fun g => ?_ | exact sd | exact sde trE | exact sdp trE | refine stk trE ?_ | fail
        all_goals
         refine cn ?_ ?_
         ·intro h; try exact na h
          all_goals
           have hr : riOk t = false := ri_no (t := t) (by
            (try simp only [Bool.not_eq_eq_eq_not, Bool.not_true, Bool.not_false, decide_eq_false_iff_not, decide_eq_true_eq] at *)
            first
            | exact .inl (rd_e0 (by assumption))
            | exact .inl (rd_e1 (by assumption))
            | exact .inr (.inl (by assumption))
            | exact .inr (.inr (by assumption)))
           have hy := pri_f hr
           refine rg ΦRIP_ok [2, 3] trE ?_
           first
           | exact fz hy
         ·intro h; try exact na h
          all_goals
           have hr : riOk t = true := by
            (try simp only [Bool.not_eq_eq_eq_not, Bool.not_true, Bool.not_false, decide_eq_false_iff_not, decide_eq_true_eq] at *)
            first
            | exact ri_yes (by assumption) (by assumption)
           have hy := pri_t2 hx hr
           refine rg ΦRIP_ok [2, 3] trE ?_
           first
           | exact fz hy
     ·intro h; try exact na h
      all_goals
       refine rg ΦRIP_ok [0, 2, 3] (And.intro kget trE) ?_
       refine rg ΦRIP_ok [2, 3] (And.intro kget trE) ?_
       refine rg ΦRIP_ok [2] (And.intro kget trE) ?_
       refine nx ?_
       refine rt trE ?_
       repeat' first | with_reducible apply And.intro | exact sd | exact sde trE | exact sdp trE | refine stk trE ?_ | fail
       refine oc bcl_own 40 trE ?_
       repeat' first | (refine lf hK trE ?_; clear hK K') | with_reducible apply And.intro | exact sd | exact sde trE | exact sdp trE | refine stk trE ?_ | fail
       all_goals
        first
        | have hx := hx1 (t := t) (by assumption)
        | have hx := hx2 (t := t) (by assumption)
        | have hx := hx3 (t := t)
        have hdl : (imOf t).dig.length ≤ 20000 := by show (t.kids.getD 1 T.zero).bytes.length ≤ 20000; omega
        have his := impT_sz hdl
        refine rg ΦRIP_ok [1, 2, 7, 8, 9, 10] (And.intro hx (And.intro hdl trE)) ?_
        refine rB ΦRIP_ok [2, 8, 44] trE fun K' hK => ?_
        repeat' first | (refine lf hK trE ?_; clear hK K') | with_reducible apply And.intro | refine sA trE (fun _ => ?_) fun _ => ?_ | refine sAb trE (fun _ => ?_) fun _ => ?_ | refine sAl trE (fun g => ?_) fun g => ?_ | exact sd | exact sde trE | exact sdp trE | refine stk trE ?_ | fail
        all_goals
         refine cn ?_ ?_
         ·intro h; try exact na h
          all_goals
           have hr : riOk t = false := ri_no (t := t) (by
            (try simp only [Bool.not_eq_eq_eq_not, Bool.not_true, Bool.not_false, decide_eq_false_iff_not, decide_eq_true_eq] at *)
            first
            | exact .inl (rd_e0 (by assumption))
            | exact .inl (rd_e1 (by assumption))
            | exact .inr (.inl (by assumption))
            | exact .inr (.inr (by assumption)))
           have hy := pri_f hr
           refine rg ΦRIP_ok [2, 3] trE ?_
           first
           | exact fz hy
         ·intro h; try exact na h
          all_goals
           have hr : riOk t = true := by
            (try simp only [Bool.not_eq_eq_eq_not, Bool.not_true, Bool.not_false, decide_eq_false_iff_not, decide_eq_true_eq] at *)
            first
            | exact ri_yes (by assumption) (by assumption)
           have hy := pri_t2 hx hr
           refine rg ΦRIP_ok [2, 3] trE ?_
           first
           | exact fz hy)
end Go.Proofs.YtpajpkbipagjpaaGreatDoor.Oc
namespace Go.Proofs.YtpajpkbipagjpaaGreatDoor.Oc
open Go Go.RowKit Go.Proofs.YtpajpkbipagjpaaGreatDoor.Vm Go.Proofs.YtpajpkbipagjpaaGreatDoor.Tr Go.IntWalk
set_option maxRecDepth 100000
set_option maxHeartbeats 4000000
end Go.Proofs.YtpajpkbipagjpaaGreatDoor.Oc
namespace Go.Proofs.YtpajpkbipagjpaaGreatDoor.Oc
open Go Go.RowKit Go.Proofs.YtpajpkbipagjpaaGreatDoor.Vm Go.Proofs.YtpajpkbipagjpaaGreatDoor.Tr Go.IntWalk
set_option maxRecDepth 100000
set_option maxHeartbeats 4000000
end Go.Proofs.YtpajpkbipagjpaaGreatDoor.Oc
namespace Go.Proofs.YtpajpkbipagjpaaGreatDoor.Oc
open Go Go.RowKit Go.Proofs.YtpajpkbipagjpaaGreatDoor.Vm Go.Proofs.YtpajpkbipagjpaaGreatDoor.Tr Go.IntWalk
set_option maxRecDepth 100000
set_option maxHeartbeats 4000000
end Go.Proofs.YtpajpkbipagjpaaGreatDoor.Oc
namespace Go.Proofs.YtpajpkbipagjpaaGreatDoor.Oc
open Go Go.RowKit Go.Proofs.YtpajpkbipagjpaaGreatDoor.Vm Go.Proofs.YtpajpkbipagjpaaGreatDoor.Tr Go.IntWalk
set_option maxRecDepth 100000
set_option maxHeartbeats 4000000
end Go.Proofs.YtpajpkbipagjpaaGreatDoor.Oc
namespace Go.Proofs.YtpajpkbipagjpaaGreatDoor.Oc
open Go Go.RowKit Go.Proofs.YtpajpkbipagjpaaGreatDoor.Vm Go.Proofs.YtpajpkbipagjpaaGreatDoor.Tr Go.IntWalk
set_option maxRecDepth 100000
set_option maxHeartbeats 4000000
end Go.Proofs.YtpajpkbipagjpaaGreatDoor.Oc
