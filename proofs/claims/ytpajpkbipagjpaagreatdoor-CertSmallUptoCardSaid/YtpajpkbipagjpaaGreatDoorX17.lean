/- What functions of the program, of its library and of the document compute: their contracts, and laws about what they compute (X17). No condition. -/
import Derived.Test.YtpajpkbipagjpaaGreatDoorX16
import Derived.Test.YtpajpkbipagjpaaGreatDoorX11
import Derived.Test.YtpajpkbipagjpaaGreatDoorX12
import Derived.Test.YtpajpkbipagjpaaGreatDoorX06
import Derived.Test.YtpajpkbipagjpaaGreatDoorX15
import Derived.Test.YtpajpkbipagjpaaGreatDoorX14
import Derived.Test.YtpajpkbipagjpaaGreatDoorX03
import Derived.Test.YtpajpkbipagjpaaGreatDoorX09
import Derived.Test.YtpajpkbipagjpaaGreatDoorRows
import Derived.WalkKit
import Derived.ProofKit
import Derived.OpenShut
import Derived.LaidLaws
import Derived.Lib.LaidTab
set_option linter.unusedVariables false
set_option linter.unusedSimpArgs false
namespace Go.Proofs.YtpajpkbipagjpaaGreatDoor.Oc
open Go Go.RowKit Go.Proofs.YtpajpkbipagjpaaGreatDoor.Vm Go.Proofs.YtpajpkbipagjpaaGreatDoor.Tr Go.IntWalk
set_option maxRecDepth 100000
set_option maxHeartbeats 4000000
end Go.Proofs.YtpajpkbipagjpaaGreatDoor.Oc
namespace Go.Proofs.YtpajpkbipagjpaaGreatDoor.Oc
open Go Go.RowKit Go.Proofs.YtpajpkbipagjpaaGreatDoor.Vm Go.Proofs.YtpajpkbipagjpaaGreatDoor.Tr Go.IntWalk
set_option maxRecDepth 100000
set_option maxHeartbeats 4000000
theorem eqT : (∀ t : T, (t = t) = True) ∧ decide True = true ∧ (∀ i : Int, (i = i) = True) ∧ (∀ b : Bool, (b = b) = True) := ⟨fun _ => eq_self _, rfl, fun _ => eq_self _, fun _ => eq_self _⟩
end Go.Proofs.YtpajpkbipagjpaaGreatDoor.Oc
namespace Go.Proofs.YtpajpkbipagjpaaGreatDoor.Oc
open Go Go.RowKit Go.Proofs.YtpajpkbipagjpaaGreatDoor.Vm Go.Proofs.YtpajpkbipagjpaaGreatDoor.Tr Go.IntWalk
set_option maxRecDepth 100000
set_option maxHeartbeats 4000000
theorem sg_fin : ∀ (w : Fin 2) (q : Fin 4), signE ((w.val : Int) + 1) ((q.val : Int) + 1) = 0 ∧ rdSE (signT ((w.val : Int) + 1) ((q.val : Int) + 1)) = 0 ∧ rdSW (signT ((w.val : Int) + 1) ((q.val : Int) + 1)) = (w.val : Int) + 1 ∧ rdSH (signT ((w.val : Int) + 1) ((q.val : Int) + 1)) = (q.val : Int) + 1 := by decide +kernel
theorem sg_zero : rdSE T.zero = 200 ∧ rdSW T.zero = 0 ∧ rdSH T.zero = 0 := by decide +kernel
theorem sg_back (w q : Int) : (signE w q = 0 ∧ rdSE (signT w q) = 0 ∧ rdSW (signT w q) = w ∧ rdSH (signT w q) = q) ∨ (signE w q = 200 ∧ rdSE (signT w q) = 200) := by
 by_cases hq : sizeH q = 0
 ·right
  unfold signE signT; rw [if_pos hq, if_pos hq]; exact ⟨rfl, sg_zero.1⟩
 ·have hh : q = 1 ∨ q = 2 ∨ q = 3 ∨ q = 4 := by unfold sizeH at hq; (repeat' split at hq) <;> omega
  by_cases hw : w = 1 ∨ w = 2
  ·left
   have := sg_fin ⟨w.toNat - 1, by omega⟩ ⟨q.toNat - 1, by omega⟩
   simp only [show ((w.toNat - 1 : Nat) : Int) + 1 = w by omega, show ((q.toNat - 1 : Nat) : Int) + 1 = q by omega] at this
   exact this
  ·right
   unfold signE signT; rw [if_neg hq, if_neg hq, if_neg (by omega), if_neg (by omega), if_neg (by omega), if_neg (by omega)]; exact ⟨rfl, sg_zero.1⟩
theorem kd_fin : idxK (nameOf (namedB (kindN 1))) = 1 ∧ idxK (nameOf (namedB (kindN 2))) = 2 ∧ idxK (nameOf (namedB (kindN 3))) = 3 := by decide +kernel
theorem rd_back {r : Rd} (h : partB r = true) : rdOf (rdnT r) = r := by
 obtain ⟨_, h1, h2⟩ := part_len h
 have hk : r.kind = 1 ∨ r.kind = 2 ∨ r.kind = 3 := by omega
 obtain ⟨k, s, b⟩ := r
 have e : rdOf (rdnT ⟨k, s, b⟩) = ⟨idxK (nameOf (namedB (kindN k))), s, decide ((if b then 19 else 12 : Int) = 19)⟩ := rfl
 rw [e]
 have hb : decide ((if b then 19 else 12 : Int) = 19) = b := by cases b <;> rfl
 rw [hb]
 rcases hk with h | h | h <;> simp only at h <;> subst h
 ·rw [kd_fin.1]
 ·rw [kd_fin.2.1]
 ·rw [kd_fin.2.2]
theorem rn_back {n : List Rd} (h : nameOk n = true) : rnN (nameT n) = n := by
 unfold nameT rnN
 rw [h, if_pos rfl]
 show (n.map rdnT).map rdOf = n
 rw [List.map_map]
 unfold nameOk at h
 rw [Bool.and_eq_true, List.all_eq_true] at h
 exact (List.map_congr_left fun r hr => rd_back (h.2 r hr)).trans (List.map_id n)
theorem nm_back (n : List Rd) : (nameE n = 0 ∧ prnE (nameT n) = 0 ∧ prnN (nameT n) = n) ∨ (nameE n = 200 ∧ prnE (nameT n) = 200) := by
 cases h : nameOk n with
 | true =>
   left
   have e := rn_back h
   have h2 : rnOk (nameT n) = true := by unfold rnOk; rw [e, h, decide_eq_true rfl]; rfl
   obtain ⟨e1, e2⟩ := prn_t h2
   exact ⟨by unfold nameE; rw [h]; rfl, e2, e1.trans e⟩
 | false =>
   right
   have e : nameT n = T.zero := by unfold nameT; rw [h]; rfl
   refine ⟨by unfold nameE; rw [h]; rfl, ?_⟩
   rw [e]; decide +kernel
theorem nm_again (t : T) : prnE t = 200 ∨ (prnE t = 0 ∧ nameE (prnN t) = 0 ∧ nameT (prnN t) = t) := by
 cases h : rnOk t with
 | false => exact .inl (prn_f h).2.1
 | true =>
   right
   obtain ⟨e1, e2⟩ := prn_t h
   unfold rnOk at h
   rw [Bool.and_eq_true] at h
   rw [e1]
   exact ⟨e2, by unfold nameE; rw [h.1]; rfl, of_decide_eq_true h.2⟩
theorem imp_ok {x : Im} (h : impOk x = true) : imOf (impT x) = x := by
 have h0 : ¬ sizeH x.hash = 0 ∧ (x.dig.length : Int) = sizeH x.hash := of_decide_eq_true h
 have hk : kid (impT x) 0 = hashT x.hash x.null ∧ (kid (impT x) 1).bytes = x.dig := by rw [(imp_yes h0.1 h0.2).1]; exact ⟨rfl, rfl⟩
 have hd : rdOk (hashT x.hash x.null) = true := by
  unfold rdOk
  rw [hashT_rdH h0.1, hashT_rdN h0.1]
  exact decide_eq_true ⟨h0.1, rfl⟩
 unfold imOf
 rw [hk.1, hk.2, if_pos hd, if_pos hd, hashT_rdH h0.1, hashT_rdN h0.1]
theorem im_back (x : Im) : (impE x = 0 ∧ priE (impT x) = 0 ∧ (priN (impT x)).hash = x.hash ∧ (priN (impT x)).null = x.null ∧ (priN (impT x)).dig = x.dig) ∨ (impE x = 200 ∧ priE (impT x) = 200) := by
 cases h : impOk x with
 | true =>
   left
   have e := imp_ok h
   have h2 : riOk (impT x) = true := by unfold riOk; rw [e, h, decide_eq_true rfl]; rfl
   obtain ⟨e1, e2, e3, e4⟩ := pri_t h2
   rw [e] at e1 e2 e3
   exact ⟨by unfold impE; rw [h]; rfl, e4, e1, e2, e3⟩
 | false =>
   right
   have e : impT x = T.zero := by unfold impT; rw [h]; rfl
   refine ⟨by unfold impE; rw [h]; rfl, ?_⟩
   rw [e]; decide +kernel
theorem im_again (t : T) : priE t = 200 ∨ (priE t = 0 ∧ impE (priN t) = 0 ∧ impT (priN t) = t) := by
 cases h : riOk t with
 | false => exact .inl (pri_f h).2.2.2.1
 | true =>
   right
   obtain ⟨e1, e2, e3, e4⟩ := pri_t h
   have e : priN t = imOf t := by unfold priN; rw [h]; rfl
   unfold riOk at h
   rw [Bool.and_eq_true] at h
   rw [e]
   exact ⟨e4, by unfold impE; rw [h.1]; rfl, of_decide_eq_true h.2⟩
theorem im_eta2 (x : Im) : Im.mk x.hash x.null x.dig = x := by cases x; rfl
theorem priN_len (t : T) : (priN t).dig.length ≤ t.sz := by
 cases h : riOk t with
 | false => rw [(pri_f h).2.2.1]; exact Nat.zero_le _
 | true =>
   rw [(pri_t h).2.2.1]
   have h1 := kid_sz' t 1
   have h2 := T.sz_eq (t.kids.getD 1 T.zero)
   show (kid t 1).bytes.length ≤ t.sz
   unfold kid at h1 ⊢
   omega
theorem prnN_nm {t : T} (h : t.sz ≤ 2000000) : nmB (prnN t) := by
 cases hr : rnOk t with
 | false => rw [(prn_f hr).1]; exact ⟨by simp, by simp [Rd.zero]⟩
 | true =>
   rw [(prn_t hr).1]
   unfold rnOk at hr
   rw [Bool.and_eq_true] at hr
   have h1 := hr.1
   unfold nameOk at h1
   rw [Bool.and_eq_true, List.all_eq_true] at h1
   have h2 := of_decide_eq_true h1.1
   refine ⟨by omega, fun j => ?_⟩
   rcases Nat.lt_or_ge j (rnN t).length with hj | hj
   ·have := (part_len (h1.2 ((rnN t).getD j Rd.zero) (by rw [List.getD_eq_getElem?_getD, List.getElem?_eq_getElem hj]; exact List.getElem_mem hj))).1
    omega
   ·rw [List.getD_eq_getElem?_getD, List.getElem?_eq_none hj]; simp [Rd.zero]
theorem impT_szs {x : Im} (h : x.dig.length ≤ 200) : (impT x).sz ≤ 1000 := by
 have := hashT_sz x.hash x.null
 unfold impT
 split
 ·simp only [sz_seq, T.szs_cons, sz_prim, T.szs_nil]; omega
 ·decide
theorem u8_i64 {n : Int} (h : 0 ≤ n ∧ n ≤ 255) : IntKind.i64.wrap n = n := by rw [IntKind.wrap_i64]; omega
noncomputable def ΦSM : Fns := tab [(30, aliveF), (10, wideF), (13, salgF), (19, rdsalgF), (21, bname_1F), (25, rname_1F), (23, bimpF), (27, rimpF), (29, rnamesF), (15, rsame0F)]
theorem ΦSM_ok : Sound E1 ΦSM := sound_cons (by kernel_rfl) (lift1 alive_ok) (sound_cons (by kernel_rfl) (lift1 wide_ok) (sound_cons (by kernel_rfl) (lift1 salg_ok) (sound_cons (by kernel_rfl) (lift1 rdsalg_ok) (sound_cons (by kernel_rfl) bname_1_ok (sound_cons (by kernel_rfl) rname_1_ok (sound_cons (by kernel_rfl) (lift1 bimp_ok) (sound_cons (by kernel_rfl) (lift1 rimp_ok) (sound_cons (by kernel_rfl) (lift1 rnames_ok) (sound_cons (by kernel_rfl) (lift1 rsame0_ok) (sound_nil))))))))))
@[go_sem] theorem ΦSM_r : ΦSM 30 = some aliveF ∧ ΦSM 10 = some wideF ∧ ΦSM 13 = some salgF ∧ ΦSM 19 = some rdsalgF ∧ ΦSM 21 = some bname_1F ∧ ΦSM 25 = some rname_1F ∧ ΦSM 23 = some bimpF ∧ ΦSM 27 = some rimpF ∧ ΦSM 29 = some rnamesF ∧ ΦSM 15 = some rsame0F := ⟨rfl, rfl, rfl, rfl, rfl, rfl, rfl, rfl, rfl, rfl⟩
@[go_sem] noncomputable def lsmall_1F : PFn := PF [SI .u8, SI .u8, SRs, SIm, ST] (fun (w : Int) (q : Int) (n : List Rd) (x : Im) (t : T) => (0 ≤ w ∧ w ≤ 255) ∧ (0 ≤ q ∧ q ≤ 255) ∧ nmB n ∧ x.dig.length ≤ 1048576 ∧ t.sz ≤ 1048576) (fun (w : Int) (q : Int) (n : List Rd) (x : Im) (t : T) => [.bool true])
theorem lsmall_1_ok : Pure E1 6 lsmall_1F := Pure.of_sig (rs := [.tmp 10]) (n := 205) Tryz.func6 rfl rfl rfl (Nat.le_of_ble_eq_true rfl) (by
 intro (w : Int) (q : Int) (n : List Rd) (x : Im) (t : T) hds
 obtain ⟨hw, hq, hB0, hx0, ht0⟩ := hds
 have hB : nmB n = True := eq_true hB0
 have hn0 := hB0.1
 have hw1 := u8_i64 hw
 have hq1 := u8_i64 hq
 refine st0 ?_
 refine rg ΦSM_ok [0, 1, 2, 8, 9] (And.intro hB (And.intro trE (And.intro eqT im_eta2))) ?_
 refine rg ΦSM_ok [0, 1, 2, 8, 9, 11] (And.intro hB (And.intro trE (And.intro eqT im_eta2))) ?_
 refine rB ΦSM_ok [0, 1, 2, 8, 9, 11, 50] (And.intro hB (And.intro trE (And.intro eqT im_eta2))) fun K' hK => ?_
 repeat' first | (refine lf hK (And.intro hB (And.intro trE (And.intro eqT im_eta2))) ?_; clear hK K') | with_reducible apply And.intro | refine sA (And.intro hB (And.intro trE (And.intro eqT im_eta2))) (fun _ => ?_) fun _ => ?_ | refine sAb (And.intro hB (And.intro trE (And.intro eqT im_eta2))) (fun _ => ?_) fun _ => ?_ | refine sAl (And.intro hB (And.intro trE (And.intro eqT im_eta2))) (fun g => ?_) fun g => ?_ | exact sd | exact sde (And.intro hB (And.intro trE (And.intro eqT im_eta2))) | exact sdp (And.intro hB (And.intro trE (And.intro eqT im_eta2))) | refine stk (And.intro hB (And.intro trE (And.intro eqT im_eta2))) ?_ | fail
 all_goals
  refine cn ?_ ?_
  ·intro h; try exact na h
   all_goals
    refine rg ΦSM_ok [10] (And.intro hB (And.intro trE (And.intro eqT im_eta2))) ?_
    first
    | exact fz (And.intro hB (And.intro trE (And.intro eqT im_eta2)))
  ·intro h; try exact na h
   all_goals
    have hn : n.length ≤ 100 := by
     (try simp only [Bool.not_eq_eq_eq_not, Bool.not_true, Bool.not_false, decide_eq_false_iff_not, decide_eq_true_eq] at *)
     omega
    have hxd : x.dig.length ≤ 200 := by
     (try simp only [Bool.not_eq_eq_eq_not, Bool.not_true, Bool.not_false, decide_eq_false_iff_not, decide_eq_true_eq] at *)
     omega
    have ht : t.sz ≤ 5000 := by
     (try simp only [Bool.not_eq_eq_eq_not, Bool.not_true, Bool.not_false, decide_eq_false_iff_not, decide_eq_true_eq] at *)
     omega
    have hss := signT_sz w q
    have hns := nameT_sz n
    have his := impT_szs hxd
    have hpl := priN_len t
    have hB2 : nmB (prnN t) = True := eq_true (prnN_nm (t := t) (by omega))
    refine rg ΦSM_ok [0, 1, 2, 8, 9, 11, 12, 13] (And.intro hw1 (And.intro hq1 (And.intro hB (And.intro trE (And.intro eqT im_eta2))))) ?_
    refine rg ΦSM_ok [0, 1, 2, 8, 9, 11, 13, 14, 15, 16] (And.intro hB (And.intro trE (And.intro eqT im_eta2))) ?_
    refine rg ΦSM_ok [0, 1, 2, 8, 9, 11, 13, 14, 15, 16, 17, 18] (And.intro hB (And.intro trE (And.intro eqT im_eta2))) ?_
    refine rg ΦSM_ok [0, 1, 2, 8, 9, 11, 13, 14, 15, 16, 18, 19, 20] (And.intro hB (And.intro trE (And.intro eqT im_eta2))) ?_
    refine rg ΦSM_ok [0, 1, 2, 8, 9, 11, 13, 14, 15, 16, 18, 19, 20, 21, 22] (And.intro hB (And.intro trE (And.intro eqT im_eta2))) ?_
    refine rg ΦSM_ok [0, 1, 2, 8, 9, 11, 13, 14, 15, 16, 18, 19, 20, 22, 23, 24] (And.intro hB (And.intro trE (And.intro eqT im_eta2))) ?_
    rcases sg_back w q with hS | hS <;> rcases nm_back n with hN | hN <;> rcases im_back x with hI | hI
    all_goals
     refine rB ΦSM_ok [9, 11, 157] (And.intro hS (And.intro hN (And.intro hI (And.intro hw1 (And.intro hq1 (And.intro hB (And.intro trE (And.intro eqT im_eta2)))))))) fun K' hK => ?_
     repeat' first | (refine lf hK (And.intro hS (And.intro hN (And.intro hI (And.intro hw1 (And.intro hq1 (And.intro hB (And.intro trE (And.intro eqT im_eta2)))))))) ?_; clear hK K') | with_reducible apply And.intro | refine sA (And.intro hS (And.intro hN (And.intro hI (And.intro hw1 (And.intro hq1 (And.intro hB (And.intro trE (And.intro eqT im_eta2)))))))) (fun _ => ?_) fun _ => ?_ | refine sAb (And.intro hS (And.intro hN (And.intro hI (And.intro hw1 (And.intro hq1 (And.intro hB (And.intro trE (And.intro eqT im_eta2)))))))) (fun _ => ?_) fun _ => ?_ | refine sAl (And.intro hS (And.intro hN (And.intro hI (And.intro hw1 (And.intro hq1 (And.intro hB (And.intro trE (And.intro eqT im_eta2)))))))) (fun g => ?_) fun g => ?_ | exact sd | exact sde (And.intro hS (And.intro hN (And.intro hI (And.intro hw1 (And.intro hq1 (And.intro hB (And.intro trE (And.intro eqT im_eta2)))))))) | exact sdp (And.intro hS (And.intro hN (And.intro hI (And.intro hw1 (And.intro hq1 (And.intro hB (And.intro trE (And.intro eqT im_eta2)))))))) | refine stk (And.intro hS (And.intro hN (And.intro hI (And.intro hw1 (And.intro hq1 (And.intro hB (And.intro trE (And.intro eqT im_eta2)))))))) ?_ | fail
     all_goals
      refine cn ?_ ?_
      ·intro h; try exact na h
       all_goals
        refine rg ΦSM_ok [10] (And.intro hB (And.intro trE (And.intro eqT im_eta2))) ?_
        first
        | exact fz (And.intro hB (And.intro trE (And.intro eqT im_eta2)))
      ·intro h; try exact na h
       all_goals
        refine rg ΦSM_ok [9, 11, 25, 26] (And.intro hB (And.intro trE (And.intro eqT im_eta2))) ?_
        refine rg ΦSM_ok [9, 11, 26, 27, 28] (And.intro hB2 (And.intro hB (And.intro trE (And.intro eqT im_eta2)))) ?_
        refine rg ΦSM_ok [9, 11, 26, 27, 28, 29, 30] (And.intro hB (And.intro trE (And.intro eqT im_eta2))) ?_
        refine rg ΦSM_ok [9, 11, 26, 27, 28, 30, 31, 32] (And.intro hB (And.intro trE (And.intro eqT im_eta2))) ?_
        rcases nm_again t with hN2 | hN2 <;> rcases im_again t with hI2 | hI2
        all_goals
         refine rB ΦSM_ok [10] (And.intro hN2 (And.intro hI2 (And.intro hB (And.intro trE (And.intro eqT im_eta2))))) fun K' hK => ?_
         repeat' first | (refine lf hK (And.intro hN2 (And.intro hI2 (And.intro hB (And.intro trE (And.intro eqT im_eta2))))) ?_; clear hK K') | with_reducible apply And.intro | refine sA (And.intro hN2 (And.intro hI2 (And.intro hB (And.intro trE (And.intro eqT im_eta2))))) (fun _ => ?_) fun _ => ?_ | refine sAb (And.intro hN2 (And.intro hI2 (And.intro hB (And.intro trE (And.intro eqT im_eta2))))) (fun _ => ?_) fun _ => ?_ | refine sAl (And.intro hN2 (And.intro hI2 (And.intro hB (And.intro trE (And.intro eqT im_eta2))))) (fun g => ?_) fun g => ?_ | exact sd | exact sde (And.intro hN2 (And.intro hI2 (And.intro hB (And.intro trE (And.intro eqT im_eta2))))) | exact sdp (And.intro hN2 (And.intro hI2 (And.intro hB (And.intro trE (And.intro eqT im_eta2))))) | refine stk (And.intro hN2 (And.intro hI2 (And.intro hB (And.intro trE (And.intro eqT im_eta2))))) ?_ | fail
         all_goals
          first
          | exact fz (And.intro hB (And.intro trE (And.intro eqT im_eta2))))
end Go.Proofs.YtpajpkbipagjpaaGreatDoor.Oc
namespace Go.Proofs.YtpajpkbipagjpaaGreatDoor.Oc
open Go Go.RowKit Go.Proofs.YtpajpkbipagjpaaGreatDoor.Vm Go.ChangeShapes Go.WideShapes Go.Proofs.YtpajpkbipagjpaaGreatDoor
set_option maxRecDepth 100000
set_option maxHeartbeats 4000000
theorem laid_get {P : Program} {W : World} : ∀ (l : List (String × DataW Unit)) (ps : List MemPlace), DataW.LaidVars P W l ps → ∀ n d, (n, d) ∈ l →
 ∃ g t cs fuel p, P.globalNamed n = some g ∧ (P.globals[g]?).map (·.type) = some t ∧ W.var? P n = some cs ∧ DataW.trod (fun _ => ()) P W 0 (fun _ => true) false fuel t cs.toList = some (d, p) ∧ ∀ x ∈ MemPlace.row ⟨g, 0, none⟩ cs.size, x ∈ ps
 | [], ps, h, n, d, hm => absurd hm List.not_mem_nil
 | (n0, d0) :: r, ps, h, n, d, hm => by
   obtain ⟨g, t, cs, fuel, p, q, h1, h2, h3, h4, h5, h6⟩ := h
   rcases List.mem_cons.1 hm with e | e
   ·injection e with e1 e2
    subst e1 e2
    exact ⟨g, t, cs, fuel, p, h1, h2, h3, h4, fun x hx => by rw [h6]; simp [hx]⟩
   ·obtain ⟨g', t', cs', fuel', p', a1, a2, a3, a4, a5⟩ := laid_get r q h5 n d e
    exact ⟨g', t', cs', fuel', p', a1, a2, a3, a4, fun x hx => by rw [h6]; simp [a5 x hx]⟩
theorem lt_cell {W : World} {b o : Nat} {v : Value} (h : W.cell? ⟨b, o, none⟩ = some v) : b < W.heap.size := by
 rcases Nat.lt_or_ge b W.heap.size with h' | h'
 ·exact h'
 ·simp [World.cell?, Array.getElem?_eq_none h'] at h
theorem glob_tab {l : List (String × DataW Unit)} {W : World} (h : laidMet Tryz.prog l W) (n : String) (g0 t e N : Nat) (k : IntKind) (L : List Int) (lay : DataW Unit) (hm : (n, lay) ∈ l) (h1 : Tryz.prog.globalNamed n = some g0) (h2 : (Tryz.prog.globals[g0]?).map (·.type) = some t)
 (he : lay = Lib.tabData k L) (ha : Tryz.prog.underlying t = some (.array N e)) (hu : Tryz.prog.underlying e = some (.int k)) (hce : Tryz.prog.cellsOf e = 1) (hct : Tryz.prog.cellsOf t = N) : RC W (All W) (L.map fun z => .int k z) g0 0 := by
 obtain ⟨ps, hl, _, _⟩ := h
 obtain ⟨g, t', cs, fuel, p, hg, ht, hv, hd, _⟩ := laid_get l ps hl _ _ hm
 obtain rfl := Option.some.inj (h1.symm.trans hg)
 obtain rfl := Option.some.inj (h2.symm.trans ht)
 rw [he] at hd
 have hcs := Lib.cells_of_tab (P := Tryz.prog) ha hu hce hct hd
 refine RC.mk fun j d hj => ?_
 rw [List.getElem?_map] at hj
 obtain ⟨z, hz, rfl⟩ := Option.map_eq_some_iff.1 hj
 have hc : W.cell? ⟨g0, 0 + j, none⟩ = some (.int k z) := by
  rw [Nat.zero_add, World.var?_cell hg hv j, ← Array.getElem?_toList, hcs, List.getElem?_map, hz]; rfl
 exact ⟨_, hc, lt_cell hc, rfl, by simp only [RV]⟩
theorem nm_star : "*" ++ "errors.errorString" = "*errors.errorString" := by decide
theorem nm_row (u : TypeId) (h : Tryz.prog.typeName? 3 u = some "*errors.errorString") : u = 351 :=
 typeName_ptr_named (nm := "errors.errorString") (by rw [nm_star]; kernel_rfl) (by kernel_rfl) (by decide) u (by rw [nm_star]; exact h)
theorem es_under : ∃ f : Field, Tryz.prog.underlying 353 = some (.struct #[f]) ∧ f.type = 9 ∧ f.offset = 0 := ⟨_, Tryz.underlying353, rfl, rfl⟩
theorem err_iface : ∃ ms, Tryz.prog.underlying 198 = some (.interface ms) := ⟨_, Tryz.underlying198⟩
theorem glob_err {l : List (String × DataW Unit)} {W : World} (h : laidMet Tryz.prog l W) (n : String) (g0 : Nat) (text : List UInt8) (hm : (n, (.iface "*errors.errorString" (.ptr (.agg [.lit (.string text)])) : DataW Unit)) ∈ l)
 (h1 : Tryz.prog.globalNamed n = some g0) (h2 : (Tryz.prog.globals[g0]?).map (·.type) = some 198) : RC W (All W) [errD] g0 0 := by
 obtain ⟨ps, hl, hnd, hrows⟩ := h
 obtain ⟨g, t, cs, fuel, p, hg, ht, hv, hd, hin⟩ := laid_get l ps hl _ _ hm
 obtain rfl := Option.some.inj (h1.symm.trans hg)
 obtain rfl := Option.some.inj (h2.symm.trans ht)
 obtain ⟨f, hf1, hf2, hf3⟩ := es_under
 obtain ⟨ms, hms⟩ := err_iface
 have ok : ∀ u v, cs.toList = [.iface u v] → Value.okWide Tryz.prog W .any 0 u v := fun u v e => by
  have hc := World.var?_cell hg hv 0
  rw [← Array.getElem?_toList, e] at hc
  have hsz : 0 < cs.size := by rw [← Array.length_toList, e]; simp
  exact (hrows g0 0 (hin _ (by simp [MemPlace.row]; exact hsz))).2 u v (by simpa using hc)
 obtain ⟨a, s, e1, hc1, _, _, _⟩ := errorString_of_trod hms nm_row Tryz.underlying351 hf1 hf2 hf3 Tryz.underlying9 (by kernel_rfl) (by kernel_rfl) hd ok
 have hc := World.var?_cell hg hv 0
 rw [← Array.getElem?_toList, e1] at hc
 have hc : W.cell? ⟨g0, 0, none⟩ = some (.iface 351 (.pointer (some a))) := by simpa using hc
 have ha : a = ⟨a.block, a.off, none⟩ := by
  obtain ⟨b, off, sp⟩ := a
  cases sp with
  | none => rfl
  | some x =>
    unfold World.cell? at hc1
    split at hc1
    ·simp at hc1
    ·cases hc1
 simp only [RC, errD, RV]
 refine ⟨⟨_, hc, lt_cell hc, rfl, _, rfl, a.block, a.off, ?_, trivial⟩, trivial⟩
 rw [← ha]
theorem glob_known {l : List (String × DataW Unit)} {W : World} (h : laidMet Tryz.prog l W) (hm : ("postmark/oid.known", (Rows.laid_postmark_oid_known : DataW Unit)) ∈ l) : RC W (All W) (knownCs knownP) 1 0 := by
 obtain ⟨ps, hl, _, _⟩ := h
 obtain ⟨g, t, cs, fuel, p, hg, ht, hv, hd, _⟩ := laid_get l ps hl _ _ hm
 obtain rfl := Option.some.inj ((show Tryz.prog.globalNamed "postmark/oid.known" = some 1 by kernel_rfl).symm.trans hg)
 obtain rfl := Option.some.inj ((show (Tryz.prog.globals[1]?).map (·.type) = some 150 by kernel_rfl).symm.trans ht)
 have e : (Rows.laid_postmark_oid_known : DataW Unit) = .agg (knownP.map fun x => .agg [.lit (.string x.1), .lit (.string x.2)]) := by kernel_rfl
 rw [e] at hd
 obtain ⟨xs, m, rfl, hx, hlen, hn, hel⟩ := DataW.trod_array (n := 26) (e := 149) Tryz.underlying150 hd
 have c73 : Tryz.prog.cellsOf 149 = 2 := by kernel_rfl
 have c9 : Tryz.prog.cellsOf 9 = 1 := by kernel_rfl
 have hx1 : xs.map (·.1) = knownP.map fun x => .agg [.lit (.string x.1), .lit (.string x.2)] := by
  simp only [Prod.mk.injEq, DataW.agg.injEq] at hx; exact hx.1.symm
 have at2 : ∀ i, i < 26 → W.cell? ⟨1, 2 * i, none⟩ = some (.string ⟨(kn i).toArray⟩) ∧ W.cell? ⟨1, 2 * i + 1, none⟩ = some (.string ⟨(kt i).toArray⟩) := by
  intro i hi
  have h1 := hel i hi
  rw [c73] at h1
  have hxi : (xs.map (·.1))[i]? = some (.agg [.lit (.string (kn i)), .lit (.string (kt i))]) := by
   have hk : i < knownP.length := by rw [knownP_len]; exact hi
   rw [hx1, List.getElem?_map, List.getElem?_eq_getElem hk]
   simp only [Option.map_some, kn, kt, List.getD_eq_getElem?_getD, List.getElem?_eq_getElem hk, Option.getD_some]
  rw [List.getElem?_map] at hxi
  obtain ⟨y, hy1, hy2⟩ := Option.map_eq_some_iff.1 hxi
  rw [hy1] at h1
  obtain ⟨ys, m2, rfl, hy, hyl, hyn, hyel⟩ := DataW.trod_array (n := 2) (e := 9) Tryz.underlying149 h1
  have hys : ys.map (·.1) = [.lit (.string (kn i)), .lit (.string (kt i))] := by
   rw [hy] at hy2; simpa using hy2
  have one : ∀ j s, j < 2 → (ys.map (·.1))[j]? = some (.lit (.string s)) → W.cell? ⟨1, 2 * i + j, none⟩ = some (.string ⟨s.toArray⟩) := by
   intro j s hj hs
   have h2 := hyel j hj
   rw [c9] at h2
   rw [List.getElem?_map] at hs
   obtain ⟨z, hz1, hz2⟩ := Option.map_eq_some_iff.1 hs
   rw [hz1] at h2
   obtain ⟨b, hb1, hb2, _⟩ := DataW.trod_string Tryz.underlying9 h2
   rw [hb2] at hz2
   simp only [DataW.lit.injEq, Lit.string.injEq] at hz2
   have hb3 : b = ⟨s.toArray⟩ := by rw [← hz2]
   rw [World.var?_cell hg hv (2 * i + j), ← Array.getElem?_toList, ← hb3]
   have h0 : ((((cs.toList.drop (i * 2)).take 2).drop (j * 1)).take 1)[0]? = some (.string b) := by rw [hb1]; rfl
   rw [List.getElem?_take, if_pos (by decide), List.getElem?_drop, List.getElem?_take, if_pos (by omega), List.getElem?_drop] at h0
   rw [show 2 * i + j = i * 2 + (j * 1 + 0) by omega]
   exact h0
  refine ⟨?_, one 1 (kt i) (by decide) (by rw [hys]; rfl)⟩
  have := one 0 (kn i) (by decide) (by rw [hys]; rfl)
  rw [Nat.add_zero] at this
  exact this
 refine RC.mk fun j d hj => ?_
 have hj2 : j < 52 := by
  rcases Nat.lt_or_ge j 52 with h' | h'
  ·exact h'
  ·rw [List.getElem?_eq_none (by rw [knownCs_len]; exact h')] at hj; cases hj
 have hd2 := known_at (show j / 2 < 26 by omega)
 have hg2 : (knownCs knownP)[j]? = (((knownCs knownP).drop (j / 2 * 2)).take 2)[j % 2]? := by
  rw [List.getElem?_take, if_pos (Nat.mod_lt _ (by decide)), List.getElem?_drop]
  congr 1; omega
 rw [hg2, hd2] at hj
 obtain ⟨a1, a2⟩ := at2 (j / 2) (by omega)
 rw [Nat.zero_add]
 rcases Nat.mod_two_eq_zero_or_one j with h0 | h0
 ·rw [h0] at hj
  simp only [List.getElem?_cons_zero, Option.some.injEq] at hj
  subst hj
  rw [show 2 * (j / 2) = j by omega] at a1
  exact ⟨_, a1, lt_cell a1, rfl, by simp only [RV]⟩
 ·rw [h0] at hj
  simp only [List.getElem?_cons_succ, List.getElem?_cons_zero, Option.some.injEq] at hj
  subst hj
  rw [show 2 * (j / 2) + 1 = j by omega] at a2
  exact ⟨_, a2, lt_cell a2, rfl, by simp only [RV]⟩
theorem f349 : ∃ f0 f1 : Field, Tryz.prog.underlying 349 = some (.struct #[f0, f1]) ∧ f0.type = 5 ∧ f1.type = 5 ∧ f0.offset = 0 ∧ f1.offset = 1 := ⟨_, _, Tryz.underlying349, rfl, rfl, rfl, rfl⟩
def accP : List (Int × Int) := [(128, 191), (160, 191), (128, 159), (144, 191), (128, 143)] ++ List.replicate 11 (0, 0)
theorem accP_eq : acceptD = accP.flatMap fun x => [.int .u8 x.1, .int .u8 x.2] := by rfl
theorem acc_at {j : Nat} {d : Vm.Data} (h : acceptD[j]? = some d) : ∃ i x, accP[i]? = some x ∧ (j = 2 * i ∧ d = .int .u8 x.1 ∨ j = 2 * i + 1 ∧ d = .int .u8 x.2) := by
 rw [accP_eq] at h
 generalize accP = l at h
 induction l generalizing j with
 | nil => simp at h
 | cons x l ih =>
   match j, h with
   | 0, h => exact ⟨0, x, rfl, .inl ⟨rfl, by simpa using h.symm⟩⟩
   | 1, h => exact ⟨0, x, rfl, .inr ⟨rfl, by simpa using h.symm⟩⟩
   | j + 2, h =>
     obtain ⟨i, y, h1, h2⟩ := ih (j := j) (by simpa using h)
     exact ⟨i + 1, y, by simpa using h1, h2.elim (fun h => .inl ⟨by omega, h.2⟩) fun h => .inr ⟨by omega, h.2⟩⟩
theorem glob_accept {l : List (String × DataW Unit)} {W : World} (h : laidMet Tryz.prog l W) (hm : ("unicode/utf8.acceptRanges", (Rows.laid_unicode_utf8_acceptRanges : DataW Unit)) ∈ l) : RC W (All W) acceptD 7 0 := by
 obtain ⟨ps, hl, _, _⟩ := h
 obtain ⟨g, t, cs, fuel, p, hg, ht, hv, hd, _⟩ := laid_get l ps hl _ _ hm
 obtain rfl := Option.some.inj ((show Tryz.prog.globalNamed "unicode/utf8.acceptRanges" = some 7 by kernel_rfl).symm.trans hg)
 obtain rfl := Option.some.inj ((show (Tryz.prog.globals[7]?).map (·.type) = some 350 by kernel_rfl).symm.trans ht)
 have e : (Rows.laid_unicode_utf8_acceptRanges : DataW Unit) = .agg (accP.map fun x => .agg [.lit (.int .u8 x.1), .lit (.int .u8 x.2)]) := by kernel_rfl
 rw [e] at hd
 obtain ⟨xs, m, rfl, hx, hlen, hn, hel⟩ := DataW.trod_array (n := 16) (e := 349) Tryz.underlying350 hd
 have c1 : Tryz.prog.cellsOf 349 = 2 := by kernel_rfl
 have c2 : Tryz.prog.cellsOf 5 = 1 := by kernel_rfl
 have hx1 : xs.map (·.1) = accP.map fun x => .agg [.lit (.int .u8 x.1), .lit (.int .u8 x.2)] := by
  simp only [Prod.mk.injEq, DataW.agg.injEq] at hx; exact hx.1.symm
 obtain ⟨f0, f1, hu, t0, t1, o0, o1⟩ := f349
 have at2 : ∀ i x, accP[i]? = some x → W.cell? ⟨7, 2 * i, none⟩ = some (.int .u8 x.1) ∧ W.cell? ⟨7, 2 * i + 1, none⟩ = some (.int .u8 x.2) := by
  intro i x hxi0
  have hi : i < 16 := by
   have := (List.getElem?_eq_some_iff.1 hxi0).1
   rwa [show accP.length = 16 by decide] at this
  have h1 := hel i hi
  rw [c1] at h1
  have hxi : (xs.map (·.1))[i]? = some (.agg [.lit (.int .u8 x.1), .lit (.int .u8 x.2)]) := by
   rw [hx1, List.getElem?_map, hxi0]; rfl
  rw [List.getElem?_map] at hxi
  obtain ⟨y, hy1, hy2⟩ := Option.map_eq_some_iff.1 hxi
  rw [hy1] at h1
  obtain ⟨y0, y1, n', rfl, hl', a0, a1⟩ := trod_struct2 hu h1
  simp only [DataW.agg.injEq, List.cons.injEq, and_true] at hy2
  rw [t0, o0, c2] at a0
  rw [t1, o1, c2] at a1
  obtain ⟨z0, b0, rfl, _⟩ := DataW.trod_int Tryz.underlying5 a0
  obtain ⟨z1, b1, rfl, _⟩ := DataW.trod_int Tryz.underlying5 a1
  simp only [DataW.lit.injEq, Lit.int.injEq, true_and] at hy2
  obtain ⟨rfl, rfl⟩ := hy2
  refine ⟨?_, ?_⟩
  ·rw [World.var?_cell hg hv (2 * i), ← Array.getElem?_toList]
   have h0 : ((((cs.toList.drop (i * 2)).take 2).drop 0).take 1)[0]? = some (.int .u8 x.1) := by rw [b0]; rfl
   rw [List.getElem?_take, if_pos (by decide), List.getElem?_drop, List.getElem?_take, if_pos (by omega), List.getElem?_drop] at h0
   rw [show 2 * i = i * 2 + (0 + 0) by omega]
   exact h0
  ·rw [World.var?_cell hg hv (2 * i + 1), ← Array.getElem?_toList]
   have h0 : ((((cs.toList.drop (i * 2)).take 2).drop 1).take 1)[0]? = some (.int .u8 x.2) := by rw [b1]; rfl
   rw [List.getElem?_take, if_pos (by decide), List.getElem?_drop, List.getElem?_take, if_pos (by omega), List.getElem?_drop] at h0
   rw [show 2 * i + 1 = i * 2 + (1 + 0) by omega]
   exact h0
 refine RC.mk fun j d hj => ?_
 obtain ⟨i, x, hi, hh⟩ := acc_at hj
 obtain ⟨a1, a2⟩ := at2 i x hi
 rw [Nat.zero_add]
 rcases hh with ⟨rfl, rfl⟩ | ⟨rfl, rfl⟩
 ·exact ⟨_, a1, lt_cell a1, rfl, by simp only [RV]⟩
 ·exact ⟨_, a2, lt_cell a2, rfl, by simp only [RV]⟩
theorem powD_eq : powD = ((List.range 20).map fun j => ((10 ^ j : Nat) : Int)).map fun z => .int .u64 z := by rw [List.map_map]; rfl
theorem firstD_eq : firstD = ((List.range 256).map fun j => (fstU j : Int)).map fun z => .int .u8 z := by rw [List.map_map]; rfl
theorem glob_of {l : List (String × DataW Unit)} {W : World} (h : laidMet Tryz.prog l W) (h1 : ("internal/strconv.uint64pow10", (Rows.laid_internal_strconv_uint64pow10 : DataW Unit)) ∈ l) (h2 : ("strconv.ErrRange", (Rows.laid_strconv_ErrRange : DataW Unit)) ∈ l) (h3 : ("strconv.ErrSyntax", (Rows.laid_strconv_ErrSyntax : DataW Unit)) ∈ l)
 (h4 : ("postmark/oid.known", (Rows.laid_postmark_oid_known : DataW Unit)) ∈ l) (h5 : ("postmark/mask.sizes", (Rows.laid_postmark_mask_sizes : DataW Unit)) ∈ l) (h6 : ("unicode/utf8.first", Rows.laid_unicode_utf8_first) ∈ l) (h7 : ("unicode/utf8.acceptRanges", (Rows.laid_unicode_utf8_acceptRanges : DataW Unit)) ∈ l) : Glob E W (All W) := by
 intro g cs hg
 have hg : Gl g = some cs := hg
 match g, hg with
 | 1, hg => injection hg with hg; rw [← hg]; exact glob_known h h4
 | 2, hg => injection hg with hg; rw [← hg]; exact glob_tab h "postmark/mask.sizes" 2 212 3 5 .i64 [0, 224, 256, 384, 512] _ h5 (by kernel_rfl) (by kernel_rfl) rfl Tryz.underlying212 Tryz.underlying3 (by kernel_rfl) (by kernel_rfl)
 | 3, hg => injection hg with hg; rw [← hg]; exact glob_err h "strconv.ErrSyntax" 3 _ h3 (by kernel_rfl) (by kernel_rfl)
 | 4, hg => injection hg with hg; rw [← hg]; exact glob_err h "strconv.ErrRange" 4 _ h2 (by kernel_rfl) (by kernel_rfl)
 | 5, hg => injection hg with hg; rw [← hg, powD_eq]; exact glob_tab h "internal/strconv.uint64pow10" 5 323 158 20 .u64 _ _ h1 (by kernel_rfl) (by kernel_rfl) (by kernel_rfl) Tryz.underlying323 Tryz.underlying158 (by kernel_rfl) (by kernel_rfl)
 | 6, hg => injection hg with hg; rw [← hg, firstD_eq]; exact glob_tab h "unicode/utf8.first" 6 347 5 256 .u8 _ _ h6 (by kernel_rfl) (by kernel_rfl) (by kernel_rfl) Tryz.underlying347 Tryz.underlying5 (by kernel_rfl) (by kernel_rfl)
 | 7, hg => injection hg with hg; rw [← hg]; exact glob_accept h h7
end Go.Proofs.YtpajpkbipagjpaaGreatDoor.Oc
namespace Go.Proofs.YtpajpkbipagjpaaGreatDoor.Oc
open Go Go.RowKit Go.Proofs.YtpajpkbipagjpaaGreatDoor.Vm Go.ChangeShapes Go.WideShapes Go.Proofs.YtpajpkbipagjpaaGreatDoor
set_option maxRecDepth 100000
set_option maxHeartbeats 4000000
theorem glob_kinds {l : List (String × DataW Unit)} {W : World} (h : laidMet Tryz.prog l W) (hm : ("postmark/cert.kinds", (Rows.laid_postmark_cert_kinds : DataW Unit)) ∈ l) : RC W (All W) kindsD 0 0 := by
 obtain ⟨ps, hl, _, _⟩ := h
 obtain ⟨g, t, cs, fuel, p, hg, ht, hv, hd, _⟩ := laid_get l ps hl _ _ hm
 obtain rfl := Option.some.inj ((show Tryz.prog.globalNamed "postmark/cert.kinds" = some 0 by kernel_rfl).symm.trans hg)
 obtain rfl := Option.some.inj ((show (Tryz.prog.globals[0]?).map (·.type) = some 123 by kernel_rfl).symm.trans ht)
 have e : (Rows.laid_postmark_cert_kinds : DataW Unit) = .agg (kindsB.map fun x => .lit (.string x)) := by kernel_rfl
 rw [e] at hd
 obtain ⟨xs, m, rfl, hx, hlen, hn, hel⟩ := DataW.trod_array (n := 4) (e := 9) Tryz.underlying123 hd
 have c9 : Tryz.prog.cellsOf 9 = 1 := by kernel_rfl
 have hx1 : xs.map (·.1) = kindsB.map fun x => .lit (.string x) := by
  simp only [Prod.mk.injEq, DataW.agg.injEq] at hx; exact hx.1.symm
 refine RC.mk fun j d hj => ?_
 rw [show kindsD = kindsB.map .str from rfl, List.getElem?_map] at hj
 obtain ⟨s, hs, rfl⟩ := Option.map_eq_some_iff.1 hj
 have hj4 : j < 4 := (List.getElem?_eq_some_iff.1 hs).1
 have h1 := hel j hj4
 rw [c9] at h1
 have hxi : (xs.map (·.1))[j]? = some (.lit (.string s)) := by rw [hx1, List.getElem?_map, hs]; rfl
 rw [List.getElem?_map] at hxi
 obtain ⟨y, hy1, hy2⟩ := Option.map_eq_some_iff.1 hxi
 rw [hy1] at h1
 obtain ⟨b, hb1, hb2, _⟩ := DataW.trod_string Tryz.underlying9 h1
 rw [hb2] at hy2
 simp only [DataW.lit.injEq, Lit.string.injEq] at hy2
 have hb3 : b = ⟨s.toArray⟩ := by rw [← hy2]
 have hc : W.cell? ⟨0, 0 + j, none⟩ = some (.string ⟨s.toArray⟩) := by
  rw [Nat.zero_add, World.var?_cell hg hv j, ← Array.getElem?_toList, ← hb3]
  have h0 : ((cs.toList.drop (j * 1)).take 1)[0]? = some (.string b) := by rw [hb1]; rfl
  rw [List.getElem?_take, if_pos (by decide), List.getElem?_drop] at h0
  rw [show j = j * 1 + 0 by omega]
  exact h0
 exact ⟨_, hc, lt_cell hc, rfl, by simp only [RV]⟩
theorem glob1_of {l : List (String × DataW Unit)} {W : World} (h : laidMet Tryz.prog l W) (h1 : ("internal/strconv.uint64pow10", (Rows.laid_internal_strconv_uint64pow10 : DataW Unit)) ∈ l) (h2 : ("strconv.ErrRange", (Rows.laid_strconv_ErrRange : DataW Unit)) ∈ l) (h3 : ("strconv.ErrSyntax", (Rows.laid_strconv_ErrSyntax : DataW Unit)) ∈ l)
 (h4 : ("postmark/oid.known", (Rows.laid_postmark_oid_known : DataW Unit)) ∈ l) (h5 : ("postmark/mask.sizes", (Rows.laid_postmark_mask_sizes : DataW Unit)) ∈ l) (h6 : ("unicode/utf8.first", Rows.laid_unicode_utf8_first) ∈ l) (h7 : ("unicode/utf8.acceptRanges", (Rows.laid_unicode_utf8_acceptRanges : DataW Unit)) ∈ l) (h8 : ("postmark/cert.kinds", (Rows.laid_postmark_cert_kinds : DataW Unit)) ∈ l) : Glob E1 W (All W) := by
 intro g cs hg
 have hg : Gl1 g = some cs := hg
 match g, hg with
 | 0, hg => injection hg with hg; rw [← hg]; exact glob_kinds h h8
 | g + 1, hg => exact glob_of h h1 h2 h3 h4 h5 h6 h7 (g + 1) cs hg
end Go.Proofs.YtpajpkbipagjpaaGreatDoor.Oc
namespace Go.Proofs.YtpajpkbipagjpaaGreatDoor.Tr
open Go Go.RowKit Go.Proofs.YtpajpkbipagjpaaGreatDoor.Vm
section
variable {P : Program} {t : TypeId} {n : Nat} {ds : List Vm.Data}
theorem len3 {α : Type} {l : List α} (h : l.length = 3) : ∃ a b c, l = [a, b, c] := by
 match l, h with
 | [a, b, c], _ => exact ⟨a, b, c, rfl⟩
structure RdTy (P : Program) (tr ti ts tb : TypeId) : Prop where
 rd : ∃ f0 f1 f2 : Field, P.underlying tr = some (.struct #[f0, f1, f2]) ∧ f0.type = ti ∧ f1.type = ts ∧ f2.type = tb ∧ f0.offset = 0 ∧ f1.offset = 1 ∧ f2.offset = 2
 int : P.underlying ti = some (.int .i64)
 str : P.underlying ts = some .string
 bool : P.underlying tb = some .bool
 cells : P.cellsOf tr = 3 ∧ P.cellsOf ti = 1 ∧ P.cellsOf ts = 1 ∧ P.cellsOf tb = 1
theorem CT_rd {tr ti ts tb : TypeId} (N : RdTy P tr ti ts tb) (c : CT P n tr ds) : ∃ r : Rd, ds = rdC r := by
 obtain ⟨f0, f1, f2, hu, t0, t1, t2, o0, o1, o2⟩ := N.rd
 obtain ⟨c3, ci, cs, cb⟩ := N.cells
 obtain ⟨m, rfl, hl, hf⟩ := CT_struct hu c
 obtain ⟨d0, d1, d2, rfl⟩ := len3 (hl.trans c3)
 have g0 := hf f0 (by simp)
 have g1 := hf f1 (by simp)
 have g2 := hf f2 (by simp)
 rw [t0, o0, ci] at g0
 rw [t1, o1, cs] at g1
 rw [t2, o2, cb] at g2
 obtain ⟨i0, e0, _⟩ := CT_int N.int g0
 obtain ⟨s, e1, _⟩ := CT_str N.str g1
 obtain ⟨b, e2⟩ := CT_bool N.bool g2
 simp only [List.drop_zero, List.drop_succ_cons, List.take_succ_cons, List.take_zero, List.cons.injEq, and_true] at e0 e1 e2
 subst e0 e1 e2
 exact ⟨⟨i0, s, b⟩, rfl⟩
theorem CT_rds {tl tr ti ts tb : TypeId} (N : RdTy P tr ti ts tb) (h : P.underlying tl = some (.slice tr)) (c : CT P n tl ds) : ∃ l : List Rd, ds = [.lst (rdsD l)] := by
 obtain ⟨m, xs, _, rfl, _, hx⟩ := CT_slice h c
 have key : ∀ xs : List (List Vm.Data), (∀ x ∈ xs, CT P m tr x) → ∃ l : List Rd, xs = rdsD l := by
  intro xs
  induction xs with
  | nil => intro _; exact ⟨[], rfl⟩
  | cons x xs ih =>
    intro h
    obtain ⟨r, rfl⟩ := CT_rd N (h x (by simp))
    obtain ⟨l, rfl⟩ := ih fun y hy => h y (by simp [hy])
    exact ⟨r :: l, rfl⟩
 obtain ⟨l, rfl⟩ := key xs hx
 exact ⟨l, rfl⟩
theorem bk_rds (l : List Rd) : l.length ≤ bkE (rdsD l) := by
 induction l with
 | nil => exact Nat.zero_le _
 | cons r l ih =>
   rw [rdsD_cons, bkE, List.length_cons, rdC_eq]
   simp only [bkC, bk]; omega
theorem bk_rds2 : ∀ (l : List Rd) (j : Nat), (l.getD j Rd.zero).text.length ≤ bkE (rdsD l)
 | [], j => by simp [Rd.zero]
 | r :: l, j => by
   rw [rdsD_cons, bkE, rdC_eq]
   simp only [bkC, bk]
   cases j with
   | zero => simp only [List.getD_cons_zero]; omega
   | succ j => have := bk_rds2 l j; simp only [List.getD_cons_succ]; omega
structure ImTy (P : Program) (tm ti tb ty tu : TypeId) : Prop where
 im : ∃ f0 f1 f2 : Field, P.underlying tm = some (.struct #[f0, f1, f2]) ∧ f0.type = ti ∧ f1.type = tb ∧ f2.type = ty ∧ f0.offset = 0 ∧ f1.offset = 1 ∧ f2.offset = 2
 int : P.underlying ti = some (.int .i64)
 bool : P.underlying tb = some .bool
 bytes : P.underlying ty = some (.slice tu)
 u8 : P.underlying tu = some (.int .u8)
 cells : P.cellsOf tm = 3 ∧ P.cellsOf ti = 1 ∧ P.cellsOf tb = 1 ∧ P.cellsOf ty = 1
theorem CT_im {tm ti tb ty tu : TypeId} (N : ImTy P tm ti tb ty tu) (c : CT P n tm ds) : ∃ r : Im, ds = imC r := by
 obtain ⟨f0, f1, f2, hu, t0, t1, t2, o0, o1, o2⟩ := N.im
 obtain ⟨c3, ci, cb, cy⟩ := N.cells
 obtain ⟨m, rfl, hl, hf⟩ := CT_struct hu c
 obtain ⟨d0, d1, d2, rfl⟩ := len3 (hl.trans c3)
 have g0 := hf f0 (by simp)
 have g1 := hf f1 (by simp)
 have g2 := hf f2 (by simp)
 rw [t0, o0, ci] at g0
 rw [t1, o1, cb] at g1
 rw [t2, o2, cy] at g2
 obtain ⟨i0, e0, _⟩ := CT_int N.int g0
 obtain ⟨b, e1⟩ := CT_bool N.bool g1
 obtain ⟨s, e2⟩ := CT_bytes N.bytes N.u8 g2
 simp only [List.drop_zero, List.drop_succ_cons, List.take_succ_cons, List.take_zero, List.cons.injEq, and_true] at e0 e1 e2
 subst e0 e1 e2
 exact ⟨⟨i0, b, s⟩, rfl⟩
theorem bk_im (r : Im) : r.dig.length ≤ bkC (imC r) := by
 rw [imC_eq]
 simp only [bkC, bk, bk_bytes]; omega
end
end Go.Proofs.YtpajpkbipagjpaaGreatDoor.Tr
