/- What functions of the program, of its library and of the document compute: their contracts, and laws about what they compute (X10). No condition. -/
import Derived.Test.YtpajpkbipagjpaaGreatDoorX09
import Derived.Test.YtpajpkbipagjpaaGreatDoorX07
set_option linter.unusedVariables false
set_option linter.unusedSimpArgs false
namespace Go.Proofs.YtpajpkbipagjpaaGreatDoor.Oc
open Go Go.RowKit Go.Proofs.YtpajpkbipagjpaaGreatDoor.Vm Go.Proofs.YtpajpkbipagjpaaGreatDoor.Tr Go.IntWalk
set_option maxRecDepth 100000
set_option maxHeartbeats 4000000
def rsaN (q : Int) : List UInt8 := [114, 115, 97] ++ (nameH q).drop 3
def signT (w q : Int) : T := if sizeH q = 0 then T.zero else if w = 1 then seqT [primT 6 (namedB (rsaN q)), primT 5 []] else if w = 2 then
 seqT [primT 6 (namedB [112, 115, 115]), seqT [inT 0 [hashT q true], inT 1 [seqT [primT 6 (namedB [109, 103, 102, 49]), hashT q true]], inT 2 [primT 2 (intB (sizeH q))]]] else T.zero
def signE (w q : Int) : Int := if sizeH q = 0 then 200 else if w = 1 then 0 else if w = 2 then 0 else 200
theorem sizeH_in (q : Int) : -9223372036854775808 ≤ sizeH q ∧ sizeH q < 9223372036854775808 := by unfold sizeH; (repeat' split) <;> omega
theorem nameH_len (q : Int) : (nameH q).length ≤ 6 ∧ (¬ sizeH q = 0 → (nameH q).length = 6) := by unfold nameH sizeH; (repeat' split) <;> simp_all
theorem hashT_sz (q : Int) (b : Bool) : (hashT q b).sz ≤ 300 := by
 have h1 := namedB_len (nameH q)
 unfold hashT
 split
 ·decide
 ·rw [sz_seq, T.szs_cons, sz_prim]
  cases b <;> simp only [if_true, Bool.false_eq_true, if_false, T.szs_nil, T.szs_cons, sz_prim, List.length_nil] <;> omega
theorem rsaN_eq (q : Int) : 114 :: 115 :: 97 :: List.take (((nameH q).length : Int) - 3).toNat (List.drop (Int.toNat 3) (nameH q)) = rsaN q := by
 rw [List.take_of_length_le (by rw [List.length_drop]; omega)]; rfl
theorem sgz {q : Int} (h : ¬ (if sizeH q = 0 then 200 else 0 : Int) = 0) : sizeH q = 0 := by split at h <;> simp_all
theorem sgn {q : Int} (h : (if sizeH q = 0 then 200 else 0 : Int) = 0) : ¬ sizeH q = 0 := by split at h <;> simp_all
theorem signT_0 {w q : Int} (h : sizeH q = 0) : signT w q = T.zero ∧ signE w q = 200 := ⟨if_pos h, if_pos h⟩
theorem signT_1 {w q : Int} (h : ¬ sizeH q = 0) (h1 : w = 1) : signT w q = seqT [primT 6 (namedB (rsaN q)), primT 5 []] ∧ signE w q = 0 := ⟨by unfold signT; rw [if_neg h, if_pos h1], by unfold signE; rw [if_neg h, if_pos h1]⟩
theorem signT_2 {w q : Int} (h : ¬ sizeH q = 0) (h1 : ¬ w = 1) (h2 : w = 2) : signT w q = seqT [primT 6 (namedB [112, 115, 115]), seqT [inT 0 [hashT q true], inT 1 [seqT [primT 6 (namedB [109, 103, 102, 49]), hashT q true]], inT 2 [primT 2 (intB (sizeH q))]]] ∧ signE w q = 0 :=
 ⟨by unfold signT; rw [if_neg h, if_neg h1, if_pos h2], by unfold signE; rw [if_neg h, if_neg h1, if_pos h2]⟩
theorem signT_3 {w q : Int} (h : ¬ sizeH q = 0) (h1 : ¬ w = 1) (h2 : ¬ w = 2) : signT w q = T.zero ∧ signE w q = 200 := ⟨by unfold signT; rw [if_neg h, if_neg h1, if_neg h2], by unfold signE; rw [if_neg h, if_neg h1, if_neg h2]⟩
noncomputable def ΦSA : Fns := tab [(11, halgF), (60, mnameF), (58, sizeF), (59, cnamedF), (61, cprimF), (62, cseqF), (68, cinF), (67, tintF)]
theorem ΦSA_ok : Sound E ΦSA := sound_cons (by kernel_rfl) halg_ok (sound_cons (by kernel_rfl) mname_ok (sound_cons (by kernel_rfl) size_ok (sound_cons (by kernel_rfl) cnamed_ok (sound_cons (by kernel_rfl) cprim_ok (sound_cons (by kernel_rfl) cseq_ok (sound_cons (by kernel_rfl) cin_ok (sound_cons (by kernel_rfl) tint_ok (sound_nil))))))))
@[go_sem] theorem ΦSA_r : ΦSA 11 = some halgF ∧ ΦSA 60 = some mnameF ∧ ΦSA 58 = some sizeF ∧ ΦSA 59 = some cnamedF ∧ ΦSA 61 = some cprimF ∧ ΦSA 62 = some cseqF ∧ ΦSA 68 = some cinF ∧ ΦSA 67 = some tintF := ⟨rfl, rfl, rfl, rfl, rfl, rfl, rfl, rfl⟩
@[go_sem] noncomputable def salgF : PFn := PF [SI .i64, SI .i64] (fun (w : Int) (q : Int) => True) (fun (w : Int) (q : Int) => [nodeD (signT w q), .int .i64 (signE w q)])
theorem salg_ok : Pure E 13 salgF := Pure.of_sig (rs := [.cell 4 25, .tmp 5]) (n := 54) Tryz.func13 rfl rfl rfl (Nat.le_of_ble_eq_true rfl) (by
 intro (w : Int) (q : Int) hds
 have hs := sizeH_in q
 have hn := nameH_len q
 have hq := hashT_sz q true
 have hb1 := namedB_len (rsaN q)
 have hb2 := namedB_len [112, 115, 115]
 have hb3 := namedB_len [109, 103, 102, 49]
 have hi := intB_len (sizeH q)
 refine st0 ?_
 refine rg ΦSA_ok [0, 1, 4] szE ?_
 refine rg ΦSA_ok [0, 1, 4, 6, 7] szE ?_
 refine rg ΦSA_ok [0, 1, 4, 6, 7, 14] szE ?_
 refine cn ?_ ?_
 ·intro h; try exact nd h
  all_goals
   have hz := sgz (by assumption)
   have hy := And.intro (signT_0 (w := w) hz) (And.intro hz zeroE)
   refine rg ΦSA_ok [4, 5] szE ?_
   exact fz hy
 ·intro h; try exact nd h
  all_goals
   have hz := sgn (by assumption)
   have hl := hn.2 hz
   refine rg ΦSA_ok [0, 1, 4, 6, 19] szE ?_
   refine cn ?_ ?_
   ·intro h; try exact nd h
    all_goals
     have hr := rsaN_eq q
     have hy := signT_1 hz (by assumption)
     refine rg ΦSA_ok [4, 5] (And.intro hr szE) ?_
     exact fz hy
   ·intro h; try exact nd h
    all_goals
     refine rg ΦSA_ok [1, 4, 6, 30] szE ?_
     refine cn ?_ ?_
     ·intro h; try exact nd h
      all_goals
       have hy := signT_2 hz (by assumption) (by assumption)
       refine rg ΦSA_ok [4, 6, 8] szE ?_
       refine rd ΦSA_ok 17 [4, 5] szE ?_
       exact fz hy
     ·intro h; try exact nd h
      all_goals
       have hy := And.intro (signT_3 hz (by assumption) (by assumption)) zeroE
       refine rg ΦSA_ok [4, 5] szE ?_
       exact fz hy)
end Go.Proofs.YtpajpkbipagjpaaGreatDoor.Oc
namespace Go.Proofs.YtpajpkbipagjpaaGreatDoor.Oc
open Go Go.RowKit Go.Proofs.YtpajpkbipagjpaaGreatDoor.Vm Go.Proofs.YtpajpkbipagjpaaGreatDoor.Tr Go.IntWalk
set_option maxRecDepth 100000
set_option maxHeartbeats 4000000
def firstB (t : T) : List UInt8 := (t.kids.getD 0 T.zero).bytes
def rdH (t : T) : Int := namedH (nameOf (firstB t))
def rdN (t : T) : Bool := decide ((1 : Int) < (t.kids.length : Int))
def rdOk (t : T) : Bool := decide (¬ sizeH (rdH t) = 0 ∧ hashT (rdH t) (rdN t) = t)
end Go.Proofs.YtpajpkbipagjpaaGreatDoor.Oc
namespace Go.Proofs.YtpajpkbipagjpaaGreatDoor.Oc
open Go Go.RowKit Go.Proofs.YtpajpkbipagjpaaGreatDoor.Vm Go.Proofs.YtpajpkbipagjpaaGreatDoor.Tr Go.IntWalk
set_option maxRecDepth 100000
set_option maxHeartbeats 4000000
def rdI (t : T) : Nat → Nat → Option Nat
 | 0, _ => none
 | f + 1, i => if signT ((1 + i / 4 : Nat) : Int) ((1 + i % 4 : Nat) : Int) = t then some i else rdI t f (i + 1)
def rdSW (t : T) : Int := match rdI t 8 0 with
 | some i => ((1 + i / 4 : Nat) : Int)
 | none => 0
def rdSH (t : T) : Int := match rdI t 8 0 with
 | some i => ((1 + i % 4 : Nat) : Int)
 | none => 0
def rdSE (t : T) : Int := match rdI t 8 0 with
 | some _ => 0
 | none => 200
theorem signT_sz (w q : Int) : (signT w q).sz ≤ 2000 := by
 have h1 := namedB_len (rsaN q)
 have h2 := namedB_len [112, 115, 115]
 have h3 := namedB_len [109, 103, 102, 49]
 have h4 := hashT_sz q true
 have h5 := intB_len (sizeH q)
 unfold signT
 split
 ·decide
 ·split
  ·simp only [sz_seq, T.szs_cons, sz_prim, T.szs_nil, List.length_nil]; omega
  ·split
   ·simp only [sz_seq, sz_in, T.szs_cons, sz_prim, T.szs_nil]; omega
   ·decide
end Go.Proofs.YtpajpkbipagjpaaGreatDoor.Oc
namespace Go.Proofs.YtpajpkbipagjpaaGreatDoor.Oc
open Go Go.RowKit Go.Proofs.YtpajpkbipagjpaaGreatDoor.Vm Go.Proofs.YtpajpkbipagjpaaGreatDoor.Tr Go.IntWalk
set_option maxRecDepth 100000
set_option maxHeartbeats 4000000
end Go.Proofs.YtpajpkbipagjpaaGreatDoor.Oc
namespace Go.Proofs.YtpajpkbipagjpaaGreatDoor.Oc
open Go Go.RowKit Go.Proofs.YtpajpkbipagjpaaGreatDoor.Vm Go.Proofs.YtpajpkbipagjpaaGreatDoor.Tr Go.IntWalk
set_option maxRecDepth 100000
set_option maxHeartbeats 4000000
end Go.Proofs.YtpajpkbipagjpaaGreatDoor.Oc
namespace Go.Proofs.YtpajpkbipagjpaaGreatDoor.Oc
open Go Go.RowKit Go.Proofs.YtpajpkbipagjpaaGreatDoor.Vm Go.Proofs.YtpajpkbipagjpaaGreatDoor.Tr Go.IntWalk
set_option maxRecDepth 100000
set_option maxHeartbeats 4000000
end Go.Proofs.YtpajpkbipagjpaaGreatDoor.Oc
namespace Go.Proofs.YtpajpkbipagjpaaGreatDoor.Oc
open Go Go.RowKit Go.Proofs.YtpajpkbipagjpaaGreatDoor.Vm Go.Proofs.YtpajpkbipagjpaaGreatDoor.Tr Go.IntWalk
set_option maxRecDepth 100000
set_option maxHeartbeats 4000000
end Go.Proofs.YtpajpkbipagjpaaGreatDoor.Oc
namespace Go.Proofs.YtpajpkbipagjpaaGreatDoor.Oc
open Go Go.RowKit Go.Proofs.YtpajpkbipagjpaaGreatDoor.Vm Go.Proofs.YtpajpkbipagjpaaGreatDoor.Tr Go.IntWalk
set_option maxRecDepth 100000
set_option maxHeartbeats 4000000
end Go.Proofs.YtpajpkbipagjpaaGreatDoor.Oc
