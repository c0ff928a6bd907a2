/- What functions of the program, of its library and of the document compute: their contracts, and laws about what they compute (X14). No condition. -/
import Derived.Test.YtpajpkbipagjpaaGreatDoorX12
import Derived.Test.YtpajpkbipagjpaaGreatDoorX13
import Derived.Test.YtpajpkbipagjpaaGreatDoorX10
import Derived.Test.YtpajpkbipagjpaaGreatDoorX11
import Derived.Test.YtpajpkbipagjpaaGreatDoorX06
import Derived.Test.YtpajpkbipagjpaaGreatDoorX04
import Derived.Test.YtpajpkbipagjpaaGreatDoorX07
set_option linter.unusedVariables false
set_option linter.unusedSimpArgs false
namespace Go.Proofs.YtpajpkbipagjpaaGreatDoor.Oc
open Go Go.RowKit Go.Proofs.YtpajpkbipagjpaaGreatDoor.Vm Go.Proofs.YtpajpkbipagjpaaGreatDoor.Tr Go.IntWalk
set_option maxRecDepth 100000
set_option maxHeartbeats 4000000
def prnN (t : T) : List Rd := if rnOk t then rnN t else []
def prnE (t : T) : Int := if rnOk t then 0 else 200
theorem prn_t {t : T} (h : rnOk t = true) : prnN t = rnN t ∧ prnE t = 0 := ⟨by unfold prnN; rw [h]; rfl, by unfold prnE; rw [h]; rfl⟩
theorem kid_nil {t : T} (h : (t.kids.length : Int) = 0) (i : Nat) : t.kids.getD i T.zero = T.zero := by rw [List.eq_nil_of_length_eq_zero (show t.kids.length = 0 by omega)]; rfl
theorem kdrop (l : List T) : (l.drop 1).take ((l.length : Int) - 1).toNat = l.drop 1 := List.take_of_length_le (by rw [List.length_drop]; omega)
theorem kid_out {t : T} (h : (((t.kids.drop 1).take ((t.kids.length : Int) - 1).toNat).length : Int) = 0) : t.kids.getD 1 T.zero = T.zero := by
 rw [kdrop, List.length_drop] at h
 rw [List.getD_eq_getElem?_getD, List.getElem?_eq_none (by omega)]; rfl
theorem nameT_sz (n : List Rd) : (nameT n).sz ≤ 5000 := by
 unfold nameT
 split
 ·rename_i h
  unfold nameOk at h
  simp only [Bool.and_eq_true, decide_eq_true_eq, List.all_eq_true] at h
  have := szs_rdn n h.2
  rw [sz_seq]; omega
 ·decide
end Go.Proofs.YtpajpkbipagjpaaGreatDoor.Oc
namespace Go.Proofs.YtpajpkbipagjpaaGreatDoor.Oc
open Go Go.RowKit Go.Proofs.YtpajpkbipagjpaaGreatDoor.Vm Go.Proofs.YtpajpkbipagjpaaGreatDoor.Tr Go.IntWalk
set_option maxRecDepth 100000
set_option maxHeartbeats 4000000
theorem rdZ : (if rdOk T.zero = true then rdH T.zero else 0) = 0 ∧ (if rdOk T.zero = true then rdN T.zero else false) = false ∧ rdOk T.zero = false := by
 have : rdOk T.zero = false := by decide +kernel
 rw [this]; exact ⟨rfl, rfl, rfl⟩
theorem hx1 {t : T} (h : (t.kids.length : Int) = 0) : Im.mk 0 false [] = imOf t := by
 unfold imOf kid
 rw [kid_nil h, kid_nil h, rdZ.1, rdZ.2.1]; rfl
theorem hx2 {t : T} (h : (((t.kids.drop 1).take ((t.kids.length : Int) - 1).toNat).length : Int) = 0) : Im.mk (if rdOk (t.kids.getD 0 T.zero) = true then rdH (t.kids.getD 0 T.zero) else 0) (if rdOk (t.kids.getD 0 T.zero) = true then rdN (t.kids.getD 0 T.zero) else false) [] = imOf t := by
 unfold imOf kid
 rw [kid_out h]; rfl
end Go.Proofs.YtpajpkbipagjpaaGreatDoor.Oc
namespace Go.Proofs.YtpajpkbipagjpaaGreatDoor.Oc
open Go Go.RowKit Go.Proofs.YtpajpkbipagjpaaGreatDoor.Vm Go.Proofs.YtpajpkbipagjpaaGreatDoor.Tr Go.IntWalk
set_option maxRecDepth 100000
set_option maxHeartbeats 4000000
@[go_sem] theorem ΦRIP_c : callable Tryz.prog 72 = true ∧ callable Tryz.prog 73 = true ∧ callable Tryz.prog 88 = true := ⟨by kernel_rfl, by kernel_rfl, by kernel_rfl⟩
end Go.Proofs.YtpajpkbipagjpaaGreatDoor.Oc
namespace Go.Proofs.YtpajpkbipagjpaaGreatDoor.Oc
open Go Go.RowKit Go.Proofs.YtpajpkbipagjpaaGreatDoor.Vm Go.Proofs.YtpajpkbipagjpaaGreatDoor.Tr Go.IntWalk
set_option maxRecDepth 100000
set_option maxHeartbeats 4000000
end Go.Proofs.YtpajpkbipagjpaaGreatDoor.Oc
namespace Go.Proofs.YtpajpkbipagjpaaGreatDoor.Oc
open Go Go.RowKit Go.Proofs.YtpajpkbipagjpaaGreatDoor.Vm Go.Proofs.YtpajpkbipagjpaaGreatDoor.Tr Go.IntWalk
set_option maxRecDepth 100000
set_option maxHeartbeats 4000000
end Go.Proofs.YtpajpkbipagjpaaGreatDoor.Oc
namespace Go.Proofs.YtpajpkbipagjpaaGreatDoor.Oc
open Go Go.RowKit Go.Proofs.YtpajpkbipagjpaaGreatDoor.Vm Go.Proofs.YtpajpkbipagjpaaGreatDoor.Tr Go.IntWalk
set_option maxRecDepth 100000
set_option maxHeartbeats 4000000
end Go.Proofs.YtpajpkbipagjpaaGreatDoor.Oc
namespace Go.Proofs.YtpajpkbipagjpaaGreatDoor.Oc
open Go Go.RowKit Go.Proofs.YtpajpkbipagjpaaGreatDoor.Vm Go.Proofs.YtpajpkbipagjpaaGreatDoor.Tr Go.IntWalk
set_option maxRecDepth 100000
set_option maxHeartbeats 4000000
end Go.Proofs.YtpajpkbipagjpaaGreatDoor.Oc
namespace Go.Proofs.YtpajpkbipagjpaaGreatDoor.Oc
open Go Go.RowKit Go.Proofs.YtpajpkbipagjpaaGreatDoor.Vm Go.Proofs.YtpajpkbipagjpaaGreatDoor.Tr Go.IntWalk
set_option maxRecDepth 100000
set_option maxHeartbeats 4000000
end Go.Proofs.YtpajpkbipagjpaaGreatDoor.Oc
