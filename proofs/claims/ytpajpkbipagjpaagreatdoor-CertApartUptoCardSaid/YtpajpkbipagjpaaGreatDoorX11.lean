/- What functions of the program, of its library and of the document compute: their contracts, and laws about what they compute (X11). No condition. -/
import Derived.Test.YtpajpkbipagjpaaGreatDoorX10
import Derived.Test.YtpajpkbipagjpaaGreatDoorX07
import Derived.Test.YtpajpkbipagjpaaGreatDoorX06
import Derived.Test.YtpajpkbipagjpaaGreatDoorX04
set_option linter.unusedVariables false
set_option linter.unusedSimpArgs false
namespace Go.Proofs.YtpajpkbipagjpaaGreatDoor.Oc
open Go Go.RowKit Go.Proofs.YtpajpkbipagjpaaGreatDoor.Vm Go.Proofs.YtpajpkbipagjpaaGreatDoor.Tr Go.IntWalk
set_option maxRecDepth 100000
set_option maxHeartbeats 4000000
end Go.Proofs.YtpajpkbipagjpaaGreatDoor.Oc
namespace Go.Proofs.YtpajpkbipagjpaaGreatDoor.Oc
open Go Go.RowKit Go.Proofs.YtpajpkbipagjpaaGreatDoor.Vm Go.Proofs.YtpajpkbipagjpaaGreatDoor.Tr Go.IntWalk
set_option maxRecDepth 100000
set_option maxHeartbeats 4000000
end Go.Proofs.YtpajpkbipagjpaaGreatDoor.Oc
namespace Go.Proofs.YtpajpkbipagjpaaGreatDoor.Oc
open Go Go.RowKit Go.Proofs.YtpajpkbipagjpaaGreatDoor.Vm Go.Proofs.YtpajpkbipagjpaaGreatDoor.Tr Go.IntWalk
set_option maxRecDepth 100000
set_option maxHeartbeats 4000000
end Go.Proofs.YtpajpkbipagjpaaGreatDoor.Oc
namespace Go.Proofs.YtpajpkbipagjpaaGreatDoor.Oc
open Go Go.RowKit Go.Proofs.YtpajpkbipagjpaaGreatDoor.Vm Go.Proofs.YtpajpkbipagjpaaGreatDoor.Tr Go.IntWalk
set_option maxRecDepth 100000
set_option maxHeartbeats 4000000
end Go.Proofs.YtpajpkbipagjpaaGreatDoor.Oc
namespace Go.Proofs.YtpajpkbipagjpaaGreatDoor.Oc
open Go Go.RowKit Go.Proofs.YtpajpkbipagjpaaGreatDoor.Vm Go.Proofs.YtpajpkbipagjpaaGreatDoor.Tr Go.IntWalk
set_option maxRecDepth 100000
set_option maxHeartbeats 4000000
end Go.Proofs.YtpajpkbipagjpaaGreatDoor.Oc
namespace Go.Proofs.YtpajpkbipagjpaaGreatDoor.Oc
open Go Go.RowKit Go.Proofs.YtpajpkbipagjpaaGreatDoor.Vm Go.Proofs.YtpajpkbipagjpaaGreatDoor.Tr Go.IntWalk
set_option maxRecDepth 100000
set_option maxHeartbeats 4000000
end Go.Proofs.YtpajpkbipagjpaaGreatDoor.Oc
namespace Go.Proofs.YtpajpkbipagjpaaGreatDoor.Oc
open Go Go.RowKit Go.Proofs.YtpajpkbipagjpaaGreatDoor.Vm Go.Proofs.YtpajpkbipagjpaaGreatDoor.Tr Go.IntWalk
set_option maxRecDepth 100000
set_option maxHeartbeats 4000000
def kindN (k : Int) : List UInt8 := if k = 1 then [99, 111, 109, 109, 111, 110, 78, 97, 109, 101] else if k = 2 then [111, 114, 103, 97, 110, 105, 122, 97, 116, 105, 111, 110, 78, 97, 109, 101] else if k = 3 then [99, 111, 117, 110, 116, 114, 121, 78, 97, 109, 101] else []
def signsB : List UInt8 := [65, 66, 67, 68, 69, 70, 71, 72, 73, 74, 75, 76, 77, 78, 79, 80, 81, 82, 83, 84, 85, 86, 87, 88, 89, 90, 97, 98, 99, 100, 101, 102, 103, 104, 105, 106, 107, 108, 109, 110, 111, 112, 113, 114, 115, 116, 117, 118, 119, 120, 121, 122, 48, 49, 50, 51, 52, 53, 54, 55, 56, 57, 32, 39, 40, 41, 43, 44, 45, 46, 47, 58, 61, 63]
def prt8 (c : UInt8) : Bool := signsB.contains c
def fits2 (p : Bool) (b : List UInt8) : Bool := if p then b.all prt8 else validB b
def labelT (r : Rd) : T := primT (if r.print then 19 else 12) r.text
def partB (r : Rd) : Bool := decide (1 ≤ r.kind ∧ r.kind ≤ 3 ∧ ¬ r.text.length = 0 ∧ r.text.length ≤ 64) && (fits2 r.print r.text && decide (¬ r.kind = 3 ∨ r.print = true ∧ r.text.length = 2))
def rdnT (r : Rd) : T := setT [seqT [primT 6 (namedB (kindN r.kind)), labelT r]]
def nameOk (n : List Rd) : Bool := decide (1 ≤ n.length ∧ n.length ≤ 8) && n.all partB
def nameT (n : List Rd) : T := if nameOk n then seqT (n.map rdnT) else T.zero
def nameE (n : List Rd) : Int := if nameOk n then 0 else 200
def kid (t : T) (i : Nat) : T := t.kids.getD i T.zero
def idxK (s : List UInt8) : Int := if s = [] then 0 else if s = [99, 111, 109, 109, 111, 110, 78, 97, 109, 101] then 1 else if s = [111, 114, 103, 97, 110, 105, 122, 97, 116, 105, 111, 110, 78, 97, 109, 101] then 2 else if s = [99, 111, 117, 110, 116, 114, 121, 78, 97, 109, 101] then 3 else -1
def rdOf (x : T) : Rd := ⟨idxK (nameOf (kid (kid x 0) 0).bytes), (kid (kid x 0) 1).bytes, decide ((kid (kid x 0) 1).tag = 19)⟩
def rnN (t : T) : List Rd := t.kids.map rdOf
def rnOk (t : T) : Bool := nameOk (rnN t) && decide (nameT (rnN t) = t)
def hasT (t : T) (c g : Int) (m : Nat) : Prop := t.cls = c ∧ t.tag = g ∧ t.cons = true ∧ t.bytes = [] ∧ t.kids.length = m
def isT (t : T) (g : Int) : Prop := t.cls = 0 ∧ t.tag = g ∧ t.cons = false ∧ t.kids = []
instance (t : T) (c g : Int) (m : Nat) : Decidable (hasT t c g m) := by unfold hasT; infer_instance
instance (t : T) (g : Int) : Decidable (isT t g) := by unfold isT; infer_instance
def whichK (k : T) : Int := if primT 6 (namedB (kindN 3)) = k then 3 else if primT 6 (namedB (kindN 2)) = k then 2 else if primT 6 (namedB (kindN 1)) = k then 1 else 0
def okRd (x : T) : Prop := hasT x 0 17 1 ∧ hasT (kid x 0) 0 16 2 ∧ ¬ whichK (kid (kid x 0) 0) = 0 ∧ (isT (kid (kid x 0) 1) 12 ∨ isT (kid (kid x 0) 1) 19)
instance (x : T) : Decidable (okRd x) := by unfold okRd; infer_instance
def imOf (t : T) : Im := ⟨if rdOk (kid t 0) then rdH (kid t 0) else 0, if rdOk (kid t 0) then rdN (kid t 0) else false, (kid t 1).bytes⟩
end Go.Proofs.YtpajpkbipagjpaaGreatDoor.Oc
namespace Go.Proofs.YtpajpkbipagjpaaGreatDoor.Oc
open Go Go.RowKit Go.Proofs.YtpajpkbipagjpaaGreatDoor.Vm Go.Proofs.YtpajpkbipagjpaaGreatDoor.Tr Go.IntWalk
set_option maxRecDepth 100000
set_option maxHeartbeats 4000000
end Go.Proofs.YtpajpkbipagjpaaGreatDoor.Oc
