/- What functions of the program, of its library and of the document compute: their contracts, and laws about what they compute (X15). No condition. -/
import Derived.Test.YtpajpkbipagjpaaGreatDoorX14
import Derived.Test.YtpajpkbipagjpaaGreatDoorX07
import Derived.Test.YtpajpkbipagjpaaGreatDoorX13
import Derived.Test.YtpajpkbipagjpaaGreatDoorX12
import Derived.Test.YtpajpkbipagjpaaGreatDoorX11
import Derived.Test.YtpajpkbipagjpaaGreatDoorX04
import Derived.Test.YtpajpkbipagjpaaGreatDoorX09
set_option linter.unusedVariables false
set_option linter.unusedSimpArgs false
namespace Go.Proofs.YtpajpkbipagjpaaGreatDoor.Oc
open Go Go.RowKit Go.Proofs.YtpajpkbipagjpaaGreatDoor.Vm Go.Proofs.YtpajpkbipagjpaaGreatDoor.Tr Go.IntWalk
set_option maxRecDepth 100000
set_option maxHeartbeats 4000000
end Go.Proofs.YtpajpkbipagjpaaGreatDoor.Oc
namespace Go.Proofs.YtpajpkbipagjpaaGreatDoor.Oc
open Go Go.RowKit Go.Proofs.YtpajpkbipagjpaaGreatDoor.Vm Go.Proofs.YtpajpkbipagjpaaGreatDoor.Tr Go.IntWalk
set_option maxRecDepth 100000
set_option maxHeartbeats 4000000
end Go.Proofs.YtpajpkbipagjpaaGreatDoor.Oc
namespace Go.Proofs.YtpajpkbipagjpaaGreatDoor.Oc
open Go Go.RowKit Go.Proofs.YtpajpkbipagjpaaGreatDoor.Vm Go.Proofs.YtpajpkbipagjpaaGreatDoor.Tr Go.IntWalk
set_option maxRecDepth 100000
set_option maxHeartbeats 4000000
end Go.Proofs.YtpajpkbipagjpaaGreatDoor.Oc
namespace Go.Proofs.YtpajpkbipagjpaaGreatDoor.Oc
open Go Go.RowKit Go.Proofs.YtpajpkbipagjpaaGreatDoor.Vm Go.Proofs.YtpajpkbipagjpaaGreatDoor.Tr Go.IntWalk
set_option maxRecDepth 100000
set_option maxHeartbeats 4000000
end Go.Proofs.YtpajpkbipagjpaaGreatDoor.Oc
namespace Go.Proofs.YtpajpkbipagjpaaGreatDoor.Oc
open Go Go.RowKit Go.Proofs.YtpajpkbipagjpaaGreatDoor.Vm Go.Proofs.YtpajpkbipagjpaaGreatDoor.Tr Go.IntWalk
set_option maxRecDepth 100000
set_option maxHeartbeats 4000000
end Go.Proofs.YtpajpkbipagjpaaGreatDoor.Oc
namespace Go.Proofs.YtpajpkbipagjpaaGreatDoor.Oc
open Go Go.RowKit Go.Proofs.YtpajpkbipagjpaaGreatDoor.Vm Go.Proofs.YtpajpkbipagjpaaGreatDoor.Tr Go.IntWalk
set_option maxRecDepth 100000
set_option maxHeartbeats 4000000
theorem rds_eq {a b : List Rd} (hl : (a.length : Int) = b.length) (h : ∀ j, j < a.length → a.getD j Rd.zero = b.getD j Rd.zero) : a = b := by
 refine List.ext_getElem (by omega) fun j h1 h2 => ?_
 have := h j h1
 simpa [List.getD_eq_getElem?_getD, List.getElem?_eq_getElem h1, List.getElem?_eq_getElem h2] using this
theorem rd_same {a b : Rd} (h1 : a.kind = b.kind) (h2 : a.text = b.text) (h3 : a.print = b.print) : a = b := by cases a; cases b; simp_all
@[go_sem] noncomputable def rnamesF : PFn := PF [SRs, SRs] (fun (a : List Rd) (b : List Rd) => a.length ≤ 4611686018427387904) (fun (a : List Rd) (b : List Rd) => [.bool (decide (a = b))])
theorem rnames_ok : Pure E 29 rnamesF := Pure.of_sig (rs := [.tmp 4]) (n := 26) Tryz.func29 rfl rfl rfl (Nat.le_of_ble_eq_true rfl) (by
 intro (a : List Rd) (b : List Rd) hds
 refine st0 ?_
 refine rg sound_nil [0, 1] trivial ?_
 refine rg sound_nil [0, 1, 10] trivial ?_
 refine cn ?_ ?_
 ·intro h; try exact nd h
  all_goals
   have hy : decide (a = b) = false := decide_eq_false (by rintro rfl; simp_all)
   refine rg sound_nil [4] trivial ?_
   first
   | exact fz hy
 ·intro h; try exact nd h
  all_goals
   refine rg sound_nil [0, 1, 5] trivial ?_
   refine nx ?_
   refine VC.loopP (ι := Nat) [0, 1] (fun i => [(5, .dat (.int .i64 (i : Int)))]) (fun _ => []) (fun i => i ≤ a.length ∧ ∀ j, j < i → a.getD j Rd.zero = b.getD j Rd.zero) (fun i => a.length - i) 0 (⟨Nat.zero_le _, fun j hj => by omega⟩) (et) ?_
   rintro i hp; try dsimp only at hp
   refine st0 ?_
   refine rg sound_nil [0, 1, 5, 14] trivial ?_
   refine cn ?_ ?_
   ·intro h; try exact nd h
    all_goals
     have ra := rdsD_at (l := a) (k := i) (by omega)
     have rb := rdsD_at (l := b) (k := i) (by omega)
     refine rd sound_nil 9 [0, 1, 5, 25] (And.intro ra rb) ?_
     refine cn ?_ ?_
     ·intro h; try exact nd h
      all_goals
       have hy : decide (a = b) = false := decide_eq_false (by rintro rfl; simp at h)
       refine rg sound_nil [4] trivial ?_
       first
       | exact fz hy
     ·intro h; try exact nd h
      all_goals
       refine rgL sound_nil trivial ?_
       refine nx ?_
       exact ⟨i + 1, ⟨by omega, fun j hj => by
        rcases Nat.lt_succ_iff_lt_or_eq.1 hj with hj | rfl
        ·exact hp.2 j hj
        ·simp at h; exact rd_same h.1 h.2.1 h.2.2⟩, et, by omega⟩
   ·intro h; try exact nd h
    all_goals
     have hy : decide (a = b) = true := decide_eq_true (rds_eq (by simp_all) fun j hj => hp.2 j (by omega))
     refine rg sound_nil [4] trivial ?_
     first
     | exact fz hy)
end Go.Proofs.YtpajpkbipagjpaaGreatDoor.Oc
namespace Go.Proofs.YtpajpkbipagjpaaGreatDoor.Oc
open Go Go.RowKit Go.Proofs.YtpajpkbipagjpaaGreatDoor.Vm Go.Proofs.YtpajpkbipagjpaaGreatDoor.Tr Go.IntWalk
set_option maxRecDepth 100000
set_option maxHeartbeats 4000000
end Go.Proofs.YtpajpkbipagjpaaGreatDoor.Oc
namespace Go.Proofs.YtpajpkbipagjpaaGreatDoor.Oc
open Go Go.RowKit Go.Proofs.YtpajpkbipagjpaaGreatDoor.Vm Go.Proofs.YtpajpkbipagjpaaGreatDoor.Tr Go.IntWalk
set_option maxRecDepth 100000
set_option maxHeartbeats 4000000
end Go.Proofs.YtpajpkbipagjpaaGreatDoor.Oc
