/- What functions of the program, of its library and of the document compute: their contracts, and laws about what they compute (X13). No condition. -/
import Derived.Test.YtpajpkbipagjpaaGreatDoorX12
import Derived.Test.YtpajpkbipagjpaaGreatDoorX04
import Derived.Test.YtpajpkbipagjpaaGreatDoorX10
import Derived.Test.YtpajpkbipagjpaaGreatDoorX11
set_option linter.unusedVariables false
set_option linter.unusedSimpArgs false
namespace Go.Proofs.YtpajpkbipagjpaaGreatDoor.Oc
open Go Go.RowKit Go.Proofs.YtpajpkbipagjpaaGreatDoor.Vm Go.Proofs.YtpajpkbipagjpaaGreatDoor.Tr Go.IntWalk
set_option maxRecDepth 100000
set_option maxHeartbeats 4000000
theorem all_of {b : List UInt8} {i : Nat} (h : ∀ j, j < i → prt8 (b.getD j 0) = true) (hi : b.length ≤ i) : b.all prt8 = true := by
 rw [List.all_eq_true]
 intro x hx
 obtain ⟨j, hj, rfl⟩ := List.mem_iff_getElem.1 hx
 have := h j (by omega)
 rwa [List.getD_eq_getElem?_getD, List.getElem?_eq_getElem hj] at this
theorem not_of {b : List UInt8} {i : Nat} (hi : i < b.length) (h : prt8 (b.getD i 0) = false) : ¬ b.all prt8 = true := by
 rw [List.all_eq_true]
 intro hx
 have := hx (b.getD i 0) (by rw [List.getD_eq_getElem?_getD, List.getElem?_eq_getElem hi]; exact List.getElem_mem hi)
 rw [h] at this; cases this
noncomputable def ΦB19 : Fns := tab [(302, prtF)]
theorem ΦB19_ok : Sound E ΦB19 := sound_cons (by kernel_rfl) prt_ok (sound_nil)
@[go_sem] theorem ΦB19_r : ΦB19 302 = some prtF ∧ ΦB19 252 = none ∧ ΦB19 291 = none ∧ ΦB19 292 = none ∧ ΦB19 294 = none ∧ ΦB19 293 = none ∧ ΦB19 331 = none := ⟨rfl, rfl, rfl, rfl, rfl, rfl, rfl⟩
@[go_sem] theorem ΦB19_c : callable Tryz.prog 252 = true ∧ callable Tryz.prog 291 = true ∧ callable Tryz.prog 292 = true ∧ callable Tryz.prog 294 = true ∧ callable Tryz.prog 293 = true ∧ callable Tryz.prog 331 = true := ⟨by kernel_rfl, by kernel_rfl, by kernel_rfl, by kernel_rfl, by kernel_rfl, by kernel_rfl⟩
@[go_sem] noncomputable def brk19F : PFn := PF [SPp 19] (fun (b : List UInt8) => b.length ≤ 4611686018427387904) (fun (b : List UInt8) => [.int .i64 (if b.all prt8 then 0 else 4)])
theorem brk19_ok : Pure E 211 brk19F := Pure.of_sig (rs := [.tmp 2]) (n := 110) Tryz.func211 rfl rfl rfl (Nat.le_of_ble_eq_true rfl) (by
 intro (b : List UInt8) hds
 refine st0 ?_
 refine rg ΦB19_ok [0] (leafE 19 b) ?_
 refine rB ΦB19_ok [0, 5] (leafE 19 b) fun K' hK => ?_
 repeat' first | (refine lf hK (leafE 19 b) ?_; clear hK K') | with_reducible apply And.intro | refine sA (leafE 19 b) (fun _ => ?_) fun _ => ?_ | refine sAb (leafE 19 b) (fun _ => ?_) fun _ => ?_ | refine sAl (leafE 19 b) (fun g => ?_) fun g => ?_ | exact sd | exact sde (leafE 19 b) | exact sdp (leafE 19 b) | refine stk (leafE 19 b) ?_ | fail
 all_goals
  refine cn ?_ ?_
  ·exact fun h => na h
  intro h
  refine rB ΦB19_ok [0, 32] (leafE 19 b) fun K' hK => ?_
  repeat' first | (refine lf hK (leafE 19 b) ?_; clear hK K') | with_reducible apply And.intro | refine sA (leafE 19 b) (fun _ => ?_) fun _ => ?_ | refine sAb (leafE 19 b) (fun _ => ?_) fun _ => ?_ | refine sAl (leafE 19 b) (fun g => ?_) fun g => ?_ | exact sd | exact sde (leafE 19 b) | exact sdp (leafE 19 b) | refine stk (leafE 19 b) ?_ | fail
  all_goals
   refine cn ?_ ?_
   ·exact fun h => na h
   intro h
   refine rg ΦB19_ok [0, 60] (leafE 19 b) ?_
   refine cn ?_ ?_
   ·exact fun h => na h
   intro h
   refine rB ΦB19_ok [0, 3] (leafE 19 b) fun K' hK => ?_
   repeat' first | (refine lf hK (leafE 19 b) ?_; clear hK K') | with_reducible apply And.intro | refine sA (leafE 19 b) (fun _ => ?_) fun _ => ?_ | refine sAb (leafE 19 b) (fun _ => ?_) fun _ => ?_ | refine sAl (leafE 19 b) (fun g => ?_) fun g => ?_ | exact sd | exact sde (leafE 19 b) | exact sdp (leafE 19 b) | refine stk (leafE 19 b) ?_ | fail
   all_goals
    refine rB ΦB19_ok [0, 3, 4] (leafE 19 b) fun K' hK => ?_
    repeat' first | with_reducible apply And.intro | exact sd | exact sde (leafE 19 b) | exact sdp (leafE 19 b) | refine stk (leafE 19 b) ?_ | fail
    refine ec (rs := [.tmp 2]) (n := 34) Tryz.func252 rfl rfl rfl ?_
    refine rg ΦB19_ok [0] trivial ?_
    refine rg ΦB19_ok [0, 3] trivial ?_
    refine rg ΦB19_ok [3, 4] trivial ?_
    refine rg ΦB19_ok [3, 4, 5] trivial ?_
    refine cn ?_ ?_
    ·exact fun h => na h
    intro h
    refine rg ΦB19_ok [3, 4, 7] trivial ?_
    refine cn ?_ ?_
    ·exact fun h => na h
    intro h
    refine rgL ΦB19_ok trivial ?_
    refine cn ?_ ?_
    ·exact fun h => na h
    intro h
    refine rg ΦB19_ok [3, 4, 10] trivial ?_
    refine cn ?_ ?_
    ·exact fun h => na h
    intro h
    refine rg ΦB19_ok [3, 4, 12] trivial ?_
    refine cn ?_ ?_
    ·exact fun h => na h
    intro h
    refine rg ΦB19_ok [3, 4, 16] trivial ?_
    refine cn ?_ ?_
    ·exact fun h => na h
    intro h
    refine rg ΦB19_ok [3, 4, 18] trivial ?_
    refine cn ?_ ?_
    ·exact fun h => na h
    intro h
    refine rg ΦB19_ok [3, 4, 20] trivial ?_
    refine cn ?_ ?_
    ·exact fun h => na h
    intro h
    refine rg ΦB19_ok [3, 4, 22] trivial ?_
    refine cn ?_ ?_
    ·intro h; try exact na h
     all_goals
      refine rB ΦB19_ok [2] trivial fun K' hK => ?_
      repeat' first | with_reducible apply And.intro | exact sd | exact sde trivial | exact sdp trivial | refine stk trivial ?_ | fail
      refine ec (rs := [.tmp 2]) (n := 4) Tryz.func291 rfl rfl rfl ?_
      refine rg ΦB19_ok [1] trivial ?_
      refine rg ΦB19_ok [2] trivial ?_
      refine nx ?_
      refine rt trivial ?_
      repeat' first | (refine lf hK trivial ?_; clear hK K') | with_reducible apply And.intro | exact sd | exact sde trivial | exact sdp trivial | refine stk trivial ?_ | fail
      all_goals
       refine nx ?_
       refine rt (leafE 19 b) ?_
       repeat' first | (refine lf hK (leafE 19 b) ?_; clear hK K') | with_reducible apply And.intro | exact sd | exact sde (leafE 19 b) | exact sdp (leafE 19 b) | refine stk (leafE 19 b) ?_ | fail
       all_goals
        refine rB ΦB19_ok [0, 3, 4, 83] (leafE 19 b) fun K' hK => ?_
        repeat' first | (refine lf hK (leafE 19 b) ?_; clear hK K') | with_reducible apply And.intro | refine sA (leafE 19 b) (fun _ => ?_) fun _ => ?_ | refine sAb (leafE 19 b) (fun _ => ?_) fun _ => ?_ | refine sAl (leafE 19 b) (fun g => ?_) fun g => ?_ | exact sd | exact sde (leafE 19 b) | exact sdp (leafE 19 b) | refine stk (leafE 19 b) ?_ | fail
        all_goals
         refine cn ?_ ?_
         ·exact fun h => na h
         intro h
         refine rB ΦB19_ok [98] (leafE 19 b) fun K' hK => ?_
         repeat' first | with_reducible apply And.intro | exact sd | exact sde (leafE 19 b) | exact sdp (leafE 19 b) | refine stk (leafE 19 b) ?_ | fail
         refine ec (rs := [.tmp 3]) (n := 8) Tryz.func292 rfl rfl rfl ?_
         refine rg ΦB19_ok [0, 1] trivial ?_
         refine rB ΦB19_ok [3] trivial fun K' hK => ?_
         repeat' first | with_reducible apply And.intro | exact sd | exact sde trivial | exact sdp trivial | refine stk trivial ?_ | fail
         refine ec (rs := [.tmp 4]) (n := 9) Tryz.func293 rfl rfl rfl ?_
         refine rg ΦB19_ok [0, 1] trivial ?_
         refine rB ΦB19_ok [4] trivial fun K' hK => ?_
         repeat' first | with_reducible apply And.intro | exact sd | exact sde trivial | exact sdp trivial | refine stk trivial ?_ | fail
         refine ec (rs := [.tmp 4]) (n := 19) Tryz.func331 rfl rfl rfl ?_
         refine rg ΦB19_ok [0, 1] trivial ?_
         refine rg ΦB19_ok [0, 1, 7, 8] trivial ?_
         refine nx ?_
         refine VC.loopS (ι := Nat) [0, 1, 7] (fun i => [(8, .dat (.int .i64 (i : Int)))]) (fun i => []) (fun i => i ≤ b.length ∧ ∀ j, j < i → prt8 (b.getD j 0) = true) (fun i => b.length - i) 0 ⟨Nat.zero_le _, fun j hj => by omega⟩ ?_ ?_
         ·refine Ent.to rfl rfl rfl ?_ ?_
          ·simp -implicitDefEqProofs only [go_sem]; (try simp only [D.dat.injEq, Vm.Data.int.injEq, true_and, and_true, and_self, eq_self]); (try omega); (try ((repeat' apply And.intro) <;> first | omega | rfl))
          ·apply all_at
           ·(repeat' (first | exact all_nil | (refine all_cons ?_ ?_))) <;> (simp -implicitDefEqProofs only [go_sem]; (try rfl); skip)
           ·(repeat' (first | exact all_nil | (refine all_cons ?_ ?_))) <;> (simp -implicitDefEqProofs only [go_sem]; (try rfl); skip)
         intro i hp; (try dsimp only at hp)
         refine st0 ?_
         refine rg ΦB19_ok [0, 1, 7, 8, 9] trivial ?_
         refine cn ?_ ?_
         ·intro h; try exact nd h
          all_goals
           refine rg ΦB19_ok [0, 1, 5, 7, 8] trivial ?_
           refine rB ΦB19_ok [0, 1, 5, 7, 8, 16] trivial fun K' hK => ?_
           repeat' first | with_reducible apply And.intro | exact sd | exact sde trivial | exact sdp trivial | refine stk trivial ?_ | fail
           refine ec (rs := [.tmp 3]) (n := 8) Tryz.func294 rfl rfl rfl ?_
           refine rg ΦB19_ok [0, 1] prtI_eq ?_
           refine rg ΦB19_ok [3] prtI_eq ?_
           refine nx ?_
           refine rt trivial ?_
           repeat' first | (refine lf hK trivial ?_; clear hK K') | with_reducible apply And.intro | exact sd | exact sde trivial | exact sdp trivial | refine stk trivial ?_ | fail
           all_goals
            refine cn ?_ ?_
            ·intro h; try exact nd h
             all_goals
              have hbad := not_of (b := b) (i := i) (by omega) (by simp_all)
              refine rg ΦB19_ok [4] trivial ?_
              refine nx ?_
              refine rt trivial ?_
              repeat' first | (refine lf hK trivial ?_; clear hK K') | with_reducible apply And.intro | exact sd | exact sde trivial | exact sdp trivial | refine stk trivial ?_ | fail
              all_goals
               refine nx ?_
               refine rt trivial ?_
               repeat' first | (refine lf hK trivial ?_; clear hK K') | with_reducible apply And.intro | exact sd | exact sde trivial | exact sdp trivial | refine stk trivial ?_ | fail
               all_goals
                refine nx ?_
                refine rt (leafE 19 b) ?_
                repeat' first | (refine lf hK (leafE 19 b) ?_; clear hK K') | with_reducible apply And.intro | exact sd | exact sde (leafE 19 b) | exact sdp (leafE 19 b) | refine stk (leafE 19 b) ?_ | fail
                all_goals
                 refine cn ?_ ?_
                 ·intro h; try exact na h
                  all_goals
                   have hy : (if b.all prt8 = true then 0 else 4 : Int) = 4 := if_neg hbad
                   refine rg ΦB19_ok [2] (leafE 19 b) ?_
                   first
                   | exact fz hy
                 ·exact fun h => na h
            ·intro h; try exact nd h
             all_goals
              refine rgL ΦB19_ok trivial ?_
              refine nx ?_
              refine ⟨i + 1, ⟨by omega, fun j hj => by
               rcases Nat.lt_succ_iff_lt_or_eq.1 hj with hj | rfl
               ·exact hp.2 j hj
               ·simp_all⟩, Ent.to rfl rfl rfl ?_ ?_, by omega⟩
              ·simp -implicitDefEqProofs only [go_sem]; (try simp (disch := omega) only [i64_in, tmodn, tdivn]); (try simp only [D.dat.injEq, Vm.Data.int.injEq, true_and, and_true, and_self, eq_self]); (try omega); (try ((repeat' apply And.intro) <;> first | omega | rfl))
              ·apply all_at
               ·(repeat' (first | exact all_nil | (refine all_cons ?_ ?_))) <;> (simp -implicitDefEqProofs only [go_sem]; (try rfl); skip)
               ·(repeat' (first | exact all_nil | (refine all_cons ?_ ?_))) <;> (simp -implicitDefEqProofs only [go_sem]; (try rfl); skip)
         ·intro h; try exact nd h
          all_goals
           have hgood := all_of hp.2 (by omega)
           refine rg ΦB19_ok [4] trivial ?_
           refine nx ?_
           refine rt trivial ?_
           repeat' first | (refine lf hK trivial ?_; clear hK K') | with_reducible apply And.intro | exact sd | exact sde trivial | exact sdp trivial | refine stk trivial ?_ | fail
           all_goals
            refine nx ?_
            refine rt trivial ?_
            repeat' first | (refine lf hK trivial ?_; clear hK K') | with_reducible apply And.intro | exact sd | exact sde trivial | exact sdp trivial | refine stk trivial ?_ | fail
            all_goals
             refine nx ?_
             refine rt (leafE 19 b) ?_
             repeat' first | (refine lf hK (leafE 19 b) ?_; clear hK K') | with_reducible apply And.intro | exact sd | exact sde (leafE 19 b) | exact sdp (leafE 19 b) | refine stk (leafE 19 b) ?_ | fail
             all_goals
              refine cn ?_ ?_
              ·exact fun h => na h
              intro h
              have hy : (if b.all prt8 = true then 0 else 4 : Int) = 0 := if_pos hgood
              refine rg ΦB19_ok [2] (leafE 19 b) ?_
              first
              | exact fz hy
    ·exact fun h => na h)
end Go.Proofs.YtpajpkbipagjpaaGreatDoor.Oc
namespace Go.Proofs.YtpajpkbipagjpaaGreatDoor.Oc
open Go Go.RowKit Go.Proofs.YtpajpkbipagjpaaGreatDoor.Vm Go.Proofs.YtpajpkbipagjpaaGreatDoor.Tr Go.IntWalk
set_option maxRecDepth 100000
set_option maxHeartbeats 4000000
@[go_sem] noncomputable def cnt19F : PFn := PF [SNp 19] (fun (b : List UInt8) => True) (fun (b : List UInt8) => [.int .i64 1, .int .i64 1])
theorem cnt19_ok : Pure E 209 cnt19F := Pure.of_sig (rs := [.tmp 2, .tmp 3]) (n := 30) Tryz.func209 rfl rfl rfl (Nat.le_of_ble_eq_true rfl) (by
 intro (b : List UInt8) hds
 refine st0 ?_
 refine rg sound_nil [1] (leafE 19 b) ?_
 refine rg sound_nil [1, 2, 3] (leafE 19 b) ?_
 refine rg sound_nil [2, 3, 9, 10, 11] (leafE 19 b) ?_
 refine nx ?_
 refine VC.loopP (ι := Unit) [2, 3, 10, 11] (fun i => []) (fun _ => []) (fun i => True) (fun i => 0) () (trivial) (et) ?_
 rintro u hp; try dsimp only at hp
 refine st0 ?_
 refine rg sound_nil [2, 3, 9, 10, 11, 12] (leafE 19 b) ?_
 refine cn ?_ ?_
 ·exact fun h => nd h
 intro h
 refine rg sound_nil [2, 3] (leafE 19 b) ?_
 first
 | exact fz trivial)
noncomputable def ΦW19 : Fns := tab [(209, cnt19F), (211, brk19F)]
theorem ΦW19_ok : Sound E ΦW19 := sound_cons (by kernel_rfl) cnt19_ok (sound_cons (by kernel_rfl) brk19_ok (sound_nil))
@[go_sem] theorem ΦW19_r : ΦW19 209 = some cnt19F ∧ ΦW19 211 = some brk19F ∧ ΦW19 210 = none ∧ ΦW19 251 = none := ⟨rfl, rfl, rfl, rfl⟩
@[go_sem] theorem ΦW19_c : callable Tryz.prog 210 = true ∧ callable Tryz.prog 251 = true := ⟨by kernel_rfl, by kernel_rfl⟩
@[go_sem] noncomputable def wrong19F : PFn := PF [SNp 19] (fun (b : List UInt8) => b.length ≤ 4611686018427387904) (fun (b : List UInt8) => [.int .i64 (if b.all prt8 then 0 else 4), .int .i64 (if b.all prt8 then -1 else 0)])
theorem wrong19_ok : Pure E 158 wrong19F := Pure.of_sig (rs := [.cell 2 3, .tmp 3]) (n := 31) Tryz.func158 rfl rfl rfl (Nat.le_of_ble_eq_true rfl) (by
 intro (b : List UInt8) hds
 obtain ⟨R, hR, hRc⟩ : ∃ R : Int, (if b.all prt8 = true then 0 else 4 : Int) = R ∧ (R = 0 ∧ b.all prt8 = true ∨ R = 4 ∧ b.all prt8 = false) := ⟨_, rfl, by cases b.all prt8 <;> simp⟩
 refine st0 ?_
 refine rg ΦW19_ok [1, 2, 7] (leafE 19 b) ?_
 refine rg ΦW19_ok [1, 2, 4, 5, 7] (leafE 19 b) ?_
 refine rg ΦW19_ok [1, 2, 4, 7, 13] (leafE 19 b) ?_
 refine cn ?_ ?_
 ·exact fun h => na h
 intro h
 refine rg ΦW19_ok [1, 2, 7, 16] (leafE 19 b) ?_
 refine cn ?_ ?_
 ·exact fun h => na h
 intro h
 refine rg ΦW19_ok [1, 2, 6, 7] (leafE 19 b) ?_
 refine rB ΦW19_ok [2, 6, 7, 19] (leafE 19 b) fun K' hK => ?_
 repeat' first | with_reducible apply And.intro | exact sd | exact sde (leafE 19 b) | exact sdp (leafE 19 b) | refine stk (leafE 19 b) ?_ | fail
 refine ec (rs := [.tmp 2]) (n := 4) Tryz.func210 rfl rfl rfl ?_
 refine rg ΦW19_ok [1] trivial ?_
 refine rg ΦW19_ok [2] trivial ?_
 refine nx ?_
 refine rt (leafE 19 b) ?_
 repeat' first | (refine lf hK (leafE 19 b) ?_; clear hK K') | with_reducible apply And.intro | exact sd | exact sde (leafE 19 b) | exact sdp (leafE 19 b) | refine stk (leafE 19 b) ?_ | fail
 all_goals
  refine nx ?_
  refine re (rs := []) (n := 6) 20 21 Tryz.func250 rfl rfl rfl fun A B hA hB => ?_
  refine rBL ΦW19_ok  (leafE 19 b) fun K' hK => ?_
  repeat' first | with_reducible apply And.intro | exact sd | exact sde (leafE 19 b) | exact sdp (leafE 19 b) | refine stk (leafE 19 b) ?_ | fail
  refine ec (rs := [.tmp 4]) (n := 28) Tryz.func251 rfl rfl rfl ?_
  refine rg ΦW19_ok [0, 1] (leafE 19 b) ?_
  refine rB ΦW19_ok [0, 1, 9] (leafE 19 b) fun K' hK => ?_
  repeat' first | with_reducible apply And.intro | exact sd | exact sde (leafE 19 b) | exact sdp (leafE 19 b) | refine stk (leafE 19 b) ?_ | fail
  refine yd hA ?_
  refine rgL ΦW19_ok (leafE 19 b) ?_
  refine nx ?_
  refine yb hB ?_
  refine rg ΦW19_ok [2, 6] (And.intro hR (leafE 19 b)) ?_
  refine rg ΦW19_ok [2, 6, 24] (leafE 19 b) ?_
  refine cn ?_ ?_
  ·intro h; try exact na h
   all_goals
    refine nx ?_
    refine rt (leafE 19 b) ?_
    repeat' first | (refine lf hK (leafE 19 b) ?_; clear hK K') | with_reducible apply And.intro | exact sd | exact sde (leafE 19 b) | exact sdp (leafE 19 b) | refine stk (leafE 19 b) ?_ | fail
    all_goals
     refine cn ?_ ?_
     ·intro h; try exact na h
      all_goals
       refine rg ΦW19_ok [4] (leafE 19 b) ?_
       refine nx ?_
       refine rt (leafE 19 b) ?_
       repeat' first | (refine lfL hK (leafE 19 b) ?_; clear hK K') | with_reducible apply And.intro | exact sd | exact sde (leafE 19 b) | exact sdp (leafE 19 b) | refine stk (leafE 19 b) ?_ | fail
       all_goals
        refine nx ?_
        refine rt (leafE 19 b) ?_
        refine yc ?_
        refine rg ΦW19_ok [2, 6, 28] (leafE 19 b) ?_
        refine cn ?_ ?_
        ·exact fun h => na h
        intro h
        have hv : ¬ b.all prt8 = true := by
         rcases hRc with h | h
         ·omega
         ·rw [h.2]; decide
        have h4 : R = 4 := by rcases hRc with h | h <;> omega
        have hy := And.intro h4 (And.intro (if_neg hv : (if b.all prt8 = true then 0 else 4 : Int) = 4) (if_neg hv : (if b.all prt8 = true then -1 else 0 : Int) = 0))
        refine dT ΦW19_ok (.alt 0 (.alt 1 (.alt 2 (.alt 3 .stop .done) .done) (.alt 2 (.alt 1 (.alt 3 .stop .done) .done) .done)) (.alt 1 (.alt 0 (.alt 2 (.alt 3 .stop .done) .done) .done) .done)) [2, 3] (leafE 19 b) ?_
        refine nx ?_
        refine pureK_r (pureS_one (l := 20) (by simp -implicitDefEqProofs only [go_sem]) ?_)
        first
        | exact fz hy
     ·exact fun h => na h
  ·intro h; try exact na h
   all_goals
    refine rgL ΦW19_ok (leafE 19 b) ?_
    refine nx ?_
    refine rt (leafE 19 b) ?_
    repeat' first | (refine lf hK (leafE 19 b) ?_; clear hK K') | with_reducible apply And.intro | exact sd | exact sde (leafE 19 b) | exact sdp (leafE 19 b) | refine stk (leafE 19 b) ?_ | fail
    all_goals
     refine cn ?_ ?_
     ·exact fun h => na h
     intro h
     refine rg ΦW19_ok [0, 1, 14, 15] (leafE 19 b) ?_
     refine nx ?_
     refine VC.loopS (ι := Unit) [0, 1, 14, 15] (fun _ => []) (fun _ => []) (fun _ => True) (fun _ => 0) () trivial ?_ ?_
     ·refine Ent.to rfl rfl rfl ?_ ?_
      ·simp -implicitDefEqProofs only [go_sem]; (try simp only [D.dat.injEq, Vm.Data.int.injEq, true_and, and_true, and_self, eq_self]); (try omega); (try ((repeat' apply And.intro) <;> first | omega | rfl))
      ·apply all_at
       ·(repeat' (first | exact all_nil | (refine all_cons ?_ ?_))) <;> (simp -implicitDefEqProofs only [go_sem]; (try rfl); skip)
       ·(repeat' (first | exact all_nil | (refine all_cons ?_ ?_))) <;> (simp -implicitDefEqProofs only [go_sem]; (try rfl); skip)
     intro i hp; (try dsimp only at hp)
     refine st0 ?_
     refine rg ΦW19_ok [0, 1, 14, 15, 16] (leafE 19 b) ?_
     refine cn ?_ ?_
     ·exact fun h => na h
     intro h
     refine rg ΦW19_ok [4] (leafE 19 b) ?_
     refine nx ?_
     refine rt (leafE 19 b) ?_
     repeat' first | (refine lfL hK (leafE 19 b) ?_; clear hK K') | with_reducible apply And.intro | exact sd | exact sde (leafE 19 b) | exact sdp (leafE 19 b) | refine stk (leafE 19 b) ?_ | fail
     all_goals
      refine nx ?_
      refine rt (leafE 19 b) ?_
      refine ya ?_
      refine rg ΦW19_ok [2, 6, 28] (leafE 19 b) ?_
      refine cn ?_ ?_
      ·intro h; try exact na h
       all_goals
        have hv : b.all prt8 = true := by
         rcases hRc with h | h
         ·exact h.2
         ·omega
        have hy := And.intro (if_pos hv : (if b.all prt8 = true then 0 else 4 : Int) = 0) (if_pos hv : (if b.all prt8 = true then -1 else 0 : Int) = -1)
        refine rg ΦW19_ok [2, 3] (leafE 19 b) ?_
        refine nx ?_
        refine pureK_r (pureS_one (l := 20) (by simp -implicitDefEqProofs only [go_sem]) ?_)
        first
        | exact fz hy
      ·exact fun h => na h)
noncomputable def ΦK19 : Fns := tab [(158, wrong19F)]
theorem ΦK19_ok : Sound E ΦK19 := sound_cons (by kernel_rfl) wrong19_ok (sound_nil)
@[go_sem] theorem ΦK19_r : ΦK19 158 = some wrong19F := rfl
@[go_sem] noncomputable def check19F : PFn := PF [SNp 19] (fun (b : List UInt8) => b.length ≤ 4611686018427387904) (fun (b : List UInt8) => [.int .i64 (if b.all prt8 then 0 else 110)])
theorem check19_ok : Pure E 116 check19F := Pure.of_sig (rs := [.tmp 2]) (n := 12) Tryz.func116 rfl rfl rfl (Nat.le_of_ble_eq_true rfl) (by
 intro (b : List UInt8) hds
 refine st0 ?_
 refine rg ΦK19_ok [1] (leafE 19 b) ?_
 refine rg ΦK19_ok [3] (leafE 19 b) ?_
 refine rg ΦK19_ok [11] (leafE 19 b) ?_
 refine cn ?_ ?_
 ·intro h; try exact nd h
  all_goals
   have hy : (if b.all prt8 = true then 0 else 110 : Int) = 110 := if_neg (by intro hv; rw [if_pos hv] at *; simp_all)
   refine rg ΦK19_ok [2] (leafE 19 b) ?_
   first
   | exact fz hy
 ·intro h; try exact nd h
  all_goals
   have hy : (if b.all prt8 = true then 0 else 110 : Int) = 0 := if_pos (by cases hv : b.all prt8 <;> simp_all)
   refine rg ΦK19_ok [2] (leafE 19 b) ?_
   first
   | exact fz hy)
end Go.Proofs.YtpajpkbipagjpaaGreatDoor.Oc
namespace Go.Proofs.YtpajpkbipagjpaaGreatDoor.Oc
open Go Go.RowKit Go.Proofs.YtpajpkbipagjpaaGreatDoor.Vm Go.Proofs.YtpajpkbipagjpaaGreatDoor.Tr Go.IntWalk
set_option maxRecDepth 100000
set_option maxHeartbeats 4000000
@[go_sem] noncomputable def cnt12F : PFn := PF [SNp 12] (fun (b : List UInt8) => True) (fun (b : List UInt8) => [.int .i64 1, .int .i64 1])
theorem cnt12_ok : Pure E 209 cnt12F := Pure.of_sig (rs := [.tmp 2, .tmp 3]) (n := 30) Tryz.func209 rfl rfl rfl (Nat.le_of_ble_eq_true rfl) (by
 intro (b : List UInt8) hds
 refine st0 ?_
 refine rg sound_nil [1] (leafE 12 b) ?_
 refine rg sound_nil [1, 2, 3] (leafE 12 b) ?_
 refine rg sound_nil [2, 3, 9, 10, 11] (leafE 12 b) ?_
 refine nx ?_
 refine VC.loopP (ι := Unit) [2, 3, 10, 11] (fun i => []) (fun _ => []) (fun i => True) (fun i => 0) () (trivial) (et) ?_
 rintro u hp; try dsimp only at hp
 refine st0 ?_
 refine rg sound_nil [2, 3, 9, 10, 11, 12] (leafE 12 b) ?_
 refine cn ?_ ?_
 ·exact fun h => nd h
 intro h
 refine rg sound_nil [2, 3] (leafE 12 b) ?_
 first
 | exact fz trivial)
noncomputable def ΦW12 : Fns := tab [(209, cnt12F), (211, brk12F)]
theorem ΦW12_ok : Sound E ΦW12 := sound_cons (by kernel_rfl) cnt12_ok (sound_cons (by kernel_rfl) brk12_ok (sound_nil))
@[go_sem] theorem ΦW12_r : ΦW12 209 = some cnt12F ∧ ΦW12 211 = some brk12F ∧ ΦW12 210 = none ∧ ΦW12 251 = none := ⟨rfl, rfl, rfl, rfl⟩
@[go_sem] theorem ΦW12_c : callable Tryz.prog 210 = true ∧ callable Tryz.prog 251 = true := ⟨by kernel_rfl, by kernel_rfl⟩
@[go_sem] noncomputable def wrong12F : PFn := PF [SNp 12] (fun (b : List UInt8) => b.length ≤ 4611686018427387904) (fun (b : List UInt8) => [.int .i64 (if validB b then 0 else 4), .int .i64 (if validB b then -1 else 0)])
theorem wrong12_ok : Pure E 158 wrong12F := Pure.of_sig (rs := [.cell 2 3, .tmp 3]) (n := 31) Tryz.func158 rfl rfl rfl (Nat.le_of_ble_eq_true rfl) (by
 intro (b : List UInt8) hds
 obtain ⟨R, hR, hRc⟩ : ∃ R : Int, (if validB b = true then 0 else 4 : Int) = R ∧ (R = 0 ∧ validB b = true ∨ R = 4 ∧ validB b = false) := ⟨_, rfl, by cases validB b <;> simp⟩
 refine st0 ?_
 refine rg ΦW12_ok [1, 2, 7] (leafE 12 b) ?_
 refine rg ΦW12_ok [1, 2, 4, 5, 7] (leafE 12 b) ?_
 refine rg ΦW12_ok [1, 2, 4, 7, 13] (leafE 12 b) ?_
 refine cn ?_ ?_
 ·exact fun h => na h
 intro h
 refine rg ΦW12_ok [1, 2, 7, 16] (leafE 12 b) ?_
 refine cn ?_ ?_
 ·exact fun h => na h
 intro h
 refine rg ΦW12_ok [1, 2, 6, 7] (leafE 12 b) ?_
 refine rB ΦW12_ok [2, 6, 7, 19] (leafE 12 b) fun K' hK => ?_
 repeat' first | with_reducible apply And.intro | exact sd | exact sde (leafE 12 b) | exact sdp (leafE 12 b) | refine stk (leafE 12 b) ?_ | fail
 refine ec (rs := [.tmp 2]) (n := 4) Tryz.func210 rfl rfl rfl ?_
 refine rg ΦW12_ok [1] trivial ?_
 refine rg ΦW12_ok [2] trivial ?_
 refine nx ?_
 refine rt (leafE 12 b) ?_
 repeat' first | (refine lf hK (leafE 12 b) ?_; clear hK K') | with_reducible apply And.intro | exact sd | exact sde (leafE 12 b) | exact sdp (leafE 12 b) | refine stk (leafE 12 b) ?_ | fail
 all_goals
  refine nx ?_
  refine re (rs := []) (n := 6) 20 21 Tryz.func250 rfl rfl rfl fun A B hA hB => ?_
  refine rBL ΦW12_ok  (leafE 12 b) fun K' hK => ?_
  repeat' first | with_reducible apply And.intro | exact sd | exact sde (leafE 12 b) | exact sdp (leafE 12 b) | refine stk (leafE 12 b) ?_ | fail
  refine ec (rs := [.tmp 4]) (n := 28) Tryz.func251 rfl rfl rfl ?_
  refine rg ΦW12_ok [0, 1] (leafE 12 b) ?_
  refine rB ΦW12_ok [0, 1, 9] (leafE 12 b) fun K' hK => ?_
  repeat' first | with_reducible apply And.intro | exact sd | exact sde (leafE 12 b) | exact sdp (leafE 12 b) | refine stk (leafE 12 b) ?_ | fail
  refine yd hA ?_
  refine rgL ΦW12_ok (leafE 12 b) ?_
  refine nx ?_
  refine yb hB ?_
  refine rg ΦW12_ok [2, 6] (And.intro hR (leafE 12 b)) ?_
  refine rg ΦW12_ok [2, 6, 24] (leafE 12 b) ?_
  refine cn ?_ ?_
  ·intro h; try exact na h
   all_goals
    refine nx ?_
    refine rt (leafE 12 b) ?_
    repeat' first | (refine lf hK (leafE 12 b) ?_; clear hK K') | with_reducible apply And.intro | exact sd | exact sde (leafE 12 b) | exact sdp (leafE 12 b) | refine stk (leafE 12 b) ?_ | fail
    all_goals
     refine cn ?_ ?_
     ·intro h; try exact na h
      all_goals
       refine rg ΦW12_ok [4] (leafE 12 b) ?_
       refine nx ?_
       refine rt (leafE 12 b) ?_
       repeat' first | (refine lfL hK (leafE 12 b) ?_; clear hK K') | with_reducible apply And.intro | exact sd | exact sde (leafE 12 b) | exact sdp (leafE 12 b) | refine stk (leafE 12 b) ?_ | fail
       all_goals
        refine nx ?_
        refine rt (leafE 12 b) ?_
        refine yc ?_
        refine rg ΦW12_ok [2, 6, 28] (leafE 12 b) ?_
        refine cn ?_ ?_
        ·exact fun h => na h
        intro h
        have hv : ¬ validB b = true := by
         rcases hRc with h | h
         ·omega
         ·rw [h.2]; decide
        have h4 : R = 4 := by rcases hRc with h | h <;> omega
        have hy := And.intro h4 (And.intro (if_neg hv : (if validB b = true then 0 else 4 : Int) = 4) (if_neg hv : (if validB b = true then -1 else 0 : Int) = 0))
        refine dT ΦW12_ok (.alt 0 (.alt 1 (.alt 2 (.alt 3 .stop .done) .done) (.alt 2 (.alt 1 (.alt 3 .stop .done) .done) .done)) (.alt 1 (.alt 0 (.alt 2 (.alt 3 .stop .done) .done) .done) .done)) [2, 3] (leafE 12 b) ?_
        refine nx ?_
        refine pureK_r (pureS_one (l := 20) (by simp -implicitDefEqProofs only [go_sem]) ?_)
        first
        | exact fz hy
     ·exact fun h => na h
  ·intro h; try exact na h
   all_goals
    refine rgL ΦW12_ok (leafE 12 b) ?_
    refine nx ?_
    refine rt (leafE 12 b) ?_
    repeat' first | (refine lf hK (leafE 12 b) ?_; clear hK K') | with_reducible apply And.intro | exact sd | exact sde (leafE 12 b) | exact sdp (leafE 12 b) | refine stk (leafE 12 b) ?_ | fail
    all_goals
     refine cn ?_ ?_
     ·exact fun h => na h
     intro h
     refine rg ΦW12_ok [0, 1, 14, 15] (leafE 12 b) ?_
     refine nx ?_
     refine VC.loopS (ι := Unit) [0, 1, 14, 15] (fun _ => []) (fun _ => []) (fun _ => True) (fun _ => 0) () trivial ?_ ?_
     ·refine Ent.to rfl rfl rfl ?_ ?_
      ·simp -implicitDefEqProofs only [go_sem]; (try simp only [D.dat.injEq, Vm.Data.int.injEq, true_and, and_true, and_self, eq_self]); (try omega); (try ((repeat' apply And.intro) <;> first | omega | rfl))
      ·apply all_at
       ·(repeat' (first | exact all_nil | (refine all_cons ?_ ?_))) <;> (simp -implicitDefEqProofs only [go_sem]; (try rfl); skip)
       ·(repeat' (first | exact all_nil | (refine all_cons ?_ ?_))) <;> (simp -implicitDefEqProofs only [go_sem]; (try rfl); skip)
     intro i hp; (try dsimp only at hp)
     refine st0 ?_
     refine rg ΦW12_ok [0, 1, 14, 15, 16] (leafE 12 b) ?_
     refine cn ?_ ?_
     ·exact fun h => na h
     intro h
     refine rg ΦW12_ok [4] (leafE 12 b) ?_
     refine nx ?_
     refine rt (leafE 12 b) ?_
     repeat' first | (refine lfL hK (leafE 12 b) ?_; clear hK K') | with_reducible apply And.intro | exact sd | exact sde (leafE 12 b) | exact sdp (leafE 12 b) | refine stk (leafE 12 b) ?_ | fail
     all_goals
      refine nx ?_
      refine rt (leafE 12 b) ?_
      refine ya ?_
      refine rg ΦW12_ok [2, 6, 28] (leafE 12 b) ?_
      refine cn ?_ ?_
      ·intro h; try exact na h
       all_goals
        have hv : validB b = true := by
         rcases hRc with h | h
         ·exact h.2
         ·omega
        have hy := And.intro (if_pos hv : (if validB b = true then 0 else 4 : Int) = 0) (if_pos hv : (if validB b = true then -1 else 0 : Int) = -1)
        refine rg ΦW12_ok [2, 3] (leafE 12 b) ?_
        refine nx ?_
        refine pureK_r (pureS_one (l := 20) (by simp -implicitDefEqProofs only [go_sem]) ?_)
        first
        | exact fz hy
      ·exact fun h => na h)
noncomputable def ΦK12 : Fns := tab [(158, wrong12F)]
theorem ΦK12_ok : Sound E ΦK12 := sound_cons (by kernel_rfl) wrong12_ok (sound_nil)
@[go_sem] theorem ΦK12_r : ΦK12 158 = some wrong12F := rfl
@[go_sem] noncomputable def check12F : PFn := PF [SNp 12] (fun (b : List UInt8) => b.length ≤ 4611686018427387904) (fun (b : List UInt8) => [.int .i64 (if validB b then 0 else 110)])
theorem check12_ok : Pure E 116 check12F := Pure.of_sig (rs := [.tmp 2]) (n := 12) Tryz.func116 rfl rfl rfl (Nat.le_of_ble_eq_true rfl) (by
 intro (b : List UInt8) hds
 refine st0 ?_
 refine rg ΦK12_ok [1] (leafE 12 b) ?_
 refine rg ΦK12_ok [3] (leafE 12 b) ?_
 refine rg ΦK12_ok [11] (leafE 12 b) ?_
 refine cn ?_ ?_
 ·intro h; try exact nd h
  all_goals
   have hy : (if validB b = true then 0 else 110 : Int) = 110 := if_neg (by intro hv; rw [if_pos hv] at *; simp_all)
   refine rg ΦK12_ok [2] (leafE 12 b) ?_
   first
   | exact fz hy
 ·intro h; try exact nd h
  all_goals
   have hy : (if validB b = true then 0 else 110 : Int) = 0 := if_pos (by cases hv : validB b <;> simp_all)
   refine rg ΦK12_ok [2] (leafE 12 b) ?_
   first
   | exact fz hy)
end Go.Proofs.YtpajpkbipagjpaaGreatDoor.Oc
namespace Go.Proofs.YtpajpkbipagjpaaGreatDoor.Oc
open Go Go.RowKit Go.Proofs.YtpajpkbipagjpaaGreatDoor.Vm Go.Proofs.YtpajpkbipagjpaaGreatDoor.Tr Go.IntWalk
set_option maxRecDepth 100000
set_option maxHeartbeats 4000000
def lbN (x : Bool × List UInt8) : T := primT (if x.1 then 19 else 12) x.2
theorem lbN_inj {a b : Bool × List UInt8} (h : nodeC (lbN a) = nodeC (lbN b)) : a = b := by
 have := nodeC_inj h
 unfold lbN primT at this
 obtain ⟨p, s⟩ := a
 obtain ⟨q, t⟩ := b
 injection this with _ h1 _ h2
 cases p <;> cases q <;> simp_all
@[reducible] def SLb : Sig := ⟨Bool × List UInt8, fun x => .agg (nodeC (lbN x)), fun _ _ h => by injection h with h; exact lbN_inj h⟩
@[go_sem] theorem SLb_enc {x : Bool × List UInt8} : SLb.enc x = .agg (nodeC (lbN x)) := rfl
theorem SLb_dec (r : Rd) : SLb.dec (.agg [.int .i64 (labelT r).cls, .int .i64 (labelT r).tag, .bool (labelT r).cons, .lst (bytesD (labelT r).bytes), .lst (nodesD (labelT r).kids)]) = some (r.print, r.text) := by
 have := SLb.dec_enc (r.print, r.text)
 rw [SLb_enc] at this
 rwa [show lbN (r.print, r.text) = labelT r from rfl, nodeC_eq] at this
@[go_sem] theorem ap_SLb {β : Type} {z : β} {ss : List Sig} {ds : List Vm.Data} {f : Fun (SLb :: ss) β} {r : Rd} : ap z (SLb :: ss) f (.agg [.int .i64 (labelT r).cls, .int .i64 (labelT r).tag, .bool (labelT r).cons, .lst (bytesD (labelT r).bytes), .lst (nodesD (labelT r).kids)] :: ds) = ap z ss (f (r.print, r.text)) ds := by
 rw [ap_cons, SLb_dec, apO_some]
theorem Pure.of_label {f : Nat} {R : Bool × List UInt8 → List Vm.Data} (h12 : Pure E f (PF [SNp 12] (fun b : List UInt8 => b.length ≤ 4611686018427387904) (fun b : List UInt8 => R (false, b)))) (h19 : Pure E f (PF [SNp 19] (fun b : List UInt8 => b.length ≤ 4611686018427387904) (fun b : List UInt8 => R (true, b)))) :
 Pure E f (PF [SLb] (fun x : Bool × List UInt8 => x.2.length ≤ 4611686018427387904) (fun x : Bool × List UInt8 => R x)) := by
 intro w J args ds hJ hG hR hpre
 have key : allS (fun ds r => ∃ p, Pure E f p ∧ p.pre ds ∧ p.res ds = r) [SLb] (fun x : Bool × List UInt8 => x.2.length ≤ 4611686018427387904) (fun x : Bool × List UInt8 => R x) id := by
  rintro ⟨p, b⟩ hb
  cases p with
  | false =>
    refine ⟨_, h12, ?_, ?_⟩
    ·show ap False [SNp 12] _ [(SNp 12).enc b]
     rw [ap_cons, Sig.dec_enc, apO_some]; exact hb
    ·show ap [] [SNp 12] _ [(SNp 12).enc b] = _
     rw [ap_cons, Sig.dec_enc, apO_some]; rfl
  | true =>
    refine ⟨_, h19, ?_, ?_⟩
    ·show ap False [SNp 19] _ [(SNp 19).enc b]
     rw [ap_cons, Sig.dec_enc, apO_some]; exact hb
    ·show ap [] [SNp 19] _ [(SNp 19).enc b] = _
     rw [ap_cons, Sig.dec_enc, apO_some]; rfl
 obtain ⟨p, hp, h1, h2⟩ := allS_ok (z := []) _ _ _ id key ds hpre
 rw [PF_res, ← h2]
 exact hp w J args ds hJ hG hR h1
@[go_sem] noncomputable def checkLF : PFn := PF [SLb] (fun x : Bool × List UInt8 => x.2.length ≤ 4611686018427387904) (fun x : Bool × List UInt8 => [.int .i64 (if fits2 x.1 x.2 then 0 else 110)])
theorem checkL_ok : Pure E 116 checkLF := Pure.of_label (R := fun x => [.int .i64 (if fits2 x.1 x.2 then 0 else 110)]) check12_ok check19_ok
noncomputable def ΦLB : Fns := tab [(61, cprimF)]
theorem ΦLB_ok : Sound E ΦLB := sound_cons (by kernel_rfl) cprim_ok (sound_nil)
@[go_sem] theorem ΦLB_r : ΦLB 61 = some cprimF := rfl
@[go_sem] noncomputable def clabelF : PFn := PF [SR] (fun (x : Rd) => x.text.length ≤ 90000) (fun (x : Rd) => [nodeD (labelT x)])
theorem clabel_ok : Pure E 80 clabelF := Pure.of_sig (rs := [.cell 2 25]) (n := 13) Tryz.func80 rfl rfl rfl (Nat.le_of_ble_eq_true rfl) (by
 intro (x : Rd) hds
 refine st0 ?_
 refine rg ΦLB_ok [1, 2] trivial ?_
 refine rg ΦLB_ok [1, 2, 4] trivial ?_
 refine cn ?_ ?_
 ·intro h; try exact nd h
  all_goals
   have hp : x.print = true := by simp_all
   have hy : labelT x = primT 19 x.text := by unfold labelT; rw [hp]; rfl
   refine rg ΦLB_ok [2] trivial ?_
   first
   | exact fz hy
 ·intro h; try exact nd h
  all_goals
   have hp : x.print = false := by simp_all
   have hy : labelT x = primT 12 x.text := by unfold labelT; rw [hp]; rfl
   refine rg ΦLB_ok [2] trivial ?_
   first
   | exact fz hy)
end Go.Proofs.YtpajpkbipagjpaaGreatDoor.Oc
namespace Go.Proofs.YtpajpkbipagjpaaGreatDoor.Oc
open Go Go.RowKit Go.Proofs.YtpajpkbipagjpaaGreatDoor.Vm Go.Proofs.YtpajpkbipagjpaaGreatDoor.Tr Go.IntWalk
set_option maxRecDepth 100000
set_option maxHeartbeats 4000000
theorem part_no {x : Rd} (h : x.kind < 1 ∨ 3 < x.kind ∨ (x.text.length : Int) = 0 ∨ 64 < (x.text.length : Int)) : partB x = false := by
 unfold partB
 rw [decide_eq_false (by omega), Bool.false_and]
theorem part_mid {x : Rd} (h1 : ¬ x.kind < 1) (h2 : ¬ 3 < x.kind) (h3 : ¬ (x.text.length : Int) = 0) (h4 : ¬ 64 < (x.text.length : Int)) : partB x = (fits2 x.print x.text && decide (¬ x.kind = 3 ∨ x.print = true ∧ x.text.length = 2)) := by
 unfold partB
 rw [decide_eq_true (by omega), Bool.true_and]
noncomputable def ΦPRT : Fns := tab [(80, clabelF), (116, checkLF)]
theorem ΦPRT_ok : Sound E ΦPRT := sound_cons (by kernel_rfl) clabel_ok (sound_cons (by kernel_rfl) checkL_ok (sound_nil))
@[go_sem] theorem ΦPRT_r : ΦPRT 80 = some clabelF ∧ ΦPRT 116 = some checkLF := ⟨rfl, rfl⟩
@[go_sem] noncomputable def cpartF : PFn := PF [SR] (fun (x : Rd) => x.text.length ≤ 2000000) (fun (x : Rd) => [.bool (partB x)])
theorem cpart_ok : Pure E 78 cpartF := Pure.of_sig (rs := [.tmp 2]) (n := 42) Tryz.func78 rfl rfl rfl (Nat.le_of_ble_eq_true rfl) (by
 intro (x : Rd) hds
 refine st0 ?_
 refine rg ΦPRT_ok [1] trivial ?_
 refine rB ΦPRT_ok [1, 22] trivial fun K' hK => ?_
 repeat' first | (refine lf hK trivial ?_; clear hK K') | with_reducible apply And.intro | refine sA trivial (fun _ => ?_) fun _ => ?_ | refine sAb trivial (fun _ => ?_) fun _ => ?_ | refine sAl trivial (fun g => ?_) fun g => ?_ | exact sd | exact sde trivial | exact sdp trivial | refine stk trivial ?_ | fail
 all_goals
  refine cn ?_ ?_
  ·intro h; try exact nd h
   all_goals
    have hy := part_no (x := x) (by (try simp only [Bool.not_eq_eq_eq_not, Bool.not_true, Bool.not_false, decide_eq_false_iff_not, decide_eq_true_eq] at *); omega)
    refine rg ΦPRT_ok [2] trivial ?_
    exact fz hy
  ·intro h; try exact nd h
   all_goals
    have hm := part_mid (x := x) (by (try simp only [Bool.not_eq_eq_eq_not, Bool.not_true, Bool.not_false, decide_eq_false_iff_not, decide_eq_true_eq] at *); omega) (by (try simp only [Bool.not_eq_eq_eq_not, Bool.not_true, Bool.not_false, decide_eq_false_iff_not, decide_eq_true_eq] at *); omega) (by (try simp only [Bool.not_eq_eq_eq_not, Bool.not_true, Bool.not_false, decide_eq_false_iff_not, decide_eq_true_eq] at *); omega) (by (try simp only [Bool.not_eq_eq_eq_not, Bool.not_true, Bool.not_false, decide_eq_false_iff_not, decide_eq_true_eq] at *); omega)
    refine rB ΦPRT_ok [2] trivial fun K' hK => ?_
    repeat' first | (refine lf hK trivial ?_; clear hK K') | with_reducible apply And.intro | refine sA trivial (fun _ => ?_) fun _ => ?_ | refine sAb trivial (fun _ => ?_) fun _ => ?_ | refine sAl trivial (fun g => ?_) fun g => ?_ | exact sd | exact sde trivial | exact sdp trivial | refine stk trivial ?_ | fail
    all_goals
     refine fi trivial ?_
     rw [hm]
     cases hv : fits2 x.print x.text
     ·simp_all
     ·first
      | (simp_all; done)
      | (simp_all; omega)
      | (simp_all; rw [decide_eq_decide]; omega))
end Go.Proofs.YtpajpkbipagjpaaGreatDoor.Oc
namespace Go.Proofs.YtpajpkbipagjpaaGreatDoor.Oc
open Go Go.RowKit Go.Proofs.YtpajpkbipagjpaaGreatDoor.Vm Go.Proofs.YtpajpkbipagjpaaGreatDoor.Tr Go.IntWalk
set_option maxRecDepth 100000
set_option maxHeartbeats 4000000
def okTo (n : List Rd) (i : Nat) : Prop := ∀ j, j < i → partB (n.getD j Rd.zero) = true
theorem nm_no {n : List Rd} (h : n.length < 1 ∨ 8 < n.length) : nameT n = T.zero ∧ nameE n = 200 := by
 have : nameOk n = false := by unfold nameOk; rw [decide_eq_false (by omega), Bool.false_and]
 exact ⟨by unfold nameT; rw [this]; rfl, by unfold nameE; rw [this]; rfl⟩
theorem nm_bad {n : List Rd} {i : Nat} (hi : i < n.length) (h : partB (n.getD i Rd.zero) = false) : nameT n = T.zero ∧ nameE n = 200 := by
 have hm : n.getD i Rd.zero ∈ n := by rw [List.getD_eq_getElem?_getD, List.getElem?_eq_getElem hi]; exact List.getElem_mem hi
 have : nameOk n = false := by
  unfold nameOk
  cases ha : n.all partB with
  | false => rw [Bool.and_false]
  | true => rw [List.all_eq_true.1 ha _ hm] at h; cases h
 exact ⟨by unfold nameT; rw [this]; rfl, by unfold nameE; rw [this]; rfl⟩
theorem nm_ok {n : List Rd} (h1 : 1 ≤ n.length ∧ n.length ≤ 8) (h : ∀ j, j < n.length → partB (n.getD j Rd.zero) = true) : nameT n = seqT (n.map rdnT) ∧ nameE n = 0 := by
 have : nameOk n = true := by
  unfold nameOk
  rw [decide_eq_true h1, Bool.true_and, List.all_eq_true]
  intro x hx
  obtain ⟨j, hj, rfl⟩ := List.mem_iff_getElem.1 hx
  have := h j hj
  rwa [List.getD_eq_getElem?_getD, List.getElem?_eq_getElem hj] at this
 exact ⟨by unfold nameT; rw [this]; rfl, by unfold nameE; rw [this]; rfl⟩
theorem rdn_take {n : List Rd} {i : Nat} (hi : i < n.length) : (n.take i).map rdnT ++ [rdnT (n.getD i Rd.zero)] = (n.take (i + 1)).map rdnT := by
 rw [List.take_add_one, List.map_append, List.getD_eq_getElem?_getD, List.getElem?_eq_getElem hi]; rfl
theorem rdn_all {n : List Rd} {i : Nat} (h : n.length ≤ i) : (n.take i).map rdnT = n.map rdnT := by rw [List.take_of_length_le h]
def nmB (n : List Rd) : Prop := n.length ≤ 4611686018427387904 ∧ ∀ j, (n.getD j Rd.zero).text.length ≤ 2000000
theorem rdnT_sz {r : Rd} (h : r.text.length ≤ 64) : (rdnT r).sz ≤ 300 := by
 have := namedB_len (kindN r.kind)
 unfold rdnT labelT
 simp only [sz_set, sz_seq, T.szs_cons, sz_prim, T.szs_nil]
 omega
theorem part_len {r : Rd} (h : partB r = true) : r.text.length ≤ 64 ∧ 1 ≤ r.kind ∧ r.kind ≤ 3 := by
 unfold partB at h
 simp only [Bool.and_eq_true, decide_eq_true_eq] at h
 exact ⟨h.1.2.2.2, h.1.1, h.1.2.1⟩
theorem szs_rdn : ∀ (l : List Rd), (∀ r ∈ l, partB r = true) → T.szs (l.map rdnT) ≤ 300 * l.length
 | [], _ => by simp [T.szs_nil]
 | r :: l, h => by
   have h1 := rdnT_sz (part_len (h r (by simp))).1
   have h2 := szs_rdn l fun x hx => h x (by simp [hx])
   rw [List.map_cons, T.szs_cons, List.length_cons]; omega
theorem szs_take {n : List Rd} {i : Nat} (h8 : n.length ≤ 8) (h : okTo n i) (hi : i ≤ n.length) : T.szs ((n.take i).map rdnT) ≤ 2400 := by
 have h1 := szs_rdn (n.take i) fun r hr => by
  obtain ⟨j, hj, rfl⟩ := List.mem_iff_getElem.1 hr
  rw [List.length_take] at hj
  have := h j (by omega)
  rw [List.getElem_take]
  rwa [List.getD_eq_getElem?_getD, List.getElem?_eq_getElem (by omega)] at this
 rw [List.length_take] at h1
 omega
end Go.Proofs.YtpajpkbipagjpaaGreatDoor.Oc
namespace Go.Proofs.YtpajpkbipagjpaaGreatDoor.Oc
open Go Go.RowKit Go.Proofs.YtpajpkbipagjpaaGreatDoor.Vm Go.Proofs.YtpajpkbipagjpaaGreatDoor.Tr Go.IntWalk
set_option maxRecDepth 100000
set_option maxHeartbeats 4000000
theorem kE {k : Int} (h : 1 ≤ k ∧ k ≤ 3) : (kindsD.drop (k.toNat * 1)).take 1 = [.str (kindN k)] := by
 have : k = 1 ∨ k = 2 ∨ k = 3 := by omega
 rcases this with rfl | rfl | rfl <;> rfl
theorem kL : kindsD.length = 4 := rfl
theorem rdnC (r : Rd) : nodeC (rdnT r) = [.int .i64 0, .int .i64 17, .bool true, .lst (bytesD []), .lst (nodesD [seqT [primT 6 (namedB (kindN r.kind)), labelT r]])] := by unfold rdnT setT; rw [nodeC]
theorem rdn_row {l : List T} {r : Rd} : nodesD l ++ [[.int .i64 0, .int .i64 17, .bool true, .lst (bytesD []), .lst (nodesD [seqT [primT 6 (namedB (kindN r.kind)), labelT r]])]] = nodesD (l ++ [rdnT r]) := by
 rw [← nodesD_append, show nodesD [rdnT r] = [nodeC (rdnT r)] by rw [nodesD_cons, nodesD_nil], rdnC]
theorem label_sz {r : Rd} (h : partB r = true) : (labelT r).sz ≤ 69 := by
 have := (part_len h).1
 unfold labelT
 rw [sz_prim]; omega
noncomputable def ΦBN : Fns := tab [(78, cpartF), (80, clabelF), (59, cnamedF), (62, cseqF), (79, consF)]
theorem ΦBN_ok : Sound E1 ΦBN := sound_cons (by kernel_rfl) (lift1 cpart_ok) (sound_cons (by kernel_rfl) (lift1 clabel_ok) (sound_cons (by kernel_rfl) (lift1 cnamed_ok) (sound_cons (by kernel_rfl) (lift1 cseq_ok) (sound_cons (by kernel_rfl) (lift1 cons_ok) (sound_nil)))))
@[go_sem] theorem ΦBN_r : ΦBN 78 = some cpartF ∧ ΦBN 80 = some clabelF ∧ ΦBN 59 = some cnamedF ∧ ΦBN 62 = some cseqF ∧ ΦBN 79 = some consF := ⟨rfl, rfl, rfl, rfl, rfl⟩
@[go_sem] noncomputable def bname_1F : PFn := PF [SRs] (fun (n : List Rd) => nmB n) (fun (n : List Rd) => [nodeD (nameT n), .int .i64 (nameE n)])
theorem bname_1_ok : Pure E1 21 bname_1F := Pure.of_sig (rs := [.cell 2 25, .tmp 3]) (n := 43) Tryz.func21 rfl rfl rfl (Nat.le_of_ble_eq_true rfl) (by
 intro (n : List Rd) hds
 obtain ⟨hnl, htx⟩ := hds
 refine st0 ?_
 refine rg ΦBN_ok [0, 2] szE ?_
 refine rB ΦBN_ok [0, 2, 14] szE fun K' hK => ?_
 repeat' first | (refine lf hK szE ?_; clear hK K') | with_reducible apply And.intro | refine sA szE (fun _ => ?_) fun _ => ?_ | refine sAb szE (fun _ => ?_) fun _ => ?_ | refine sAl szE (fun g => ?_) fun g => ?_ | exact sd | exact sde szE | exact sdp szE | refine stk szE ?_ | fail
 all_goals
  refine cn ?_ ?_
  ·intro h; try exact nd h
   all_goals
    have hy := And.intro (nm_no (n := n) (by first | exact .inl (by omega) | exact .inr (by omega))) zeroE
    refine rg ΦBN_ok [2, 3] szE ?_
    first
    | (rw [← hlx] at hy; exact fz hy)
    | exact fz hy
    | (rw [← hlx] at hy; exact fz hy)
  ·intro h; try exact nd h
   all_goals
    refine rg ΦBN_ok [0, 2, 4] szE ?_
    refine rg ΦBN_ok [2, 4, 16, 17, 18] szE ?_
    refine nx ?_
    refine VC.loopP (ι := Nat × List T) [0, 2, 16, 17] (fun z => [(4, .sl 2 0 z.2.length), (18, .dat (.int .i64 (z.1 : Int)))]) (fun z => [(1, .cells [.dat (.int .i64 0), .dat (.int .i64 0), .dat (.bool false), .nilsl, .nilsl] false), (2, .arr 25 5 (nodesD z.2) 0)]) (fun z => z.1 ≤ n.length ∧ okTo n z.1 ∧ z.2 = (n.take z.1).map rdnT) (fun z => n.length - z.1) (0, []) ⟨Nat.zero_le _, (fun j hj => absurd hj (Nat.not_lt_zero _)), rfl⟩ ?_ ?_
    ·refine (Ent.nilT 4 2 25 5 (by decide) (by simp -implicitDefEqProofs only [go_sem]) (by simp -implicitDefEqProofs only [go_sem])).trans (Ent.to rfl rfl rfl ?_ ?_)
     ·simp -implicitDefEqProofs only [go_sem]; (try simp only [D.dat.injEq, Vm.Data.int.injEq, true_and, and_true, and_self, eq_self]); (try omega); (try ((repeat' apply And.intro) <;> first | omega | rfl))
     ·(repeat' (first | exact all_nil | (refine all_cons ?_ ?_))) <;> (simp -implicitDefEqProofs only [go_sem]; (try rfl); (try rw [nodesD_nil]))
    rintro ⟨i, l⟩ hp; (try dsimp only at hp); obtain ⟨hi, hok, hl⟩ := hp
    have hll : l.length = i := by rw [hl, List.length_map, List.length_take]; omega
    have hsz : T.szs l ≤ 2400 := by rw [hl]; exact szs_take (by omega) hok hi
    refine st0 ?_
    refine rg ΦBN_ok [0, 2, 4, 16, 17, 18, 19] szE ?_
    refine cn ?_ ?_
    ·intro h; try exact nd h
     all_goals
      have ri := rdsD_at (l := n) (k := i) (by omega)
      have hti := htx i
      refine rg ΦBN_ok [0, 2, 4, 6, 16, 17, 18] ri ?_
      refine rg ΦBN_ok [0, 2, 4, 6, 16, 17, 18, 24] szE ?_
      refine cn ?_ ?_
      ·intro h; try exact nd h
       all_goals
        have hy := And.intro (nm_bad (n := n) (i := i) (by omega) (by simp_all)) zeroE
        refine rg ΦBN_ok [2, 3] szE ?_
        first
        | (rw [← hlx] at hy; exact fz hy)
        | exact fz hy
        | (rw [← hlx] at hy; exact fz hy)
      ·intro h; try exact nd h
       all_goals
        have hpt : partB (n.getD i Rd.zero) = true := by simp_all
        have hpl := part_len hpt
        have hk := kE hpl.2
        have hlb := namedB_len (kindN (n.getD i Rd.zero).kind)
        have hls := label_sz hpt
        refine rdL ΦBN_ok 13 (And.intro hk (And.intro kL szE)) ?_
        refine rgL ΦBN_ok szE ?_
        refine nx ?_
        refine ⟨(i + 1, l ++ [rdnT (n.getD i Rd.zero)]), ⟨by dsimp only; omega, fun j hj => ?_, by dsimp only; rw [hl]; exact rdn_take (by omega)⟩, Ent.to rfl rfl rfl ?_ ?_, by dsimp only; omega⟩
        ·rcases Nat.lt_succ_iff_lt_or_eq.1 hj with hj | rfl
         ·exact hok j hj
         ·exact hpt
        ·simp -implicitDefEqProofs only [go_sem]; (try simp only [List.length_append, List.length_cons, List.length_nil]); (try simp only [D.dat.injEq, Vm.Data.int.injEq, true_and, and_true, and_self, eq_self]); (try omega); (try ((repeat' apply And.intro) <;> first | omega | rfl))
        ·(repeat' (first | exact all_nil | (refine all_cons ?_ ?_))) <;> (simp -implicitDefEqProofs only [go_sem]; (try rfl); (try simp only [rdn_row]))
    ·intro h; try exact nd h
     all_goals
      have hy := nm_ok (n := n) (by omega) (fun j hj => hok j (by omega))
      have hlx : l = n.map rdnT := hl.trans (rdn_all (by omega))
      refine rg ΦBN_ok [2, 3] szE ?_
      first
      | (rw [← hlx] at hy; exact fz hy)
      | exact fz hy
      | (rw [← hlx] at hy; exact fz hy))
end Go.Proofs.YtpajpkbipagjpaaGreatDoor.Oc
namespace Go.Proofs.YtpajpkbipagjpaaGreatDoor.Oc
open Go Go.RowKit Go.Proofs.YtpajpkbipagjpaaGreatDoor.Vm Go.Proofs.YtpajpkbipagjpaaGreatDoor.Tr Go.IntWalk
set_option maxRecDepth 100000
set_option maxHeartbeats 4000000
end Go.Proofs.YtpajpkbipagjpaaGreatDoor.Oc
