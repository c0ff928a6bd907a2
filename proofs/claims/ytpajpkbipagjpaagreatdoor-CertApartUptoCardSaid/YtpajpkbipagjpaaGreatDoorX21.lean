/- What functions of the program, of its library and of the document compute: their contracts, and laws about what they compute (X21). No condition. -/
import Derived.Test.YtpajpkbipagjpaaGreatDoorX20
import Derived.Test.YtpajpkbipagjpaaGreatDoorX15
import Derived.Test.YtpajpkbipagjpaaGreatDoorX07
import Derived.Test.YtpajpkbipagjpaaGreatDoorX09
import Derived.Test.YtpajpkbipagjpaaGreatDoorRows
import Derived.WalkKit
import Derived.ProofKit
import Derived.OpenShut
import Derived.LaidLaws
import Derived.Lib.LaidTab
set_option linter.unusedVariables false
set_option linter.unusedSimpArgs false
namespace Go.Proofs.YtpajpkbipagjpaaGreatDoor.Oc
open Go Go.RowKit Go.Proofs.YtpajpkbipagjpaaGreatDoor.Vm Go.Proofs.YtpajpkbipagjpaaGreatDoor.Tr Go.IntWalk
set_option maxRecDepth 100000
set_option maxHeartbeats 4000000
theorem pair_all (k : Ky) : (pairT k).all = [pairT k, natT k.n, natT k.e] := by
 rw [T.all_eq]
 show pairT k :: T.alls [natT k.n, natT k.e] = _
 rw [T.alls_cons, T.alls_cons, T.alls_nil, T.all_eq, T.all_eq]
 rfl
theorem pair_fit {k : Ky} (hn : wholeB k.n = true) (he : wholeB k.e = true) : fitT (pairT k) = true := by
 unfold fitT
 rw [pair_all, Bool.and_eq_true]
 refine ⟨decide_eq_true ⟨?_, ?_⟩, ?_⟩
 ·exact Nat.le_of_ble_eq_true rfl
 ·exact Nat.le_of_ble_eq_true rfl
 ·simp only [List.all_cons, List.all_nil, Bool.and_true, Bool.and_eq_true, decide_eq_true_eq]
  exact ⟨brk_seq _, brk_nat hn, brk_nat he⟩
theorem pair_dsz {k : Ky} (hn : wholeB k.n = true) (he : wholeB k.e = true) : dszE (pairT k) = 0 := by
 have h1 := whole_pos hn
 have h2 := whole_pos he
 have hs := pair_sz k
 have hl := (enc_le (t := pairT k) (by omega)).1
 unfold dszE
 rw [if_pos (pair_fit hn he), if_neg (by omega)]
theorem key_inj {k m : Ky} (hn : wholeB k.n = true) (he : wholeB k.e = true) (hn' : wholeB m.n = true) (he' : wholeB m.e = true) (h : keyT k = keyT m) : k.n = m.n ∧ k.e = m.e := by
 unfold keyT seqT bitT primT at h
 simp only [T.mk.injEq, List.cons.injEq, true_and, and_true] at h
 rw [denc_t (pair_dsz hn he), denc_t (pair_dsz hn' he')] at h
 have p1 := whole_pos hn
 have p2 := whole_pos he
 have p3 := whole_pos hn'
 have p4 := whole_pos he'
 have l1 := numB_len k.n
 have l2 := numB_len k.e
 have l3 := numB_len m.n
 have l4 := numB_len m.e
 have s1 := pair_sz k
 have s2 := pair_sz m
 have c1 := (enc_le (t := pairT k) (by omega)).2
 have c2 := (enc_le (t := pairT m) (by omega)).2
 rw [encT_eq, encT_eq] at h
 injection h with _ h
 obtain ⟨_, h⟩ := lenB_pre (by omega) (by omega) h
 have e1 : ∀ k : Ky, (pairT k).bytes ++ encsT (pairT k).kids = encT (primT 2 (numB k.n)) ++ (encT (primT 2 (numB k.e)) ++ []) := by
  intro k
  show [] ++ encsT [natT k.n, natT k.e] = _
  rw [encsT_cons, encsT_cons, encsT_nil]; rfl
 rw [e1 k, e1 m] at h
 obtain ⟨h1, h⟩ := encP_pre (by omega) (by omega) h
 obtain ⟨h2, _⟩ := encP_pre (by omega) (by omega) h
 exact ⟨numB_inj hn hn' h1, numB_inj he he' h2⟩
theorem ext_inj {x y : Ex} (h : extT x = extT y) : x = y := by
 obtain ⟨o1, c1, v1⟩ := x
 obtain ⟨o2, c2, v2⟩ := y
 unfold extT seqT at h
 simp only [T.mk.injEq, true_and] at h
 cases c1 <;> cases c2 <;> simp [primT] at h
 ·obtain ⟨rfl, rfl⟩ := h; rfl
 ·obtain ⟨rfl, rfl⟩ := h; rfl
theorem exts_inj : ∀ {l m : List Ex}, l.map extT = m.map extT → l = m
 | [], [], _ => rfl
 | [], _ :: _, h => by cases h
 | _ :: _, [], h => by cases h
 | x :: l, y :: m, h => by
   injection h with h1 h2
   rw [ext_inj h1, exts_inj h2]
theorem may_parts {c : Ce} (h : mayB c = true) : wholeB c.key.n = true ∧ wholeB c.key.e = true ∧ c.key.d = [] := by
 unfold mayB at h
 simp only [Bool.and_eq_true, decide_eq_true_eq] at h
 obtain ⟨_, _, h1, h2, h3, _⟩ := h
 exact ⟨h1, h2, List.eq_nil_of_length_eq_zero h3⟩
theorem sign_inj {w q w' q' : Int} (h1 : signE w q = 0) (h2 : signE w' q' = 0) (h : signT w q = signT w' q') : w = w' ∧ q = q' := by
 rcases sg_back w q with ⟨_, _, a1, a2⟩ | ⟨a, _⟩
 ·rcases sg_back w' q' with ⟨_, _, b1, b2⟩ | ⟨b, _⟩
  ·rw [h] at a1 a2; exact ⟨a1.symm.trans b1, a2.symm.trans b2⟩
  ·omega
 ·omega
theorem name_inj {n m : List Rd} (h1 : nameE n = 0) (h2 : nameE m = 0) (h : nameT n = nameT m) : n = m := by
 rcases nm_back n with ⟨_, _, a⟩ | ⟨a, _⟩
 ·rcases nm_back m with ⟨_, _, b⟩ | ⟨b, _⟩
  ·rw [h] at a; exact a.symm.trans b
  ·omega
 ·omega
theorem part_inj {c d : Ce} (hc : madeOk c) (hd : madeOk d) (h : partT c = partT d) : c.ser = d.ser ∧ c.way = d.way ∧ c.hash = d.hash ∧ c.iss = d.iss ∧ c.frm = d.frm ∧ c.til = d.til ∧ c.sub = d.sub ∧ c.key = d.key ∧ c.exts = d.exts := by
 obtain ⟨c1, c2, c3, c4⟩ := hc
 obtain ⟨d1, d2, d3, d4⟩ := hd
 obtain ⟨ct1, ct2, _⟩ := may_times c4
 obtain ⟨dt1, dt2, _⟩ := may_times d4
 obtain ⟨cw1, cw2, cw3⟩ := may_parts c4
 obtain ⟨dw1, dw2, dw3⟩ := may_parts d4
 unfold partT at h
 injection h with _ _ _ _ h
 obtain ⟨h1, h2⟩ := List.append_inj h rfl
 have hx : c.exts = d.exts := by
  by_cases hc0 : 0 < c.exts.length
  ·rw [if_pos hc0] at h2
   by_cases hd0 : 0 < d.exts.length
   ·rw [if_pos hd0] at h2
    injection h2 with h2 _
    injection h2 with _ _ _ _ h2
    injection h2 with h2 _
    injection h2 with _ _ _ _ h2
    exact exts_inj h2
   ·rw [if_neg hd0] at h2; cases h2
  ·rw [if_neg hc0] at h2
   by_cases hd0 : 0 < d.exts.length
   ·rw [if_pos hd0] at h2; cases h2
   ·rw [List.eq_nil_of_length_eq_zero (show c.exts.length = 0 by omega), List.eq_nil_of_length_eq_zero (show d.exts.length = 0 by omega)]
 unfold partL at h1
 simp only [List.cons.injEq, and_true] at h1
 obtain ⟨_, g1, g2, g3, g4, g5, g6⟩ := h1
 injection g1 with _ _ _ g1 _
 obtain ⟨s1, s2⟩ := sign_inj c1 d1 g2
 have n1 := name_inj c2 d2 g3
 have n2 := name_inj c3 d3 g5
 injection g4 with _ _ _ _ g4
 simp only [List.cons.injEq, and_true] at g4
 have t1 := when_inj ct1 dt1 g4.1
 have t2 := when_inj ct2 dt2 g4.2
 obtain ⟨k1, k2⟩ := key_inj cw1 cw2 dw1 dw2 g6
 have hk : c.key = d.key := by
  cases hck : c.key; cases hdk : d.key
  rw [hck] at k1 k2 cw3; rw [hdk] at k1 k2 dw3
  simp only at k1 k2 cw3 dw3
  rw [k1, k2, cw3, dw3]
 exact ⟨g1, s1, s2, n1, t1, t2, n2, hk, hx⟩
theorem all_inj {c d : Ce} (hc : madeE c = 0) (hd : madeE d = 0) : allR c = allR d ↔ c = d := by
 constructor
 ·intro h
  have oc : madeOk c := by
   by_cases o : madeOk c
   ·exact o
   ·rw [(made_n o).1] at hc; exact absurd hc (by decide)
  have od : madeOk d := by
   by_cases o : madeOk d
   ·exact o
   ·rw [(made_n o).1] at hd; exact absurd hd (by decide)
  unfold allR at h
  rw [if_pos hc, if_pos hd] at h
  unfold allT at h
  injection h with _ _ _ _ h
  simp only [List.cons.injEq, and_true] at h
  obtain ⟨h1, _, h3⟩ := h
  injection h3 with _ _ _ h3 _
  injection h3 with _ h3
  obtain ⟨a1, a2, a3, a4, a5, a6, a7, a8, a9⟩ := part_inj oc od h1
  cases c; cases d
  simp only at *
  subst_vars
  rfl
 ·rintro rfl; rfl
end Go.Proofs.YtpajpkbipagjpaaGreatDoor.Oc
namespace Go.Proofs.YtpajpkbipagjpaaGreatDoor.Oc
open Go Go.RowKit Go.Proofs.YtpajpkbipagjpaaGreatDoor.Vm Go.Proofs.YtpajpkbipagjpaaGreatDoor.Tr Go.IntWalk
set_option maxRecDepth 100000
set_option maxHeartbeats 4000000
def exSum : List Ex → Nat
 | [] => 0
 | x :: l => 10 + x.oid.length + x.val.length + exSum l
def rdSum : List Rd → Nat
 | [] => 0
 | x :: l => 10 + x.text.length + rdSum l
theorem exSum_app : ∀ a b, exSum (a ++ b) = exSum a + exSum b
 | [], b => by simp [exSum]
 | x :: a, b => by rw [List.cons_append, exSum, exSum, exSum_app a b]; omega
theorem rdSum_app : ∀ a b, rdSum (a ++ b) = rdSum a + rdSum b
 | [], b => by simp [rdSum]
 | x :: a, b => by rw [List.cons_append, rdSum, rdSum, rdSum_app a b]; omega
theorem exSum_next {l : List Ex} {i : Nat} (h : i < l.length) : exSum (l.take (i + 1)) = exSum (l.take i) + (10 + (l.getD i Ex.zero).oid.length + (l.getD i Ex.zero).val.length) := by
 rw [List.take_add_one, List.getElem?_eq_getElem h, exSum_app, List.getD_eq_getElem?_getD, List.getElem?_eq_getElem h]; rfl
theorem rdSum_next {l : List Rd} {i : Nat} (h : i < l.length) : rdSum (l.take (i + 1)) = rdSum (l.take i) + (10 + (l.getD i Rd.zero).text.length) := by
 rw [List.take_add_one, List.getElem?_eq_getElem h, rdSum_app, List.getD_eq_getElem?_getD, List.getElem?_eq_getElem h]; rfl
theorem exSum_le {l : List Ex} (h : ∀ j, (l.getD j Ex.zero).oid.length ≤ 140737488355328 ∧ (l.getD j Ex.zero).val.length ≤ 140737488355328) : ∀ i, i ≤ l.length → exSum (l.take i) ≤ 281474976710666 * i
 | 0, _ => by rw [List.take_zero]; exact Nat.le_refl _
 | i + 1, hi => by have := exSum_le h i (by omega); have := h i; rw [exSum_next (by omega)]; omega
theorem rdSum_le {l : List Rd} (h : ∀ j, (l.getD j Rd.zero).text.length ≤ 140737488355328) : ∀ i, i ≤ l.length → rdSum (l.take i) ≤ 140737488355338 * i
 | 0, _ => by rw [List.take_zero]; exact Nat.le_refl _
 | i + 1, hi => by have := rdSum_le h i (by omega); have := h i; rw [rdSum_next (by omega)]; omega
theorem take_100 {α : Type} {l : List α} {i : Nat} (h : i ≤ l.length) (h1 : i ≤ 100) (h2 : ¬ ((i : Int) < (l.length : Int) ∧ (i : Int) < 100)) : l.take i = l.take 100 := by
 rcases (show i = 100 ∨ i = l.length by omega) with rfl | rfl
 ·rfl
 ·rw [List.take_length, List.take_of_length_le h1]
theorem exSum_100 {l : List Ex} (h : ∀ j, (l.getD j Ex.zero).oid.length ≤ 140737488355328 ∧ (l.getD j Ex.zero).val.length ≤ 140737488355328) : exSum (l.take 100) ≤ 28147497671066600 := by
 rcases Nat.le_total l.length 100 with h1 | h1
 ·have := exSum_le h l.length (Nat.le_refl _)
  rw [List.take_length] at this
  rw [List.take_of_length_le h1]; omega
 ·have := exSum_le h 100 h1; omega
theorem rdSum_100 {l : List Rd} (h : ∀ j, (l.getD j Rd.zero).text.length ≤ 140737488355328) : rdSum (l.take 100) ≤ 14073748835533800 := by
 rcases Nat.le_total l.length 100 with h1 | h1
 ·have := rdSum_le h l.length (Nat.le_refl _)
  rw [List.take_length] at this
  rw [List.take_of_length_le h1]; omega
 ·have := rdSum_le h 100 h1; omega
def base0 (c : Ce) : Nat := c.ser.length + c.key.n.length + c.key.e.length + c.key.d.length + c.sig.length
def sumC (c : Ce) : Nat := base0 c + exSum (c.exts.take 100) + rdSum (c.iss.take 100) + rdSum (c.sub.take 100)
def greatN (c : Ce) : Int := if 3000 < sumC c ∨ 100 < c.exts.length ∨ 100 < c.iss.length ∨ 100 < c.sub.length then 1 else 0
theorem great_y {c : Ce} (h : 3000 < (sumC c : Int) ∨ 100 < (c.exts.length : Int) ∨ 100 < (c.iss.length : Int) ∨ 100 < (c.sub.length : Int)) : greatN c = 1 := if_pos (by omega)
theorem great_n {c : Ce} (h : ¬ (3000 < (sumC c : Int) ∨ 100 < (c.exts.length : Int) ∨ 100 < (c.iss.length : Int) ∨ 100 < (c.sub.length : Int))) : greatN c = 0 := if_neg (by omega)
def grB (c : Ce) : Prop := c.ser.length ≤ 140737488355328 ∧ c.key.n.length ≤ 140737488355328 ∧ c.key.e.length ≤ 140737488355328 ∧ c.key.d.length ≤ 140737488355328 ∧ c.sig.length ≤ 140737488355328 ∧ (∀ j, (c.exts.getD j Ex.zero).oid.length ≤ 140737488355328 ∧ (c.exts.getD j Ex.zero).val.length ≤ 140737488355328) ∧ (∀ j, (c.iss.getD j Rd.zero).text.length ≤ 140737488355328) ∧ (∀ j, (c.sub.getD j Rd.zero).text.length ≤ 140737488355328)
@[go_sem] noncomputable def greatF : PFn := PF [SCe] (fun (c : Ce) => grB c) (fun (c : Ce) => [.int .i64 (greatN c)])
theorem great_ok : Pure E 31 greatF := Pure.of_sig (rs := [.tmp 2]) (n := 120) Tryz.func31 rfl rfl rfl (Nat.le_of_ble_eq_true rfl) (by
 intro (c : Ce) hds
 obtain ⟨hb1, hb2, hb3, hb4, hb5, he, hs1, hs2⟩ := hds
 have hb0 : base0 c = c.ser.length + c.key.n.length + c.key.e.length + c.key.d.length + c.sig.length := rfl
 have hB2 := exSum_100 he
 have hB3 := rdSum_100 hs1
 have hsc : sumC c = base0 c + exSum (c.exts.take 100) + rdSum (c.iss.take 100) + rdSum (c.sub.take 100) := rfl
 refine st0 ?_
 refine rg sound_nil [1] trivial ?_
 refine rg sound_nil [1, 3] trivial ?_
 refine rg sound_nil [1, 3, 4] trivial ?_
 refine nx ?_
 refine VC.loopP (ι := Nat) [1] (fun i => [(3, .dat (.int .i64 ((base0 c + exSum (c.exts.take i) : Nat) : Int))), (4, .dat (.int .i64 (i : Int)))]) (fun _ => [(1, .cells [.dat (.lst (bytesD c.ser)), .dat (.int .i64 c.way), .dat (.int .i64 c.hash), .dat (.lst (rdsD c.iss)), .dat (.int .i64 c.frm), .dat (.int .i64 c.til), .dat (.lst (rdsD c.sub)), .dat (.lst (bytesD c.key.n)), .dat (.lst (bytesD c.key.e)), .dat (.lst (bytesD c.key.d)), .dat (.lst (exsD c.exts)), .dat (.lst (bytesD c.sig))] false)]) (fun i => i ≤ c.exts.length ∧ i ≤ 100) (fun i => c.exts.length - i) 0 ⟨Nat.zero_le _, Nat.zero_le _⟩ ?_ ?_
 ·refine Ent.to rfl rfl rfl ?_ ?_
  ·simp -implicitDefEqProofs only [go_sem]; (try simp only [List.take_zero, exSum, rdSum, Nat.add_zero]); (try unfold base0); (try simp only [D.dat.injEq, Vm.Data.int.injEq, true_and, and_true, and_self, eq_self]); (try omega); (try ((repeat' apply And.intro) <;> first | omega | rfl))
  ·(repeat' (first | exact all_nil | (refine all_cons ?_ ?_))) <;> (simp -implicitDefEqProofs only [go_sem]; (try rfl); skip)
 intro i hp; (try dsimp only at hp); obtain ⟨hi, hi1⟩ := hp
 have hle := exSum_le he i hi
 refine st0 ?_
 refine rB sound_nil [1, 3, 4, 37] trivial fun K' hK => ?_
 repeat' first | (refine lf hK trivial ?_; clear hK K') | with_reducible apply And.intro | refine sA trivial (fun _ => ?_) fun _ => ?_ | refine sAb trivial (fun _ => ?_) fun _ => ?_ | refine sAl trivial (fun g => ?_) fun g => ?_ | exact sd | exact sde trivial | exact sdp trivial | refine stk trivial ?_ | fail
 all_goals
  refine cn ?_ ?_
  ·intro h; try exact na h
   all_goals
    have hxe := exsD_at (l := c.exts) (k := i) (by omega)
    have hxb := he i
    refine rdL sound_nil 18 hxe ?_
    refine rgL sound_nil trivial ?_
    refine nx ?_
    have hnx := exSum_next (l := c.exts) (i := i) (by omega)
    refine ⟨i + 1, ⟨by omega, by omega⟩, Ent.to rfl rfl rfl ?_ ?_, by omega⟩
    ·rw [hnx]; simp -implicitDefEqProofs only [go_sem]; (try simp (disch := omega) only [i64_in, tmodn, tdivn]); (try simp only [D.dat.injEq, Vm.Data.int.injEq, true_and, and_true, and_self, eq_self]); (try omega); (try ((repeat' apply And.intro) <;> first | omega | rfl))
    ·(repeat' (first | exact all_nil | (refine all_cons ?_ ?_))) <;> (simp -implicitDefEqProofs only [go_sem]; (try rfl); skip)
  ·intro h; try exact na h
   all_goals
    have ht1 := take_100 (l := c.exts) (i := i) (by omega) (by omega) (by omega)
    rw [ht1]
    clear ht1 hle
    refine rg sound_nil [1, 3, 5] trivial ?_
    refine nx ?_
    refine VC.loopP (ι := Nat) [1] (fun i => [(3, .dat (.int .i64 (((base0 c + exSum (c.exts.take 100)) + rdSum (c.iss.take i) : Nat) : Int))), (5, .dat (.int .i64 (i : Int)))]) (fun _ => [(1, .cells [.dat (.lst (bytesD c.ser)), .dat (.int .i64 c.way), .dat (.int .i64 c.hash), .dat (.lst (rdsD c.iss)), .dat (.int .i64 c.frm), .dat (.int .i64 c.til), .dat (.lst (rdsD c.sub)), .dat (.lst (bytesD c.key.n)), .dat (.lst (bytesD c.key.e)), .dat (.lst (bytesD c.key.d)), .dat (.lst (exsD c.exts)), .dat (.lst (bytesD c.sig))] false)]) (fun i => i ≤ c.iss.length ∧ i ≤ 100) (fun i => c.iss.length - i) 0 ⟨Nat.zero_le _, Nat.zero_le _⟩ ?_ ?_
    ·refine Ent.to rfl rfl rfl ?_ ?_
     ·simp -implicitDefEqProofs only [go_sem]; (try simp only [List.take_zero, exSum, rdSum, Nat.add_zero]); (try unfold base0); (try simp only [D.dat.injEq, Vm.Data.int.injEq, true_and, and_true, and_self, eq_self]); (try omega); (try ((repeat' apply And.intro) <;> first | omega | rfl))
     ·(repeat' (first | exact all_nil | (refine all_cons ?_ ?_))) <;> (simp -implicitDefEqProofs only [go_sem]; (try rfl); skip)
    intro i hp; (try dsimp only at hp); obtain ⟨hi, hi1⟩ := hp
    have hle := rdSum_le hs1 i hi
    refine st0 ?_
    refine rB sound_nil [1, 3, 5, 66] trivial fun K' hK => ?_
    repeat' first | (refine lf hK trivial ?_; clear hK K') | with_reducible apply And.intro | refine sA trivial (fun _ => ?_) fun _ => ?_ | refine sAb trivial (fun _ => ?_) fun _ => ?_ | refine sAl trivial (fun g => ?_) fun g => ?_ | exact sd | exact sde trivial | exact sdp trivial | refine stk trivial ?_ | fail
    all_goals
     refine cn ?_ ?_
     ·intro h; try exact na h
      all_goals
       have hxe := rdsD_at (l := c.iss) (k := i) (by omega)
       have hxb := hs1 i
       refine rgL sound_nil hxe ?_
       refine rgL sound_nil trivial ?_
       refine nx ?_
       have hnx := rdSum_next (l := c.iss) (i := i) (by omega)
       refine ⟨i + 1, ⟨by omega, by omega⟩, Ent.to rfl rfl rfl ?_ ?_, by omega⟩
       ·rw [hnx]; simp -implicitDefEqProofs only [go_sem]; (try simp (disch := omega) only [i64_in, tmodn, tdivn]); (try simp only [D.dat.injEq, Vm.Data.int.injEq, true_and, and_true, and_self, eq_self]); (try omega); (try ((repeat' apply And.intro) <;> first | omega | rfl))
       ·(repeat' (first | exact all_nil | (refine all_cons ?_ ?_))) <;> (simp -implicitDefEqProofs only [go_sem]; (try rfl); skip)
     ·intro h; try exact na h
      all_goals
       have ht1 := take_100 (l := c.iss) (i := i) (by omega) (by omega) (by omega)
       rw [ht1]
       clear ht1 hle
       refine rg sound_nil [1, 3, 6] trivial ?_
       refine nx ?_
       refine VC.loopP (ι := Nat) [1] (fun i => [(3, .dat (.int .i64 (((base0 c + exSum (c.exts.take 100) + rdSum (c.iss.take 100)) + rdSum (c.sub.take i) : Nat) : Int))), (6, .dat (.int .i64 (i : Int)))]) (fun _ => [(1, .cells [.dat (.lst (bytesD c.ser)), .dat (.int .i64 c.way), .dat (.int .i64 c.hash), .dat (.lst (rdsD c.iss)), .dat (.int .i64 c.frm), .dat (.int .i64 c.til), .dat (.lst (rdsD c.sub)), .dat (.lst (bytesD c.key.n)), .dat (.lst (bytesD c.key.e)), .dat (.lst (bytesD c.key.d)), .dat (.lst (exsD c.exts)), .dat (.lst (bytesD c.sig))] false)]) (fun i => i ≤ c.sub.length ∧ i ≤ 100) (fun i => c.sub.length - i) 0 ⟨Nat.zero_le _, Nat.zero_le _⟩ ?_ ?_
       ·refine Ent.to rfl rfl rfl ?_ ?_
        ·simp -implicitDefEqProofs only [go_sem]; (try simp only [List.take_zero, exSum, rdSum, Nat.add_zero]); (try unfold base0); (try simp only [D.dat.injEq, Vm.Data.int.injEq, true_and, and_true, and_self, eq_self]); (try omega); (try ((repeat' apply And.intro) <;> first | omega | rfl))
        ·(repeat' (first | exact all_nil | (refine all_cons ?_ ?_))) <;> (simp -implicitDefEqProofs only [go_sem]; (try rfl); skip)
       intro i hp; (try dsimp only at hp); obtain ⟨hi, hi1⟩ := hp
       have hle := rdSum_le hs2 i hi
       refine st0 ?_
       refine rB sound_nil [1, 3, 6, 87] trivial fun K' hK => ?_
       repeat' first | (refine lf hK trivial ?_; clear hK K') | with_reducible apply And.intro | refine sA trivial (fun _ => ?_) fun _ => ?_ | refine sAb trivial (fun _ => ?_) fun _ => ?_ | refine sAl trivial (fun g => ?_) fun g => ?_ | exact sd | exact sde trivial | exact sdp trivial | refine stk trivial ?_ | fail
       all_goals
        refine cn ?_ ?_
        ·intro h; try exact na h
         all_goals
          have hxe := rdsD_at (l := c.sub) (k := i) (by omega)
          have hxb := hs2 i
          refine rgL sound_nil hxe ?_
          refine rgL sound_nil trivial ?_
          refine nx ?_
          have hnx := rdSum_next (l := c.sub) (i := i) (by omega)
          refine ⟨i + 1, ⟨by omega, by omega⟩, Ent.to rfl rfl rfl ?_ ?_, by omega⟩
          ·rw [hnx]; simp -implicitDefEqProofs only [go_sem]; (try simp (disch := omega) only [i64_in, tmodn, tdivn]); (try simp only [D.dat.injEq, Vm.Data.int.injEq, true_and, and_true, and_self, eq_self]); (try omega); (try ((repeat' apply And.intro) <;> first | omega | rfl))
          ·(repeat' (first | exact all_nil | (refine all_cons ?_ ?_))) <;> (simp -implicitDefEqProofs only [go_sem]; (try rfl); skip)
        ·intro h; try exact na h
         all_goals
          have ht1 := take_100 (l := c.sub) (i := i) (by omega) (by omega) (by omega)
          rw [ht1]
          clear ht1 hle
          refine rB sound_nil [119] trivial fun K' hK => ?_
          repeat' first | (refine lf hK trivial ?_; clear hK K') | with_reducible apply And.intro | refine sA trivial (fun _ => ?_) fun _ => ?_ | refine sAb trivial (fun _ => ?_) fun _ => ?_ | refine sAl trivial (fun g => ?_) fun g => ?_ | exact sd | exact sde trivial | exact sdp trivial | refine stk trivial ?_ | fail
          all_goals
           refine cn ?_ ?_
           ·intro h; try exact na h
            all_goals
             have hy := great_y (c := c) (by omega)
             refine rg sound_nil [2] trivial ?_
             first
             | exact fz hy
           ·intro h; try exact na h
            all_goals
             have hy := great_n (c := c) (by omega)
             refine rg sound_nil [2] trivial ?_
             first
             | exact fz hy)
end Go.Proofs.YtpajpkbipagjpaaGreatDoor.Oc
namespace Go.Proofs.YtpajpkbipagjpaaGreatDoor.Oc
open Go Go.RowKit Go.Proofs.YtpajpkbipagjpaaGreatDoor.Vm Go.Proofs.YtpajpkbipagjpaaGreatDoor.Tr Go.IntWalk
set_option maxRecDepth 100000
set_option maxHeartbeats 4000000
theorem exs_eq {l m : List Ex} (hl : l.length = m.length) (h : ∀ j, j < l.length → l.getD j Ex.zero = m.getD j Ex.zero) : l = m := by
 refine List.ext_getElem hl fun j h1 h2 => ?_
 have := h j h1
 rw [List.getD_eq_getElem?_getD, List.getD_eq_getElem?_getD, List.getElem?_eq_getElem h1, List.getElem?_eq_getElem h2] at this
 exact this
theorem ex_ext {x y : Ex} (h1 : x.oid = y.oid) (h2 : x.crit = y.crit) (h3 : x.val = y.val) : x = y := by cases x; cases y; simp_all
theorem same_last {a b : Ce} (h0 : a.exts = b.exts) (h1 : a.iss = b.iss) (h2 : a.sub = b.sub) (h3 : a.key.n = b.key.n) (h4 : a.key.e = b.key.e) (h5 : a.key.d = b.key.d) (h6 : a.ser = b.ser) (h7 : a.way = b.way) (h8 : a.hash = b.hash) (h9 : a.frm = b.frm) (h10 : a.til = b.til) : decide (a = b) = decide (a.sig = b.sig) := by
 congr 1
 simp only [eq_iff_iff]
 constructor
 ·rintro rfl; rfl
 ·intro h
  obtain ⟨_, _, _, _, _, _, _, ⟨_, _, _⟩, _, _⟩ := a
  obtain ⟨_, _, _, _, _, _, _, ⟨_, _, _⟩, _, _⟩ := b
  simp only at *
  subst_vars
  rfl
noncomputable def ΦSm : Fns := tab [(29, rnamesF)]
theorem ΦSm_ok : Sound E ΦSm := sound_cons (by kernel_rfl) rnames_ok (sound_nil)
@[go_sem] theorem ΦSm_r : ΦSm 29 = some rnamesF := rfl
@[go_sem] noncomputable def rsamecF : PFn := PF [SCe, SCe] (fun (a : Ce) (b : Ce) => a.iss.length ≤ 4611686018427387904 ∧ a.sub.length ≤ 4611686018427387904 ∧ a.exts.length ≤ 4611686018427387904 ∧ b.exts.length ≤ 4611686018427387904) (fun (a : Ce) (b : Ce) => [.bool (decide (a = b))])
theorem rsamec_ok : Pure E 34 rsamecF := Pure.of_sig (rs := [.tmp 4]) (n := 152) Tryz.func34 rfl rfl rfl (Nat.le_of_ble_eq_true rfl) (by
 intro (a : Ce) (b : Ce) hds
 obtain ⟨h1, h2, h3, h4⟩ := hds
 refine st0 ?_
 refine rg ΦSm_ok [2, 3] trivial ?_
 refine rg ΦSm_ok [2, 3, 17] trivial ?_
 refine cn ?_ ?_
 ·intro h; try exact na h
  all_goals
   have hy : decide (a = b) = false := decide_eq_false (by rintro rfl; first | omega | (simp_all; done))
   refine rg ΦSm_ok [4] trivial ?_
   first
   | exact fz hy
   | ((try simp only [Bool.not_eq_eq_eq_not, Bool.not_true, Bool.not_false, decide_eq_false_iff_not, decide_eq_true_eq, Decidable.not_not] at *)
      first
      | (have hy := same_last (a := a) (b := b) hexs (by assumption) (by assumption) (by assumption) (by assumption) (by assumption) (by assumption) (by assumption) (by assumption) (by assumption) (by assumption)
         exact fz hy)
      | (have hy : decide (a = b) = false := decide_eq_false (by rintro rfl; simp_all; done)
         exact fz hy))
 ·intro h; try exact na h
  all_goals
   refine rg ΦSm_ok [2, 3, 5] trivial ?_
   refine nx ?_
   refine VC.loopP (ι := Nat) [2, 3] (fun i => [(5, .dat (.int .i64 (i : Int)))]) (fun _ => [(1, .cells [.dat (.lst (bytesD a.ser)), .dat (.int .i64 a.way), .dat (.int .i64 a.hash), .dat (.lst (rdsD a.iss)), .dat (.int .i64 a.frm), .dat (.int .i64 a.til), .dat (.lst (rdsD a.sub)), .dat (.lst (bytesD a.key.n)), .dat (.lst (bytesD a.key.e)), .dat (.lst (bytesD a.key.d)), .dat (.lst (exsD a.exts)), .dat (.lst (bytesD a.sig))] false), (2, .cells [.dat (.lst (bytesD b.ser)), .dat (.int .i64 b.way), .dat (.int .i64 b.hash), .dat (.lst (rdsD b.iss)), .dat (.int .i64 b.frm), .dat (.int .i64 b.til), .dat (.lst (rdsD b.sub)), .dat (.lst (bytesD b.key.n)), .dat (.lst (bytesD b.key.e)), .dat (.lst (bytesD b.key.d)), .dat (.lst (exsD b.exts)), .dat (.lst (bytesD b.sig))] false)]) (fun i => i ≤ a.exts.length ∧ ∀ j, j < i → a.exts.getD j Ex.zero = b.exts.getD j Ex.zero) (fun i => a.exts.length - i) 0 ⟨Nat.zero_le _, fun j hj => absurd hj (Nat.not_lt_zero _)⟩ ?_ ?_
   ·refine Ent.to rfl rfl rfl ?_ ?_
    ·simp -implicitDefEqProofs only [go_sem]; (try simp only [D.dat.injEq, Vm.Data.int.injEq, true_and, and_true, and_self, eq_self]); (try omega); (try ((repeat' apply And.intro) <;> first | omega | rfl))
    ·(repeat' (first | exact all_nil | (refine all_cons ?_ ?_))) <;> (simp -implicitDefEqProofs only [go_sem]; (try rfl); skip)
   intro i hp; (try dsimp only at hp); obtain ⟨hi, hq⟩ := hp
   refine st0 ?_
   refine rg ΦSm_ok [2, 3, 5, 22] trivial ?_
   refine cn ?_ ?_
   ·intro h; try exact na h
    all_goals
     have hlen : a.exts.length = b.exts.length := by omega
     have hxa := exsD_at (l := a.exts) (k := i) (by omega)
     have hxb := exsD_at (l := b.exts) (k := i) (by omega)
     refine rg ΦSm_ok [2, 3, 5, 6] hxa ?_
     refine rg ΦSm_ok [2, 3, 5, 6, 7] hxb ?_
     refine rB ΦSm_ok [2, 3, 5, 57] trivial fun K' hK => ?_
     repeat' first | (refine lf hK trivial ?_; clear hK K') | with_reducible apply And.intro | refine sA trivial (fun _ => ?_) fun _ => ?_ | refine sAb trivial (fun _ => ?_) fun _ => ?_ | refine sAl trivial (fun g => ?_) fun g => ?_ | exact sd | exact sde trivial | exact sdp trivial | refine stk trivial ?_ | fail
     all_goals
      refine cn ?_ ?_
      ·intro h; try exact na h
       all_goals
        (try simp only [Bool.not_eq_eq_eq_not, Bool.not_true, Bool.not_false, decide_eq_false_iff_not, decide_eq_true_eq, Decidable.not_not] at *)
        have hy : decide (a = b) = false := decide_eq_false (by rintro rfl; simp_all; done)
        refine rg ΦSm_ok [4] trivial ?_
        first
        | exact fz hy
        | ((try simp only [Bool.not_eq_eq_eq_not, Bool.not_true, Bool.not_false, decide_eq_false_iff_not, decide_eq_true_eq, Decidable.not_not] at *)
           first
           | (have hy := same_last (a := a) (b := b) hexs (by assumption) (by assumption) (by assumption) (by assumption) (by assumption) (by assumption) (by assumption) (by assumption) (by assumption) (by assumption)
              exact fz hy)
           | (have hy : decide (a = b) = false := decide_eq_false (by rintro rfl; simp_all; done)
              exact fz hy))
      ·intro h; try exact na h
       all_goals
        refine rgL ΦSm_ok trivial ?_
        refine nx ?_
        (try simp only [Bool.not_eq_eq_eq_not, Bool.not_true, Bool.not_false, decide_eq_false_iff_not, decide_eq_true_eq, Decidable.not_not] at *)
        have hxy : a.exts.getD i Ex.zero = b.exts.getD i Ex.zero := ex_ext (by assumption) (by assumption) (by assumption)
        refine ⟨i + 1, ⟨by omega, fun j hj => ?_⟩, Ent.to rfl rfl rfl ?_ ?_, by omega⟩
        ·rcases Nat.lt_succ_iff_lt_or_eq.1 hj with hj | rfl
         ·exact hq j hj
         ·exact hxy
        ·simp -implicitDefEqProofs only [go_sem]; (try simp (disch := omega) only [i64_in, tmodn, tdivn]); (try simp only [D.dat.injEq, Vm.Data.int.injEq, true_and, and_true, and_self, eq_self]); (try omega); (try ((repeat' apply And.intro) <;> first | omega | rfl))
        ·(repeat' (first | exact all_nil | (refine all_cons ?_ ?_))) <;> (simp -implicitDefEqProofs only [go_sem]; (try rfl); skip)
   ·intro h; try exact na h
    all_goals
     have hexs : a.exts = b.exts := exs_eq (by omega) (fun j hj => hq j (by omega))
     refine rg ΦSm_ok [2, 3, 8] trivial ?_
     refine rg ΦSm_ok [2, 3, 8, 9] trivial ?_
     refine rB ΦSm_ok [2, 3, 8, 9, 10] trivial fun K' hK => ?_
     repeat' first | (refine lf hK trivial ?_; clear hK K') | with_reducible apply And.intro | refine sA trivial (fun _ => ?_) fun _ => ?_ | refine sAb trivial (fun _ => ?_) fun _ => ?_ | refine sAl trivial (fun g => ?_) fun g => ?_ | exact sd | exact sde trivial | exact sdp trivial | refine stk trivial ?_ | fail
     all_goals
      refine rB ΦSm_ok [4] trivial fun K' hK => ?_
      repeat' first | (refine lf hK trivial ?_; clear hK K') | with_reducible apply And.intro | refine sA trivial (fun _ => ?_) fun _ => ?_ | refine sAb trivial (fun _ => ?_) fun _ => ?_ | refine sAl trivial (fun g => ?_) fun g => ?_ | exact sd | exact sde trivial | exact sdp trivial | refine stk trivial ?_ | fail
      all_goals
       first
       | exact fz hy
       | ((try simp only [Bool.not_eq_eq_eq_not, Bool.not_true, Bool.not_false, decide_eq_false_iff_not, decide_eq_true_eq, Decidable.not_not] at *)
          first
          | (have hy := same_last (a := a) (b := b) hexs (by assumption) (by assumption) (by assumption) (by assumption) (by assumption) (by assumption) (by assumption) (by assumption) (by assumption) (by assumption)
             exact fz hy)
          | (have hy : decide (a = b) = false := decide_eq_false (by rintro rfl; simp_all; done)
             exact fz hy)))
end Go.Proofs.YtpajpkbipagjpaaGreatDoor.Oc
namespace Go.Proofs.YtpajpkbipagjpaaGreatDoor.Oc
open Go Go.RowKit Go.Proofs.YtpajpkbipagjpaaGreatDoor.Vm Go.Proofs.YtpajpkbipagjpaaGreatDoor.Tr Go.IntWalk
set_option maxRecDepth 100000
set_option maxHeartbeats 4000000
theorem exs_sz : ∀ l : List Ex, T.szs (l.map extT) ≤ exSum l + 11 * l.length
 | [] => by rw [List.map_nil, T.szs_nil]; exact Nat.zero_le _
 | x :: l => by
   have ih := exs_sz l
   have hx : (extT x).sz ≤ 21 + x.oid.length + x.val.length := by
    unfold extT
    split <;> (simp only [sz_seq, T.szs_cons, T.szs_nil, sz_prim, List.cons_append, List.nil_append, List.length_cons, List.length_nil]; omega)
   rw [List.map_cons, T.szs_cons, exSum, List.length_cons]
   omega
theorem denc_sz (k : Ky) (h : k.n.length + k.e.length ≤ 3000) : (dencB (pairT k)).length ≤ 3030 := by
 have hs := pair_sz k
 have := (enc_le (t := pairT k) (by omega)).1
 unfold dencB
 split
 ·omega
 ·simp
theorem key_sz2 {k : Ky} (h : k.n.length + k.e.length ≤ 3000) : (keyT k).sz ≤ 3300 := by
 have h1 := namedB_len [114, 115, 97]
 have h2 := denc_sz k h
 have h3 := bit_sz (dencB (pairT k))
 unfold keyT
 simp only [sz_seq, T.szs_cons, T.szs_nil, sz_prim, List.length_nil, h3]
 omega
theorem great_0 {c : Ce} (h : greatN c = 0) : sumC c ≤ 3000 := by
 unfold greatN at h
 split at h
 ·exact absurd h (by decide)
 ·omega
theorem all_small {c : Ce} (hx : c.exts.length ≤ 20) (hs : sumC c ≤ 3000) : ∀ s : List UInt8, s.length ≤ 1000 → (allT { c with sig := s }).sz ≤ 60000 := by
 intro s hl
 have hs1 := signT_sz c.way c.hash
 have hs2 := nameT_sz c.iss
 have hs3 := nameT_sz c.sub
 have hs4 := when_sz c.frm
 have hs5 := when_sz c.til
 have hi2 := intB_len 2
 have hbs := bit_sz s
 unfold sumC base0 at hs
 rw [List.take_of_length_le (show c.exts.length ≤ 100 by omega)] at hs
 have hs6 := key_sz2 (k := c.key) (by omega)
 have hs7 := exs_sz c.exts
 have hL : T.szs (partL c) ≤ 25000 := by
  unfold partL
  simp only [sz_seq, T.szs_cons, T.szs_nil, sz_prim, sz_in]
  omega
 have hp : (partT c).sz ≤ 30000 := by
  unfold partT
  split <;> (simp only [sz_seq, T.szs_append, T.szs_cons, T.szs_nil, sz_in]; omega)
 show (seqT [partT c, signT c.way c.hash, bitT s]).sz ≤ 60000
 simp only [sz_seq, T.szs_cons, T.szs_nil]
 omega
theorem brk_bit (s : List UInt8) : brkN (bitT s) = 0 := by
 have hb : bitsB (0 :: s) = true := by
  unfold bitsB
  split
  ·rename_i h
   exact decide_eq_true ⟨by rw [List.length_cons] at h ⊢; omega, rfl⟩
  ·exact decide_eq_true ⟨by show (0 : Nat) < 8; omega, by show _ % 2 ^ 0 = 0; exact Nat.mod_one _⟩
 have e : contOk (bitT s).tag (bitT s).bytes = true := hb
 rw [brk_p (t := bitT s) (by show ¬ ((0 : Int) < 0 ∨ 3 < (0 : Int) ∨ (3 : Int) < 0 ∨ 30 < (3 : Int)); omega) (by rintro (⟨h, _⟩ | ⟨_, h⟩); exact absurd h (by show ¬ (false = true); decide); exact absurd h (by show ¬ (0 < ((0 : Nat) : Int)); omega)) rfl (by show ¬ ((3 : Int) = 16 ∨ (3 : Int) = 17); omega), if_neg (by rintro (h | h); exact absurd h (by show ¬ (false = true); decide); exact absurd h (by show ¬ (hasFit 3 = false); decide)), if_pos e]
theorem bit_all (s : List UInt8) : (bitT s).all = [bitT s] := by
 rw [T.all_eq]
 show bitT s :: T.alls [] = _
 rw [T.alls_nil]
theorem all_all (p g : T) (s : List UInt8) : (seqT [p, g, bitT s]).all = seqT [p, g, bitT s] :: (p.all ++ (g.all ++ [bitT s])) := by
 rw [T.all_eq]
 show _ :: T.alls [p, g, bitT s] = _
 rw [T.alls_cons, T.alls_cons, T.alls_cons, T.alls_nil, bit_all]; rfl
theorem all_dep (p g : T) (s : List UInt8) : dep (seqT [p, g, bitT s]) = 1 + max (dep p) (max (dep g) (max 1 0)) := by
 rw [dep_eq]
 show 1 + deps [p, g, bitT s] = _
 rw [deps_cons, deps_cons, deps_cons, deps_nil, dep_eq (bitT s)]
 show 1 + max (dep p) (max (dep g) (max (1 + deps []) 0)) = _
 rw [deps_nil]
theorem fit_sig {p g : T} {s s' : List UInt8} (h : fitT (seqT [p, g, bitT s]) = true) : fitT (seqT [p, g, bitT s']) = true := by
 unfold fitT at h ⊢
 rw [all_all, Bool.and_eq_true, List.all_eq_true] at h
 rw [all_all, Bool.and_eq_true, List.all_eq_true]
 obtain ⟨h1, h2⟩ := h
 refine ⟨decide_eq_true ?_, fun x hx => ?_⟩
 ·have := of_decide_eq_true h1
  rw [all_dep] at this ⊢
  simp only [List.length_cons, List.length_append, List.length_nil] at this ⊢
  exact this
 ·rcases List.mem_cons.1 hx with rfl | hx
  ·exact decide_eq_true (brk_seq _)
  ·rcases List.mem_append.1 hx with hx | hx
   ·exact h2 x (List.mem_cons_of_mem _ (List.mem_append_left _ hx))
   ·rcases List.mem_append.1 hx with hx | hx
    ·exact h2 x (List.mem_cons_of_mem _ (List.mem_append_right _ (List.mem_append_left _ hx)))
    ·rw [List.mem_singleton] at hx
     rw [hx]; exact decide_eq_true (brk_bit _)
theorem made_ok {c : Ce} (h : madeE c = 0) : madeOk c ∧ dszE (allT c) = 0 := by
 by_cases o : madeOk c
 ·exact ⟨o, by unfold madeE at h; rw [if_pos o] at h; exact h⟩
 ·rw [(made_n o).1] at h; exact absurd h (by decide)
theorem made_sig {c : Ce} {s : List UInt8} (hg : greatN c = 0) (hs : s.length ≤ 1000) (h : madeE c = 0) : madeE { c with sig := s } = 0 ∧ partR { c with sig := s } = partR c := by
 obtain ⟨o, hd⟩ := made_ok h
 have o' : madeOk { c with sig := s } := o
 obtain ⟨_, _, hx⟩ := may_times o.2.2.2
 have hz := all_small hx (great_0 hg) s hs
 have hl := (enc_le (t := allT { c with sig := s }) (by omega)).1
 have hf : fitT (allT { c with sig := s }) = true := fit_sig (p := partT c) (g := signT c.way c.hash) (s := c.sig) (dszE_0 hd).1
 have hd' : dszE (allT { c with sig := s }) = 0 := by
  unfold dszE
  rw [if_pos hf, if_neg (by omega)]
 have e := (made_y o' hd').1
 refine ⟨e, ?_⟩
 unfold partR
 rw [if_pos e, if_pos h]; rfl
theorem made_kid {c : Ce} (h : madeE c = 0) : (allR c).kids.getD 0 T.zero = partR c ∧ (allR c).kids.length = 3 := by
 unfold allR partR
 rw [if_pos h, if_pos h]
 exact ⟨rfl, rfl⟩
end Go.Proofs.YtpajpkbipagjpaaGreatDoor.Oc
namespace Go.Proofs.YtpajpkbipagjpaaGreatDoor.Oc
open Go Go.RowKit Go.Proofs.YtpajpkbipagjpaaGreatDoor.Vm Go.Proofs.YtpajpkbipagjpaaGreatDoor.Tr Go.IntWalk
set_option maxRecDepth 100000
set_option maxHeartbeats 4000000
noncomputable def ΦPb : Fns := tab [(89, cmade_1F)]
theorem ΦPb_ok : Sound E1 ΦPb := sound_cons (by kernel_rfl) cmade_1_ok (sound_nil)
@[go_sem] theorem ΦPb_r : ΦPb 89 = some cmade_1F := rfl
@[go_sem] noncomputable def cpartc_1F : PFn := PF [SCe] (fun (c : Ce) => ceB c) (fun (c : Ce) => [nodeD (partR c), .int .i64 (madeE c)])
theorem cpartc_1_ok : Pure E1 33 cpartc_1F := Pure.of_sig (rs := [.cell 2 25, .tmp 3]) (n := 15) Tryz.func33 rfl rfl rfl (Nat.le_of_ble_eq_true rfl) (by
 intro (c : Ce) hds
 refine st0 ?_
 refine rg ΦPb_ok [1, 2] trE ?_
 refine rg ΦPb_ok [2, 4, 6] trE ?_
 refine rg ΦPb_ok [2, 3] trE ?_
 exact fz trE)
@[go_sem] noncomputable def cbuild_1F : PFn := PF [SCe] (fun (c : Ce) => ceB c) (fun (c : Ce) => [nodeD (allR c), .int .i64 (madeE c)])
theorem cbuild_1_ok : Pure E1 32 cbuild_1F := Pure.of_sig (rs := [.cell 2 25, .tmp 3]) (n := 15) Tryz.func32 rfl rfl rfl (Nat.le_of_ble_eq_true rfl) (by
 intro (c : Ce) hds
 refine st0 ?_
 refine rg ΦPb_ok [1, 2] trE ?_
 refine rg ΦPb_ok [2, 5, 6] trE ?_
 refine rg ΦPb_ok [2, 3] trE ?_
 exact fz trE)
end Go.Proofs.YtpajpkbipagjpaaGreatDoor.Oc
namespace Go.Proofs.YtpajpkbipagjpaaGreatDoor.Oc
open Go Go.RowKit Go.Proofs.YtpajpkbipagjpaaGreatDoor.Vm Go.Proofs.YtpajpkbipagjpaaGreatDoor.Tr Go.IntWalk
set_option maxRecDepth 100000
set_option maxHeartbeats 4000000
theorem exSum_at : ∀ (l : List Ex) (j : Nat), (l.getD j Ex.zero).oid.length + (l.getD j Ex.zero).val.length ≤ exSum l
 | [], j => Nat.zero_le _
 | x :: l, 0 => by rw [exSum]; show x.oid.length + x.val.length ≤ _; omega
 | x :: l, j + 1 => by have := exSum_at l j; rw [exSum]; show (l.getD j Ex.zero).oid.length + (l.getD j Ex.zero).val.length ≤ _; omega
theorem rdSum_at : ∀ (l : List Rd) (j : Nat), (l.getD j Rd.zero).text.length ≤ rdSum l
 | [], j => Nat.zero_le _
 | x :: l, 0 => by rw [rdSum]; show x.text.length ≤ _; omega
 | x :: l, j + 1 => by have := rdSum_at l j; rw [rdSum]; show (l.getD j Rd.zero).text.length ≤ _; omega
theorem great_no {c : Ce} (h : ¬ 0 < greatN c) : greatN c = 0 ∧ ceB c ∧ c.iss.length ≤ 100 ∧ c.sub.length ≤ 100 ∧ c.exts.length ≤ 100 := by
 have h0 : greatN c = 0 := by
  unfold greatN at h ⊢
  split at h
  ·exact absurd (by decide) h
  ·rename_i h1; exact if_neg h1
 have h1 := h0
 unfold greatN at h1
 split at h1
 ·exact absurd h1 (by decide)
 ·rename_i h2
  have h3 : sumC c ≤ 3000 := by omega
  unfold sumC base0 at h3
  rw [List.take_of_length_le (show c.exts.length ≤ 100 by omega), List.take_of_length_le (show c.iss.length ≤ 100 by omega), List.take_of_length_le (show c.sub.length ≤ 100 by omega)] at h3
  refine ⟨h0, ⟨by omega, by omega, by omega, fun j => ?_, ⟨by omega, fun j => ?_⟩, ⟨by omega, fun j => ?_⟩, by omega⟩, by omega, by omega, by omega⟩
  ·have := exSum_at c.exts j; omega
  ·have := rdSum_at c.iss j; omega
  ·have := rdSum_at c.sub j; omega
theorem ce_sig {c : Ce} {s : List UInt8} (h : ceB c) (hs : s.length ≤ 1000) : ceB { c with sig := s } := ⟨h.1, h.2.1, h.2.2.1, h.2.2.2.1, h.2.2.2.2.1, h.2.2.2.2.2.1, by show s.length ≤ 1000000; omega⟩
theorem apart_eq {c d : Ce} (hc : madeE c = 0) (hd : madeE d = 0) : decide (allR c = allR d) = decide (c = d) := decide_eq_decide.2 (all_inj hc hd)
theorem made_kid0 {c : Ce} (h : madeE c = 0) : (nodesD (allR c).kids).getD 0 [] = [.int .i64 (partR c).cls, .int .i64 (partR c).tag, .bool (partR c).cons, .lst (bytesD (partR c).bytes), .lst (nodesD (partR c).kids)] ∧ (allR c).kids.length = 3 := by
 obtain ⟨h1, h2⟩ := made_kid h
 have := nodesD_at (l := (allR c).kids) (k := 0) (by omega)
 rw [h1] at this
 exact ⟨this, h2⟩
theorem madeR_sz {c : Ce} (h : ceB c) (hm : madeE c = 0) : (allR c).sz ≤ 7000000 ∧ (partR c).sz ≤ 5000000 := by
 obtain ⟨o, _⟩ := made_ok hm
 obtain ⟨_, _, hx⟩ := may_times o.2.2.2
 unfold allR partR
 rw [if_pos hm, if_pos hm]
 exact ⟨allc_sz h hx, part_sz h hx⟩
noncomputable def ΦAp : Fns := tab [(30, aliveF), (31, greatF), (32, cbuild_1F), (33, cpartc_1F), (15, rsame0F), (34, rsamecF)]
theorem ΦAp_ok : Sound E1 ΦAp := sound_cons (by kernel_rfl) (lift1 alive_ok) (sound_cons (by kernel_rfl) (lift1 great_ok) (sound_cons (by kernel_rfl) cbuild_1_ok (sound_cons (by kernel_rfl) cpartc_1_ok (sound_cons (by kernel_rfl) (lift1 rsame0_ok) (sound_cons (by kernel_rfl) (lift1 rsamec_ok) (sound_nil))))))
@[go_sem] theorem ΦAp_r : ΦAp 30 = some aliveF ∧ ΦAp 31 = some greatF ∧ ΦAp 32 = some cbuild_1F ∧ ΦAp 33 = some cpartc_1F ∧ ΦAp 15 = some rsame0F ∧ ΦAp 34 = some rsamecF := ⟨rfl, rfl, rfl, rfl, rfl, rfl⟩
@[go_sem] noncomputable def lapart_1F : PFn := PF [SCe, SCe, SY] (fun (c : Ce) (d : Ce) (s : List UInt8) => grB c ∧ grB d ∧ s.length ≤ 140737488355328) (fun (c : Ce) (d : Ce) (s : List UInt8) => [.bool true])
theorem lapart_1_ok : Pure E1 5 lapart_1F := Pure.of_sig (rs := [.tmp 6]) (n := 97) Tryz.func5 rfl rfl rfl (Nat.le_of_ble_eq_true rfl) (by
 intro (c : Ce) (d : Ce) (s : List UInt8) hds
 obtain ⟨hgc, hgd, hs0⟩ := hds
 refine st0 ?_
 refine rg ΦAp_ok [2, 3, 4] trE ?_
 refine rg ΦAp_ok [2, 3, 4, 7] trE ?_
 refine rB ΦAp_ok [2, 3, 4, 7, 34] (And.intro hgc hgd) fun K' hK => ?_
 repeat' first | (refine lf hK (And.intro hgc hgd) ?_; clear hK K') | with_reducible apply And.intro | refine sA (And.intro hgc hgd) (fun _ => ?_) fun _ => ?_ | refine sAb (And.intro hgc hgd) (fun _ => ?_) fun _ => ?_ | refine sAl (And.intro hgc hgd) (fun g => ?_) fun g => ?_ | exact sd | exact sde (And.intro hgc hgd) | exact sdp (And.intro hgc hgd) | refine stk (And.intro hgc hgd) ?_ | fail
 all_goals
  refine cn ?_ ?_
  ·intro h; try exact na h
   all_goals
    refine rg ΦAp_ok [6] trE ?_
    first
    | exact fz eqT
  ·intro h; try exact na h
   all_goals
    (try simp only [Bool.not_eq_eq_eq_not, Bool.not_true, Bool.not_false, decide_eq_false_iff_not, decide_eq_true_eq] at *)
    have hs : s.length ≤ 1000 := by omega
    obtain ⟨gc0, gc1, gc2, gc3, gc4⟩ := great_no (c := c) (by omega)
    obtain ⟨gd0, gd1, gd2, gd3, gd4⟩ := great_no (c := d) (by omega)
    refine rg ΦAp_ok [2, 3, 4, 7, 8, 9] (And.intro gc1 trE) ?_
    refine rg ΦAp_ok [2, 3, 4, 7, 8, 9, 10, 11] (And.intro gd1 trE) ?_
    refine rB ΦAp_ok [2, 3, 4, 7, 8, 10, 51] trE fun K' hK => ?_
    repeat' first | (refine lf hK trE ?_; clear hK K') | with_reducible apply And.intro | refine sA trE (fun _ => ?_) fun _ => ?_ | refine sAb trE (fun _ => ?_) fun _ => ?_ | refine sAl trE (fun g => ?_) fun g => ?_ | exact sd | exact sde trE | exact sdp trE | refine stk trE ?_ | fail
    all_goals
     refine cn ?_ ?_
     ·intro h; try exact na h
      all_goals
       refine rg ΦAp_ok [6] trE ?_
       first
       | exact fz eqT
     ·intro h; try exact na h
      all_goals
       (try simp only [Bool.not_eq_eq_eq_not, Bool.not_true, Bool.not_false, decide_eq_false_iff_not, decide_eq_true_eq] at *)
       have mc : madeE c = 0 := by omega
       have md : madeE d = 0 := by omega
       obtain ⟨mx1, mx2⟩ := made_sig (s := s) gc0 hs mc
       have gx1 := ce_sig gc1 hs
       have hap := apart_eq mc md
       obtain ⟨hk1, hk2⟩ := made_kid0 mc
       obtain ⟨hz1, hz2⟩ := madeR_sz gc1 mc
       refine rg ΦAp_ok [2, 3, 4, 7, 8, 10, 12] trE ?_
       refine rg ΦAp_ok [3, 4, 7, 8, 10, 12] trE ?_
       refine rg ΦAp_ok [3, 4, 7, 8, 10, 12, 13, 14] (And.intro gc1 (And.intro mc trE)) ?_
       refine rg ΦAp_ok [3, 4, 7, 8, 10, 13, 14, 15, 16] (And.intro gx1 (And.intro mx1 (And.intro mx2 trE))) ?_
       refine rdB (n := 31) ΦAp_ok [6] (And.intro mc (And.intro hap (And.intro hk1 (And.intro hk2 eqT)))) fun L hL => ?_
       repeat' first | (refine lfd hL (And.intro mc (And.intro hap (And.intro hk1 (And.intro hk2 eqT)))) ?_; clear hL L) | with_reducible apply And.intro | refine sA (And.intro mc (And.intro hap (And.intro hk1 (And.intro hk2 eqT)))) (fun _ => ?_) fun _ => ?_ | refine sAb (And.intro mc (And.intro hap (And.intro hk1 (And.intro hk2 eqT)))) (fun _ => ?_) fun _ => ?_ | refine sAl (And.intro mc (And.intro hap (And.intro hk1 (And.intro hk2 eqT)))) (fun g => ?_) fun g => ?_ | exact sd | exact sde (And.intro mc (And.intro hap (And.intro hk1 (And.intro hk2 eqT)))) | exact sdp (And.intro mc (And.intro hap (And.intro hk1 (And.intro hk2 eqT)))) | refine stk (And.intro mc (And.intro hap (And.intro hk1 (And.intro hk2 eqT)))) ?_ | fail
       all_goals
        first
        | exact fz eqT)
end Go.Proofs.YtpajpkbipagjpaaGreatDoor.Oc
namespace Go.Proofs.YtpajpkbipagjpaaGreatDoor.Oc
open Go Go.RowKit Go.Proofs.YtpajpkbipagjpaaGreatDoor.Vm Go.ChangeShapes Go.WideShapes Go.Proofs.YtpajpkbipagjpaaGreatDoor
set_option maxRecDepth 100000
set_option maxHeartbeats 4000000
theorem laid_get {P : Program} {W : World} : ∀ (l : List (String × DataW Unit)) (ps : List MemPlace), DataW.LaidVars P W l ps → ∀ n d, (n, d) ∈ l →
 ∃ g t cs fuel p, P.globalNamed n = some g ∧ (P.globals[g]?).map (·.type) = some t ∧ W.var? P n = some cs ∧ DataW.trod (fun _ => ()) P W 0 (fun _ => true) false fuel t cs.toList = some (d, p) ∧ ∀ x ∈ MemPlace.row ⟨g, 0, none⟩ cs.size, x ∈ ps
 | [], ps, h, n, d, hm => absurd hm List.not_mem_nil
 | (n0, d0) :: r, ps, h, n, d, hm => by
   obtain ⟨g, t, cs, fuel, p, q, h1, h2, h3, h4, h5, h6⟩ := h
   rcases List.mem_cons.1 hm with e | e
   ·injection e with e1 e2
    subst e1 e2
    exact ⟨g, t, cs, fuel, p, h1, h2, h3, h4, fun x hx => by rw [h6]; simp [hx]⟩
   ·obtain ⟨g', t', cs', fuel', p', a1, a2, a3, a4, a5⟩ := laid_get r q h5 n d e
    exact ⟨g', t', cs', fuel', p', a1, a2, a3, a4, fun x hx => by rw [h6]; simp [a5 x hx]⟩
theorem lt_cell {W : World} {b o : Nat} {v : Value} (h : W.cell? ⟨b, o, none⟩ = some v) : b < W.heap.size := by
 rcases Nat.lt_or_ge b W.heap.size with h' | h'
 ·exact h'
 ·simp [World.cell?, Array.getElem?_eq_none h'] at h
theorem glob_tab {l : List (String × DataW Unit)} {W : World} (h : laidMet Tryz.prog l W) (n : String) (g0 t e N : Nat) (k : IntKind) (L : List Int) (lay : DataW Unit) (hm : (n, lay) ∈ l) (h1 : Tryz.prog.globalNamed n = some g0) (h2 : (Tryz.prog.globals[g0]?).map (·.type) = some t)
 (he : lay = Lib.tabData k L) (ha : Tryz.prog.underlying t = some (.array N e)) (hu : Tryz.prog.underlying e = some (.int k)) (hce : Tryz.prog.cellsOf e = 1) (hct : Tryz.prog.cellsOf t = N) : RC W (All W) (L.map fun z => .int k z) g0 0 := by
 obtain ⟨ps, hl, _, _⟩ := h
 obtain ⟨g, t', cs, fuel, p, hg, ht, hv, hd, _⟩ := laid_get l ps hl _ _ hm
 obtain rfl := Option.some.inj (h1.symm.trans hg)
 obtain rfl := Option.some.inj (h2.symm.trans ht)
 rw [he] at hd
 have hcs := Lib.cells_of_tab (P := Tryz.prog) ha hu hce hct hd
 refine RC.mk fun j d hj => ?_
 rw [List.getElem?_map] at hj
 obtain ⟨z, hz, rfl⟩ := Option.map_eq_some_iff.1 hj
 have hc : W.cell? ⟨g0, 0 + j, none⟩ = some (.int k z) := by
  rw [Nat.zero_add, World.var?_cell hg hv j, ← Array.getElem?_toList, hcs, List.getElem?_map, hz]; rfl
 exact ⟨_, hc, lt_cell hc, rfl, by simp only [RV]⟩
theorem nm_star : "*" ++ "errors.errorString" = "*errors.errorString" := by decide
theorem nm_row (u : TypeId) (h : Tryz.prog.typeName? 3 u = some "*errors.errorString") : u = 351 :=
 typeName_ptr_named (nm := "errors.errorString") (by rw [nm_star]; kernel_rfl) (by kernel_rfl) (by decide) u (by rw [nm_star]; exact h)
theorem es_under : ∃ f : Field, Tryz.prog.underlying 353 = some (.struct #[f]) ∧ f.type = 9 ∧ f.offset = 0 := ⟨_, Tryz.underlying353, rfl, rfl⟩
theorem err_iface : ∃ ms, Tryz.prog.underlying 198 = some (.interface ms) := ⟨_, Tryz.underlying198⟩
theorem glob_err {l : List (String × DataW Unit)} {W : World} (h : laidMet Tryz.prog l W) (n : String) (g0 : Nat) (text : List UInt8) (hm : (n, (.iface "*errors.errorString" (.ptr (.agg [.lit (.string text)])) : DataW Unit)) ∈ l)
 (h1 : Tryz.prog.globalNamed n = some g0) (h2 : (Tryz.prog.globals[g0]?).map (·.type) = some 198) : RC W (All W) [errD] g0 0 := by
 obtain ⟨ps, hl, hnd, hrows⟩ := h
 obtain ⟨g, t, cs, fuel, p, hg, ht, hv, hd, hin⟩ := laid_get l ps hl _ _ hm
 obtain rfl := Option.some.inj (h1.symm.trans hg)
 obtain rfl := Option.some.inj (h2.symm.trans ht)
 obtain ⟨f, hf1, hf2, hf3⟩ := es_under
 obtain ⟨ms, hms⟩ := err_iface
 have ok : ∀ u v, cs.toList = [.iface u v] → Value.okWide Tryz.prog W .any 0 u v := fun u v e => by
  have hc := World.var?_cell hg hv 0
  rw [← Array.getElem?_toList, e] at hc
  have hsz : 0 < cs.size := by rw [← Array.length_toList, e]; simp
  exact (hrows g0 0 (hin _ (by simp [MemPlace.row]; exact hsz))).2 u v (by simpa using hc)
 obtain ⟨a, s, e1, hc1, _, _, _⟩ := errorString_of_trod hms nm_row Tryz.underlying351 hf1 hf2 hf3 Tryz.underlying9 (by kernel_rfl) (by kernel_rfl) hd ok
 have hc := World.var?_cell hg hv 0
 rw [← Array.getElem?_toList, e1] at hc
 have hc : W.cell? ⟨g0, 0, none⟩ = some (.iface 351 (.pointer (some a))) := by simpa using hc
 have ha : a = ⟨a.block, a.off, none⟩ := by
  obtain ⟨b, off, sp⟩ := a
  cases sp with
  | none => rfl
  | some x =>
    unfold World.cell? at hc1
    split at hc1
    ·simp at hc1
    ·cases hc1
 simp only [RC, errD, RV]
 refine ⟨⟨_, hc, lt_cell hc, rfl, _, rfl, a.block, a.off, ?_, trivial⟩, trivial⟩
 rw [← ha]
theorem glob_known {l : List (String × DataW Unit)} {W : World} (h : laidMet Tryz.prog l W) (hm : ("postmark/oid.known", (Rows.laid_postmark_oid_known : DataW Unit)) ∈ l) : RC W (All W) (knownCs knownP) 1 0 := by
 obtain ⟨ps, hl, _, _⟩ := h
 obtain ⟨g, t, cs, fuel, p, hg, ht, hv, hd, _⟩ := laid_get l ps hl _ _ hm
 obtain rfl := Option.some.inj ((show Tryz.prog.globalNamed "postmark/oid.known" = some 1 by kernel_rfl).symm.trans hg)
 obtain rfl := Option.some.inj ((show (Tryz.prog.globals[1]?).map (·.type) = some 150 by kernel_rfl).symm.trans ht)
 have e : (Rows.laid_postmark_oid_known : DataW Unit) = .agg (knownP.map fun x => .agg [.lit (.string x.1), .lit (.string x.2)]) := by kernel_rfl
 rw [e] at hd
 obtain ⟨xs, m, rfl, hx, hlen, hn, hel⟩ := DataW.trod_array (n := 26) (e := 149) Tryz.underlying150 hd
 have c73 : Tryz.prog.cellsOf 149 = 2 := by kernel_rfl
 have c9 : Tryz.prog.cellsOf 9 = 1 := by kernel_rfl
 have hx1 : xs.map (·.1) = knownP.map fun x => .agg [.lit (.string x.1), .lit (.string x.2)] := by
  simp only [Prod.mk.injEq, DataW.agg.injEq] at hx; exact hx.1.symm
 have at2 : ∀ i, i < 26 → W.cell? ⟨1, 2 * i, none⟩ = some (.string ⟨(kn i).toArray⟩) ∧ W.cell? ⟨1, 2 * i + 1, none⟩ = some (.string ⟨(kt i).toArray⟩) := by
  intro i hi
  have h1 := hel i hi
  rw [c73] at h1
  have hxi : (xs.map (·.1))[i]? = some (.agg [.lit (.string (kn i)), .lit (.string (kt i))]) := by
   have hk : i < knownP.length := by rw [knownP_len]; exact hi
   rw [hx1, List.getElem?_map, List.getElem?_eq_getElem hk]
   simp only [Option.map_some, kn, kt, List.getD_eq_getElem?_getD, List.getElem?_eq_getElem hk, Option.getD_some]
  rw [List.getElem?_map] at hxi
  obtain ⟨y, hy1, hy2⟩ := Option.map_eq_some_iff.1 hxi
  rw [hy1] at h1
  obtain ⟨ys, m2, rfl, hy, hyl, hyn, hyel⟩ := DataW.trod_array (n := 2) (e := 9) Tryz.underlying149 h1
  have hys : ys.map (·.1) = [.lit (.string (kn i)), .lit (.string (kt i))] := by
   rw [hy] at hy2; simpa using hy2
  have one : ∀ j s, j < 2 → (ys.map (·.1))[j]? = some (.lit (.string s)) → W.cell? ⟨1, 2 * i + j, none⟩ = some (.string ⟨s.toArray⟩) := by
   intro j s hj hs
   have h2 := hyel j hj
   rw [c9] at h2
   rw [List.getElem?_map] at hs
   obtain ⟨z, hz1, hz2⟩ := Option.map_eq_some_iff.1 hs
   rw [hz1] at h2
   obtain ⟨b, hb1, hb2, _⟩ := DataW.trod_string Tryz.underlying9 h2
   rw [hb2] at hz2
   simp only [DataW.lit.injEq, Lit.string.injEq] at hz2
   have hb3 : b = ⟨s.toArray⟩ := by rw [← hz2]
   rw [World.var?_cell hg hv (2 * i + j), ← Array.getElem?_toList, ← hb3]
   have h0 : ((((cs.toList.drop (i * 2)).take 2).drop (j * 1)).take 1)[0]? = some (.string b) := by rw [hb1]; rfl
   rw [List.getElem?_take, if_pos (by decide), List.getElem?_drop, List.getElem?_take, if_pos (by omega), List.getElem?_drop] at h0
   rw [show 2 * i + j = i * 2 + (j * 1 + 0) by omega]
   exact h0
  refine ⟨?_, one 1 (kt i) (by decide) (by rw [hys]; rfl)⟩
  have := one 0 (kn i) (by decide) (by rw [hys]; rfl)
  rw [Nat.add_zero] at this
  exact this
 refine RC.mk fun j d hj => ?_
 have hj2 : j < 52 := by
  rcases Nat.lt_or_ge j 52 with h' | h'
  ·exact h'
  ·rw [List.getElem?_eq_none (by rw [knownCs_len]; exact h')] at hj; cases hj
 have hd2 := known_at (show j / 2 < 26 by omega)
 have hg2 : (knownCs knownP)[j]? = (((knownCs knownP).drop (j / 2 * 2)).take 2)[j % 2]? := by
  rw [List.getElem?_take, if_pos (Nat.mod_lt _ (by decide)), List.getElem?_drop]
  congr 1; omega
 rw [hg2, hd2] at hj
 obtain ⟨a1, a2⟩ := at2 (j / 2) (by omega)
 rw [Nat.zero_add]
 rcases Nat.mod_two_eq_zero_or_one j with h0 | h0
 ·rw [h0] at hj
  simp only [List.getElem?_cons_zero, Option.some.injEq] at hj
  subst hj
  rw [show 2 * (j / 2) = j by omega] at a1
  exact ⟨_, a1, lt_cell a1, rfl, by simp only [RV]⟩
 ·rw [h0] at hj
  simp only [List.getElem?_cons_succ, List.getElem?_cons_zero, Option.some.injEq] at hj
  subst hj
  rw [show 2 * (j / 2) + 1 = j by omega] at a2
  exact ⟨_, a2, lt_cell a2, rfl, by simp only [RV]⟩
theorem f349 : ∃ f0 f1 : Field, Tryz.prog.underlying 349 = some (.struct #[f0, f1]) ∧ f0.type = 5 ∧ f1.type = 5 ∧ f0.offset = 0 ∧ f1.offset = 1 := ⟨_, _, Tryz.underlying349, rfl, rfl, rfl, rfl⟩
def accP : List (Int × Int) := [(128, 191), (160, 191), (128, 159), (144, 191), (128, 143)] ++ List.replicate 11 (0, 0)
theorem accP_eq : acceptD = accP.flatMap fun x => [.int .u8 x.1, .int .u8 x.2] := by rfl
theorem acc_at {j : Nat} {d : Vm.Data} (h : acceptD[j]? = some d) : ∃ i x, accP[i]? = some x ∧ (j = 2 * i ∧ d = .int .u8 x.1 ∨ j = 2 * i + 1 ∧ d = .int .u8 x.2) := by
 rw [accP_eq] at h
 generalize accP = l at h
 induction l generalizing j with
 | nil => simp at h
 | cons x l ih =>
   match j, h with
   | 0, h => exact ⟨0, x, rfl, .inl ⟨rfl, by simpa using h.symm⟩⟩
   | 1, h => exact ⟨0, x, rfl, .inr ⟨rfl, by simpa using h.symm⟩⟩
   | j + 2, h =>
     obtain ⟨i, y, h1, h2⟩ := ih (j := j) (by simpa using h)
     exact ⟨i + 1, y, by simpa using h1, h2.elim (fun h => .inl ⟨by omega, h.2⟩) fun h => .inr ⟨by omega, h.2⟩⟩
theorem glob_accept {l : List (String × DataW Unit)} {W : World} (h : laidMet Tryz.prog l W) (hm : ("unicode/utf8.acceptRanges", (Rows.laid_unicode_utf8_acceptRanges : DataW Unit)) ∈ l) : RC W (All W) acceptD 7 0 := by
 obtain ⟨ps, hl, _, _⟩ := h
 obtain ⟨g, t, cs, fuel, p, hg, ht, hv, hd, _⟩ := laid_get l ps hl _ _ hm
 obtain rfl := Option.some.inj ((show Tryz.prog.globalNamed "unicode/utf8.acceptRanges" = some 7 by kernel_rfl).symm.trans hg)
 obtain rfl := Option.some.inj ((show (Tryz.prog.globals[7]?).map (·.type) = some 350 by kernel_rfl).symm.trans ht)
 have e : (Rows.laid_unicode_utf8_acceptRanges : DataW Unit) = .agg (accP.map fun x => .agg [.lit (.int .u8 x.1), .lit (.int .u8 x.2)]) := by kernel_rfl
 rw [e] at hd
 obtain ⟨xs, m, rfl, hx, hlen, hn, hel⟩ := DataW.trod_array (n := 16) (e := 349) Tryz.underlying350 hd
 have c1 : Tryz.prog.cellsOf 349 = 2 := by kernel_rfl
 have c2 : Tryz.prog.cellsOf 5 = 1 := by kernel_rfl
 have hx1 : xs.map (·.1) = accP.map fun x => .agg [.lit (.int .u8 x.1), .lit (.int .u8 x.2)] := by
  simp only [Prod.mk.injEq, DataW.agg.injEq] at hx; exact hx.1.symm
 obtain ⟨f0, f1, hu, t0, t1, o0, o1⟩ := f349
 have at2 : ∀ i x, accP[i]? = some x → W.cell? ⟨7, 2 * i, none⟩ = some (.int .u8 x.1) ∧ W.cell? ⟨7, 2 * i + 1, none⟩ = some (.int .u8 x.2) := by
  intro i x hxi0
  have hi : i < 16 := by
   have := (List.getElem?_eq_some_iff.1 hxi0).1
   rwa [show accP.length = 16 by decide] at this
  have h1 := hel i hi
  rw [c1] at h1
  have hxi : (xs.map (·.1))[i]? = some (.agg [.lit (.int .u8 x.1), .lit (.int .u8 x.2)]) := by
   rw [hx1, List.getElem?_map, hxi0]; rfl
  rw [List.getElem?_map] at hxi
  obtain ⟨y, hy1, hy2⟩ := Option.map_eq_some_iff.1 hxi
  rw [hy1] at h1
  obtain ⟨y0, y1, n', rfl, hl', a0, a1⟩ := trod_struct2 hu h1
  simp only [DataW.agg.injEq, List.cons.injEq, and_true] at hy2
  rw [t0, o0, c2] at a0
  rw [t1, o1, c2] at a1
  obtain ⟨z0, b0, rfl, _⟩ := DataW.trod_int Tryz.underlying5 a0
  obtain ⟨z1, b1, rfl, _⟩ := DataW.trod_int Tryz.underlying5 a1
  simp only [DataW.lit.injEq, Lit.int.injEq, true_and] at hy2
  obtain ⟨rfl, rfl⟩ := hy2
  refine ⟨?_, ?_⟩
  ·rw [World.var?_cell hg hv (2 * i), ← Array.getElem?_toList]
   have h0 : ((((cs.toList.drop (i * 2)).take 2).drop 0).take 1)[0]? = some (.int .u8 x.1) := by rw [b0]; rfl
   rw [List.getElem?_take, if_pos (by decide), List.getElem?_drop, List.getElem?_take, if_pos (by omega), List.getElem?_drop] at h0
   rw [show 2 * i = i * 2 + (0 + 0) by omega]
   exact h0
  ·rw [World.var?_cell hg hv (2 * i + 1), ← Array.getElem?_toList]
   have h0 : ((((cs.toList.drop (i * 2)).take 2).drop 1).take 1)[0]? = some (.int .u8 x.2) := by rw [b1]; rfl
   rw [List.getElem?_take, if_pos (by decide), List.getElem?_drop, List.getElem?_take, if_pos (by omega), List.getElem?_drop] at h0
   rw [show 2 * i + 1 = i * 2 + (1 + 0) by omega]
   exact h0
 refine RC.mk fun j d hj => ?_
 obtain ⟨i, x, hi, hh⟩ := acc_at hj
 obtain ⟨a1, a2⟩ := at2 i x hi
 rw [Nat.zero_add]
 rcases hh with ⟨rfl, rfl⟩ | ⟨rfl, rfl⟩
 ·exact ⟨_, a1, lt_cell a1, rfl, by simp only [RV]⟩
 ·exact ⟨_, a2, lt_cell a2, rfl, by simp only [RV]⟩
theorem powD_eq : powD = ((List.range 20).map fun j => ((10 ^ j : Nat) : Int)).map fun z => .int .u64 z := by rw [List.map_map]; rfl
theorem firstD_eq : firstD = ((List.range 256).map fun j => (fstU j : Int)).map fun z => .int .u8 z := by rw [List.map_map]; rfl
theorem glob_of {l : List (String × DataW Unit)} {W : World} (h : laidMet Tryz.prog l W) (h1 : ("internal/strconv.uint64pow10", (Rows.laid_internal_strconv_uint64pow10 : DataW Unit)) ∈ l) (h2 : ("strconv.ErrRange", (Rows.laid_strconv_ErrRange : DataW Unit)) ∈ l) (h3 : ("strconv.ErrSyntax", (Rows.laid_strconv_ErrSyntax : DataW Unit)) ∈ l)
 (h4 : ("postmark/oid.known", (Rows.laid_postmark_oid_known : DataW Unit)) ∈ l) (h5 : ("postmark/mask.sizes", (Rows.laid_postmark_mask_sizes : DataW Unit)) ∈ l) (h6 : ("unicode/utf8.first", Rows.laid_unicode_utf8_first) ∈ l) (h7 : ("unicode/utf8.acceptRanges", (Rows.laid_unicode_utf8_acceptRanges : DataW Unit)) ∈ l) : Glob E W (All W) := by
 intro g cs hg
 have hg : Gl g = some cs := hg
 match g, hg with
 | 1, hg => injection hg with hg; rw [← hg]; exact glob_known h h4
 | 2, hg => injection hg with hg; rw [← hg]; exact glob_tab h "postmark/mask.sizes" 2 212 3 5 .i64 [0, 224, 256, 384, 512] _ h5 (by kernel_rfl) (by kernel_rfl) rfl Tryz.underlying212 Tryz.underlying3 (by kernel_rfl) (by kernel_rfl)
 | 3, hg => injection hg with hg; rw [← hg]; exact glob_err h "strconv.ErrSyntax" 3 _ h3 (by kernel_rfl) (by kernel_rfl)
 | 4, hg => injection hg with hg; rw [← hg]; exact glob_err h "strconv.ErrRange" 4 _ h2 (by kernel_rfl) (by kernel_rfl)
 | 5, hg => injection hg with hg; rw [← hg, powD_eq]; exact glob_tab h "internal/strconv.uint64pow10" 5 323 158 20 .u64 _ _ h1 (by kernel_rfl) (by kernel_rfl) (by kernel_rfl) Tryz.underlying323 Tryz.underlying158 (by kernel_rfl) (by kernel_rfl)
 | 6, hg => injection hg with hg; rw [← hg, firstD_eq]; exact glob_tab h "unicode/utf8.first" 6 347 5 256 .u8 _ _ h6 (by kernel_rfl) (by kernel_rfl) (by kernel_rfl) Tryz.underlying347 Tryz.underlying5 (by kernel_rfl) (by kernel_rfl)
 | 7, hg => injection hg with hg; rw [← hg]; exact glob_accept h h7
end Go.Proofs.YtpajpkbipagjpaaGreatDoor.Oc
namespace Go.Proofs.YtpajpkbipagjpaaGreatDoor.Oc
open Go Go.RowKit Go.Proofs.YtpajpkbipagjpaaGreatDoor.Vm Go.ChangeShapes Go.WideShapes Go.Proofs.YtpajpkbipagjpaaGreatDoor
set_option maxRecDepth 100000
set_option maxHeartbeats 4000000
theorem glob_kinds {l : List (String × DataW Unit)} {W : World} (h : laidMet Tryz.prog l W) (hm : ("postmark/cert.kinds", (Rows.laid_postmark_cert_kinds : DataW Unit)) ∈ l) : RC W (All W) kindsD 0 0 := by
 obtain ⟨ps, hl, _, _⟩ := h
 obtain ⟨g, t, cs, fuel, p, hg, ht, hv, hd, _⟩ := laid_get l ps hl _ _ hm
 obtain rfl := Option.some.inj ((show Tryz.prog.globalNamed "postmark/cert.kinds" = some 0 by kernel_rfl).symm.trans hg)
 obtain rfl := Option.some.inj ((show (Tryz.prog.globals[0]?).map (·.type) = some 123 by kernel_rfl).symm.trans ht)
 have e : (Rows.laid_postmark_cert_kinds : DataW Unit) = .agg (kindsB.map fun x => .lit (.string x)) := by kernel_rfl
 rw [e] at hd
 obtain ⟨xs, m, rfl, hx, hlen, hn, hel⟩ := DataW.trod_array (n := 4) (e := 9) Tryz.underlying123 hd
 have c9 : Tryz.prog.cellsOf 9 = 1 := by kernel_rfl
 have hx1 : xs.map (·.1) = kindsB.map fun x => .lit (.string x) := by
  simp only [Prod.mk.injEq, DataW.agg.injEq] at hx; exact hx.1.symm
 refine RC.mk fun j d hj => ?_
 rw [show kindsD = kindsB.map .str from rfl, List.getElem?_map] at hj
 obtain ⟨s, hs, rfl⟩ := Option.map_eq_some_iff.1 hj
 have hj4 : j < 4 := (List.getElem?_eq_some_iff.1 hs).1
 have h1 := hel j hj4
 rw [c9] at h1
 have hxi : (xs.map (·.1))[j]? = some (.lit (.string s)) := by rw [hx1, List.getElem?_map, hs]; rfl
 rw [List.getElem?_map] at hxi
 obtain ⟨y, hy1, hy2⟩ := Option.map_eq_some_iff.1 hxi
 rw [hy1] at h1
 obtain ⟨b, hb1, hb2, _⟩ := DataW.trod_string Tryz.underlying9 h1
 rw [hb2] at hy2
 simp only [DataW.lit.injEq, Lit.string.injEq] at hy2
 have hb3 : b = ⟨s.toArray⟩ := by rw [← hy2]
 have hc : W.cell? ⟨0, 0 + j, none⟩ = some (.string ⟨s.toArray⟩) := by
  rw [Nat.zero_add, World.var?_cell hg hv j, ← Array.getElem?_toList, ← hb3]
  have h0 : ((cs.toList.drop (j * 1)).take 1)[0]? = some (.string b) := by rw [hb1]; rfl
  rw [List.getElem?_take, if_pos (by decide), List.getElem?_drop] at h0
  rw [show j = j * 1 + 0 by omega]
  exact h0
 exact ⟨_, hc, lt_cell hc, rfl, by simp only [RV]⟩
theorem glob1_of {l : List (String × DataW Unit)} {W : World} (h : laidMet Tryz.prog l W) (h1 : ("internal/strconv.uint64pow10", (Rows.laid_internal_strconv_uint64pow10 : DataW Unit)) ∈ l) (h2 : ("strconv.ErrRange", (Rows.laid_strconv_ErrRange : DataW Unit)) ∈ l) (h3 : ("strconv.ErrSyntax", (Rows.laid_strconv_ErrSyntax : DataW Unit)) ∈ l)
 (h4 : ("postmark/oid.known", (Rows.laid_postmark_oid_known : DataW Unit)) ∈ l) (h5 : ("postmark/mask.sizes", (Rows.laid_postmark_mask_sizes : DataW Unit)) ∈ l) (h6 : ("unicode/utf8.first", Rows.laid_unicode_utf8_first) ∈ l) (h7 : ("unicode/utf8.acceptRanges", (Rows.laid_unicode_utf8_acceptRanges : DataW Unit)) ∈ l) (h8 : ("postmark/cert.kinds", (Rows.laid_postmark_cert_kinds : DataW Unit)) ∈ l) : Glob E1 W (All W) := by
 intro g cs hg
 have hg : Gl1 g = some cs := hg
 match g, hg with
 | 0, hg => injection hg with hg; rw [← hg]; exact glob_kinds h h8
 | g + 1, hg => exact glob_of h h1 h2 h3 h4 h5 h6 h7 (g + 1) cs hg
end Go.Proofs.YtpajpkbipagjpaaGreatDoor.Oc
