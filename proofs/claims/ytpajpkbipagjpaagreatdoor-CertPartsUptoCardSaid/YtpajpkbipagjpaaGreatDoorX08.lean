/- What functions of the program, of its library and of the document compute: their contracts, and laws about what they compute (X08). No condition. -/
import Derived.Test.YtpajpkbipagjpaaGreatDoorX07
import Derived.Test.YtpajpkbipagjpaaGreatDoorX04
import Derived.Test.YtpajpkbipagjpaaGreatDoorX05
set_option linter.unusedVariables false
set_option linter.unusedSimpArgs false
namespace Go.Proofs.YtpajpkbipagjpaaGreatDoor.Oc
open Go Go.RowKit Go.Proofs.YtpajpkbipagjpaaGreatDoor.Vm Go.Proofs.YtpajpkbipagjpaaGreatDoor.Tr Go.IntWalk
set_option maxRecDepth 100000
set_option maxHeartbeats 4000000
noncomputable def ΦNO : Fns := tab [(112, readF), (113, textF)]
theorem ΦNO_ok : Sound E ΦNO := sound_cons (by kernel_rfl) read_ok (sound_cons (by kernel_rfl) text_ok (sound_nil))
@[go_sem] theorem ΦNO_r : ΦNO 112 = some readF ∧ ΦNO 113 = some textF := ⟨rfl, rfl⟩
@[go_sem] noncomputable def onameF : PFn := PF [SY] (fun (b : List UInt8) => b.length ≤ 100000) (fun (b : List UInt8) => [.str (nameOf b)])
theorem oname_ok : Pure E 75 onameF := Pure.of_sig (rs := [.tmp 2]) (n := 32) Tryz.func75 rfl rfl rfl (Nat.le_of_ble_eq_true rfl) (by
 intro (b : List UInt8) hds
 have hrl := readS_len b
 refine st0 ?_
 refine rg ΦNO_ok [0] knE ?_
 refine rg ΦNO_ok [3, 4] knE ?_
 refine rg ΦNO_ok [3, 15] knE ?_
 refine cn ?_ ?_
 ·intro h; try exact absurd h (by decide)
  all_goals
   have hy := name_not (by assumption)
   refine rg ΦNO_ok [2] knE ?_
   exact fz hy
 ·intro h; try exact absurd h (by decide)
  all_goals
   have hs := some_of (by assumption)
   refine rg ΦNO_ok [5] knE ?_
   simp only [theText_eq]
   refine rg ΦNO_ok [5, 21, 22] knE ?_
   refine nx ?_
   refine VC.loopP (ι := Nat) [5, 21] (fun i => [(22, .dat (.int .i64 (i : Int)))]) (fun _ => []) (fun i => i ≤ 26 ∧ nameP (knownP.drop i) (theText b) = nameP knownP (theText b)) (fun i => 26 - i) 0 (⟨Nat.zero_le _, rfl⟩) (et) ?_
   rintro i hp; try dsimp only at hp
   refine st0 ?_
   refine rg ΦNO_ok [5, 21, 22, 23] knE ?_
   refine cn ?_ ?_
   ·intro h; try exact absurd h (by decide)
    all_goals
     refine rg ΦNO_ok [5, 8, 21, 22] knE ?_
     refine rg ΦNO_ok [5, 8, 21, 22, 28] knE ?_
     refine cn ?_ ?_
     ·intro h; try exact absurd h (by decide)
      all_goals
       have hy := name_hit hs (by omega) hp.2 (by assumption)
       refine rg ΦNO_ok [2] knE ?_
       exact fz hy
     ·intro h; try exact absurd h (by decide)
      all_goals
       refine rgL ΦNO_ok knE ?_
       refine nx ?_
       exact ⟨i + 1, ⟨by omega, by rw [nameP_next (by omega) (by assumption)]; exact hp.2⟩, et, by omega⟩
   ·intro h; try exact absurd h (by decide)
    all_goals
     have hy := name_end hs (by omega) hp.2
     refine rg ΦNO_ok [2] knE ?_
     exact fz hy)
end Go.Proofs.YtpajpkbipagjpaaGreatDoor.Oc
namespace Go.Proofs.YtpajpkbipagjpaaGreatDoor.Oc
open Go Go.RowKit Go.Proofs.YtpajpkbipagjpaaGreatDoor.Vm Go.Proofs.YtpajpkbipagjpaaGreatDoor.Tr Go.IntWalk
set_option maxRecDepth 100000
set_option maxHeartbeats 4000000
theorem namedP_len : ∀ (l : List (List UInt8 × List UInt8)) (s : List UInt8), (namedP l s).length ≤ 200
 | [], s => by simp [namedP]
 | x :: r, s => by
   unfold namedP
   split
   ·exact encO_len _
   ·exact namedP_len r s
def namedB (s : List UInt8) : List UInt8 := namedP knownP s
theorem namedB_len (s : List UInt8) : (namedB s).length ≤ 200 := namedP_len _ s
noncomputable def ΦCN : Fns := tab [(55, namedF), (61, cprimF)]
theorem ΦCN_ok : Sound E ΦCN := sound_cons (by kernel_rfl) named_ok (sound_cons (by kernel_rfl) cprim_ok (sound_nil))
@[go_sem] theorem ΦCN_r : ΦCN 55 = some namedF ∧ ΦCN 61 = some cprimF := ⟨rfl, rfl⟩
@[go_sem] noncomputable def cnamedF : PFn := PF [SS] (fun (s : List UInt8) => True) (fun (s : List UInt8) => [nodeD (primT 6 (namedB s))])
theorem cnamed_ok : Pure E 59 cnamedF := Pure.of_sig (rs := [.cell 2 25]) (n := 6) Tryz.func59 rfl rfl rfl (Nat.le_of_ble_eq_true rfl) (by
 intro (s : List UInt8) hds
 have hl := namedB_len s
 refine st0 ?_
 refine rg ΦCN_ok [0, 2] (show namedP knownP s = namedB s from rfl) ?_
 refine rg ΦCN_ok [2] (show namedP knownP s = namedB s from rfl) ?_
 exact fz (show namedP knownP s = namedB s from rfl))
end Go.Proofs.YtpajpkbipagjpaaGreatDoor.Oc
namespace Go.Proofs.YtpajpkbipagjpaaGreatDoor.Oc
open Go Go.RowKit Go.Proofs.YtpajpkbipagjpaaGreatDoor.Vm Go.Proofs.YtpajpkbipagjpaaGreatDoor.Tr Go.IntWalk
set_option maxRecDepth 100000
set_option maxHeartbeats 4000000
def hashT (q : Int) (nl : Bool) : T := if sizeH q = 0 then T.zero else seqT (primT 6 (namedB (nameH q)) :: if nl then [primT 5 []] else [])
theorem zeroE : T.zero.cls = 0 ∧ T.zero.tag = 0 ∧ T.zero.cons = false ∧ T.zero.bytes = [] ∧ T.zero.kids = [] ∧ bytesD [] = [] ∧ nodesD [] = [] := ⟨rfl, rfl, rfl, rfl, rfl, rfl, nodesD_nil⟩
theorem hashT_no {q : Int} (nl : Bool) (h : sizeH q = 0) : hashT q nl = T.zero := if_pos h
theorem hashT_yes {q : Int} (nl : Bool) (h : ¬ sizeH q = 0) : hashT q nl = seqT (primT 6 (namedB (nameH q)) :: if nl then [primT 5 []] else []) := if_neg h
noncomputable def ΦHA : Fns := tab [(58, sizeF), (60, mnameF), (59, cnamedF), (61, cprimF), (62, cseqF)]
theorem ΦHA_ok : Sound E ΦHA := sound_cons (by kernel_rfl) size_ok (sound_cons (by kernel_rfl) mname_ok (sound_cons (by kernel_rfl) cnamed_ok (sound_cons (by kernel_rfl) cprim_ok (sound_cons (by kernel_rfl) cseq_ok (sound_nil)))))
@[go_sem] theorem ΦHA_r : ΦHA 58 = some sizeF ∧ ΦHA 60 = some mnameF ∧ ΦHA 59 = some cnamedF ∧ ΦHA 61 = some cprimF ∧ ΦHA 62 = some cseqF := ⟨rfl, rfl, rfl, rfl, rfl⟩
@[go_sem] noncomputable def halgF : PFn := PF [SI .i64, SB] (fun (q : Int) (nl : Bool) => True) (fun (q : Int) (nl : Bool) => [nodeD (hashT q nl), .int .i64 (if sizeH q = 0 then 200 else 0)])
theorem halg_ok : Pure E 11 halgF := Pure.of_sig (rs := [.cell 4 25, .tmp 5]) (n := 22) Tryz.func11 rfl rfl rfl (Nat.le_of_ble_eq_true rfl) (by
 intro (q : Int) (nl : Bool) hds
 have hl := namedB_len (nameH q)
 refine st0 ?_
 refine rg ΦHA_ok [0, 1, 4] szE ?_
 refine rg ΦHA_ok [0, 1, 4, 9] szE ?_
 refine cn ?_ ?_
 ·intro h; try exact absurd h (by decide)
  all_goals
   have hz : sizeH q = 0 := by assumption
   have hy := And.intro (hashT_no nl hz) (And.intro hz zeroE)
   refine rg ΦHA_ok [4, 5] szE ?_
   exact fz hy
 ·intro h; try exact absurd h (by decide)
  all_goals
   have hz : ¬ sizeH q = 0 := by assumption
   have hy := And.intro (hashT_yes nl hz) hz
   refine rg ΦHA_ok [1, 4, 6] szE ?_
   refine rg ΦHA_ok [4, 6, 15] szE ?_
   refine cn ?_ ?_
   ·intro h; try exact absurd h (by decide)
    all_goals
     refine rgL ΦHA_ok szE ?_
     first | subst (by assumption : nl = true) | subst (by assumption : nl = false)
     simp only [if_true, Bool.false_eq_true, if_false] at hy
     refine rg ΦHA_ok [4, 5] szE ?_
     exact fz hy
   ·intro h; try exact absurd h (by decide)
    all_goals
     first | subst (by assumption : nl = true) | subst (by assumption : nl = false)
     simp only [if_true, Bool.false_eq_true, if_false] at hy
     refine rg ΦHA_ok [4, 5] szE ?_
     exact fz hy)
end Go.Proofs.YtpajpkbipagjpaaGreatDoor.Oc
namespace Go.Proofs.YtpajpkbipagjpaaGreatDoor.Oc
open Go Go.RowKit Go.Proofs.YtpajpkbipagjpaaGreatDoor.Vm Go.Proofs.YtpajpkbipagjpaaGreatDoor.Tr Go.IntWalk
set_option maxRecDepth 100000
set_option maxHeartbeats 4000000
def byI (n : Int) : UInt8 := UInt8.ofNat (n % 256).toNat
theorem wrap8 (n : Int) : IntKind.u8.wrap n = ((byI n).toNat : Int) := by
 rw [IntKind.wrap_u8]; unfold byI; rw [UInt8.toNat_ofNat']; omega
end Go.Proofs.YtpajpkbipagjpaaGreatDoor.Oc
namespace Go.Proofs.YtpajpkbipagjpaaGreatDoor.Oc
open Go Go.RowKit Go.Proofs.YtpajpkbipagjpaaGreatDoor.Vm Go.Proofs.YtpajpkbipagjpaaGreatDoor.Tr Go.IntWalk
set_option maxRecDepth 100000
set_option maxHeartbeats 4000000
def rsaN (q : Int) : List UInt8 := [114, 115, 97] ++ (nameH q).drop 3
theorem hashT_sz (q : Int) (b : Bool) : (hashT q b).sz ≤ 300 := by
 have h1 := namedB_len (nameH q)
 unfold hashT
 split
 ·decide
 ·rw [sz_seq, T.szs_cons, sz_prim]
  cases b <;> simp only [if_true, Bool.false_eq_true, if_false, T.szs_nil, T.szs_cons, sz_prim, List.length_nil] <;> omega
theorem zeq : T.zero.sz = 5 := by decide
end Go.Proofs.YtpajpkbipagjpaaGreatDoor.Oc
namespace Go.Proofs.YtpajpkbipagjpaaGreatDoor.Oc
open Go Go.RowKit Go.Proofs.YtpajpkbipagjpaaGreatDoor.Vm Go.Proofs.YtpajpkbipagjpaaGreatDoor.Tr Go.IntWalk
set_option maxRecDepth 100000
set_option maxHeartbeats 4000000
def firstB (t : T) : List UInt8 := (t.kids.getD 0 T.zero).bytes
def rdH (t : T) : Int := namedH (nameOf (firstB t))
def rdN (t : T) : Bool := decide ((1 : Int) < (t.kids.length : Int))
def rdOk (t : T) : Bool := decide (¬ sizeH (rdH t) = 0 ∧ hashT (rdH t) (rdN t) = t)
theorem rdH_nil {t : T} (h : (t.kids.length : Int) = 0) : namedH (nameOf []) = rdH t := by
 unfold rdH firstB; rw [List.eq_nil_of_length_eq_zero (show t.kids.length = 0 by omega)]; rfl
theorem rdNo {t : T} (h : (!decide ((if sizeH (rdH t) = 0 then 200 else 0 : Int) = 0)) = true ∨ ¬ hashT (rdH t) (rdN t) = t) : rdOk t = false := by
 apply decide_eq_false
 rintro ⟨h1, h2⟩
 rcases h with h | h
 ·rw [if_neg h1] at h; exact absurd h (by decide)
 ·exact h h2
theorem rdYes {t : T} (h : (!decide ((if sizeH (rdH t) = 0 then 200 else 0 : Int) = 0)) = false) (h2 : hashT (rdH t) (rdN t) = t) : rdOk t = true := by
 refine decide_eq_true ⟨fun h1 => ?_, h2⟩
 rw [if_pos h1] at h; exact absurd h (by decide)
theorem firstB_len (t : T) : (firstB t).length ≤ t.sz := by
 unfold firstB
 rcases Nat.eq_zero_or_pos t.kids.length with h | h
 ·rw [List.eq_nil_of_length_eq_zero h]; simp [T.zero, T.bytes]
 ·have h1 := kid_lt (t := t) (i := 0) h
  have h2 := T.sz_eq (t.kids.getD 0 T.zero)
  omega
noncomputable def ΦRH : Fns := tab [(75, onameF), (74, mnamedF), (11, halgF), (76, same0F)]
theorem ΦRH_ok : Sound E ΦRH := sound_cons (by kernel_rfl) oname_ok (sound_cons (by kernel_rfl) mnamed_ok (sound_cons (by kernel_rfl) halg_ok (sound_cons (by kernel_rfl) same0_ok (sound_nil))))
@[go_sem] theorem ΦRH_r : ΦRH 75 = some onameF ∧ ΦRH 74 = some mnamedF ∧ ΦRH 11 = some halgF ∧ ΦRH 76 = some same0F ∧ ΦRH 72 = none ∧ ΦRH 73 = none := ⟨rfl, rfl, rfl, rfl, rfl, rfl⟩
@[go_sem] theorem ΦRH_c : callable Tryz.prog 72 = true ∧ callable Tryz.prog 73 = true := ⟨by kernel_rfl, by kernel_rfl⟩
@[go_sem] noncomputable def rdhalgF : PFn := PF [ST] (fun (t : T) => t.sz ≤ 90000) (fun (t : T) => [.int .i64 (if rdOk t then rdH t else 0), .bool (if rdOk t then rdN t else false), .int .i64 (if rdOk t then 0 else 200)])
theorem rdhalg_ok : Pure E 17 rdhalgF := Pure.of_sig (rs := [.tmp 2, .tmp 3, .tmp 4]) (n := 36) Tryz.func17 rfl rfl rfl (Nat.le_of_ble_eq_true rfl) (by
 intro (t : T) hds
 have hb := firstB_len t
 have hb2 : (t.kids.getD 0 T.zero).bytes.length ≤ t.sz := hb
 have hkl := kids_len t
 refine st0 ?_
 refine rg ΦRH_ok [1] trE ?_
 refine rB ΦRH_ok [1, 5] trE fun K' hK => ?_
 repeat' first | with_reducible apply And.intro | exact sd | exact sde trE | exact sdp trE | refine stk trE ?_ | fail
 refine ec (rs := [.tmp 2]) (n := 7) Tryz.func72 rfl rfl rfl ?_
 refine rg ΦRH_ok [1] trivial ?_
 refine rg ΦRH_ok [2] trivial ?_
 refine nx ?_
 refine rt trE ?_
 repeat' first | (refine lf hK trE ?_; clear hK K') | with_reducible apply And.intro | exact sd | exact sde trE | exact sdp trE | refine stk trE ?_ | fail
 all_goals
  refine rB ΦRH_ok [1, 2] trE fun K' hK => ?_
  repeat' first | with_reducible apply And.intro | exact sd | exact sde trE | exact sdp trE | refine stk trE ?_ | fail
  refine ec (rs := [.cell 2 25]) (n := 26) Tryz.func73 rfl rfl rfl ?_
  refine rg ΦRH_ok [0, 2] trE ?_
  refine rg ΦRH_ok [0, 2, 9] trE ?_
  refine cn ?_ ?_
  ·intro h; try exact absurd h (by decide)
   all_goals
    refine rg ΦRH_ok [2] trE ?_
    refine nx ?_
    refine rt trE ?_
    repeat' first | (refine lf hK trE ?_; clear hK K') | with_reducible apply And.intro | exact sd | exact sde trE | exact sdp trE | refine stk trE ?_ | fail
    all_goals
     first
     | rw [rdH_nil (by assumption)]
     | rw [show namedH (nameOf (t.kids.getD 0 T.zero).bytes) = rdH t from rfl]
     refine rg ΦRH_ok [1, 2, 3] trE ?_
     rw [show decide ((1 : Int) < (t.kids.length : Int)) = rdN t from rfl]
     refine rg ΦRH_ok [1, 2, 3, 6, 7] trE ?_
     have hsz := hashT_sz (rdH t) (rdN t)
     refine rB ΦRH_ok [2, 3, 33] trE fun K' hK => ?_
     repeat' first | (refine lf hK trE ?_; clear hK K') | with_reducible apply And.intro | refine sA trE (fun _ => ?_) fun _ => ?_ | refine sAb trE (fun _ => ?_) fun _ => ?_ | refine sAl trE (fun g => ?_) fun g => ?_ | exact sd | exact sde trE | exact sdp trE | refine stk trE ?_ | fail
     all_goals
      refine cn ?_ ?_
      ·intro h; try exact absurd h (by decide)
       all_goals
        have hy := rdNo (by first | exact .inl (by assumption) | exact .inr (by assumption))
        refine rg ΦRH_ok [2, 3, 4] trE ?_
        exact fz hy
      ·intro h; try exact absurd h (by decide)
       all_goals
        have hy := rdYes (by assumption) (by assumption)
        refine rg ΦRH_ok [2, 3, 4] trE ?_
        exact fz hy
  ·intro h; try exact absurd h (by decide)
   all_goals
    refine rg ΦRH_ok [0, 2, 3] trE ?_
    refine rg ΦRH_ok [2, 3] trE ?_
    refine rg ΦRH_ok [2] trE ?_
    refine nx ?_
    refine rt trE ?_
    repeat' first | (refine lf hK trE ?_; clear hK K') | with_reducible apply And.intro | exact sd | exact sde trE | exact sdp trE | refine stk trE ?_ | fail
    all_goals
     first
     | rw [rdH_nil (by assumption)]
     | rw [show namedH (nameOf (t.kids.getD 0 T.zero).bytes) = rdH t from rfl]
     refine rg ΦRH_ok [1, 2, 3] trE ?_
     rw [show decide ((1 : Int) < (t.kids.length : Int)) = rdN t from rfl]
     refine rg ΦRH_ok [1, 2, 3, 6, 7] trE ?_
     have hsz := hashT_sz (rdH t) (rdN t)
     refine rB ΦRH_ok [2, 3, 33] trE fun K' hK => ?_
     repeat' first | (refine lf hK trE ?_; clear hK K') | with_reducible apply And.intro | refine sA trE (fun _ => ?_) fun _ => ?_ | refine sAb trE (fun _ => ?_) fun _ => ?_ | refine sAl trE (fun g => ?_) fun g => ?_ | exact sd | exact sde trE | exact sdp trE | refine stk trE ?_ | fail
     all_goals
      refine cn ?_ ?_
      ·intro h; try exact absurd h (by decide)
       all_goals
        have hy := rdNo (by first | exact .inl (by assumption) | exact .inr (by assumption))
        refine rg ΦRH_ok [2, 3, 4] trE ?_
        exact fz hy
      ·intro h; try exact absurd h (by decide)
       all_goals
        have hy := rdYes (by assumption) (by assumption)
        refine rg ΦRH_ok [2, 3, 4] trE ?_
        exact fz hy)
end Go.Proofs.YtpajpkbipagjpaaGreatDoor.Oc
namespace Go.Proofs.YtpajpkbipagjpaaGreatDoor.Oc
open Go Go.RowKit Go.Proofs.YtpajpkbipagjpaaGreatDoor.Vm Go.Proofs.YtpajpkbipagjpaaGreatDoor.Tr Go.IntWalk
set_option maxRecDepth 100000
set_option maxHeartbeats 4000000
end Go.Proofs.YtpajpkbipagjpaaGreatDoor.Oc
namespace Go.Proofs.YtpajpkbipagjpaaGreatDoor.Oc
open Go Go.RowKit Go.Proofs.YtpajpkbipagjpaaGreatDoor.Vm Go.Proofs.YtpajpkbipagjpaaGreatDoor.Tr Go.IntWalk
set_option maxRecDepth 100000
set_option maxHeartbeats 4000000
theorem may_of_all {l : List Nat} {k : Nat} (h : k = l.length) (ha : ∀ j, j < k → l.getD j 0 ≤ 9223372036854775807) : mx l ≤ 9223372036854775807 := by
 rw [mx_all]
 intro x hx
 obtain ⟨j, hj, rfl⟩ := List.getElem_of_mem hx
 have := ha j (by omega)
 rwa [List.getD_eq_getElem?_getD, List.getElem?_eq_getElem hj] at this
theorem all_next {l : List Nat} {i : Nat} (hp : i ≤ l.length ∧ ∀ j, j < i → l.getD j 0 ≤ 9223372036854775807) (h : i < l.length) (h2 : l.getD i 0 ≤ 9223372036854775807) : i + 1 ≤ l.length ∧ ∀ j, j < i + 1 → l.getD j 0 ≤ 9223372036854775807 :=
 ⟨h, fun j hj => by
  rcases Nat.lt_or_ge j i with h3 | h3
  ·exact hp.2 j h3
  ·obtain rfl : j = i := by omega
   exact h2⟩
@[go_sem] noncomputable def rmayF : PFn := PF [SN] (fun (l : List Nat) => l.length ≤ 4611686018427387904) (fun (l : List Nat) => [.bool (may l)])
theorem rmay_ok : Pure E 202 rmayF := Pure.of_sig (rs := [.tmp 2]) (n := 48) Tryz.func202 rfl rfl rfl (Nat.le_of_ble_eq_true rfl) (by
 intro (l : List Nat) hds
 refine st0 ?_
 refine rg sound_nil [0] trivial ?_
 refine rB sound_nil [0, 11] trivial fun K' hK => ?_
 repeat' first | (refine lf hK trivial ?_; clear hK K') | with_reducible apply And.intro | refine sA trivial (fun _ => ?_) fun _ => ?_ | refine sAb trivial (fun _ => ?_) fun _ => ?_ | refine sAl trivial (fun g => ?_) fun g => ?_ | exact sd | exact sde trivial | exact sdp trivial | refine stk trivial ?_ | fail
 all_goals
  refine cn ?_ ?_
  ·intro h; try exact absurd h (by decide)
   all_goals
    have hy := may_no l (by omega)
    refine rg sound_nil [2] trivial ?_
    exact fz hy
  ·intro h; try exact absurd h (by decide)
   all_goals
    refine rg sound_nil [0, 3] trivial ?_
    refine nx ?_
    refine VC.loopP (ι := Nat) [0] (fun i => [(3, .dat (.int .i64 (i : Int)))]) (fun _ => []) (fun i => i ≤ l.length ∧ ∀ j, j < i → l.getD j 0 ≤ 9223372036854775807) (fun i => l.length - i) 0 (⟨Nat.zero_le _, fun j hj => absurd hj (Nat.not_lt_zero _)⟩) (et) ?_
    rintro i hp; try dsimp only at hp
    refine st0 ?_
    refine rg sound_nil [0, 3, 15] trivial ?_
    refine cn ?_ ?_
    ·intro h; try exact absurd h (by decide)
     all_goals
      refine rg sound_nil [0, 3, 22] trivial ?_
      refine cn ?_ ?_
      ·intro h; try exact absurd h (by decide)
       all_goals
        have hy := may_no l (by have := mx_ge l i (by omega); omega)
        refine rg sound_nil [2] trivial ?_
        exact fz hy
      ·intro h; try exact absurd h (by decide)
       all_goals
        refine rgL sound_nil trivial ?_
        refine nx ?_
        exact ⟨i + 1, all_next hp (by omega) (by omega), et, by omega⟩
    ·intro h; try exact absurd h (by decide)
     all_goals
      have hm := may_of_all (k := i) (by omega) hp.2
      have h0 := hp.2 0 (by omega)
      have h1 := hp.2 1 (by omega)
      refine rB sound_nil [0, 38] trivial fun K' hK => ?_
      repeat' first | (refine lf hK trivial ?_; clear hK K') | with_reducible apply And.intro | refine sA trivial (fun _ => ?_) fun _ => ?_ | refine sAb trivial (fun _ => ?_) fun _ => ?_ | refine sAl trivial (fun g => ?_) fun g => ?_ | exact sd | exact sde trivial | exact sdp trivial | refine stk trivial ?_ | fail
      all_goals
       refine cn ?_ ?_
       ·intro h; try exact absurd h (by decide)
        all_goals
         have hy := may_no l (by omega)
         refine rg sound_nil [2] trivial ?_
         exact fz hy
       ·intro h; try exact absurd h (by decide)
        all_goals
         have hy : may l = decide (40 * (l.getD 0 0 : Int) + (l.getD 1 0 : Int) < 9223372036854775808) := decide_eq_decide.2 ⟨fun h => by omega, fun h => by omega⟩
         refine rd sound_nil 10 [2] trivial ?_
         exact fz hy)
end Go.Proofs.YtpajpkbipagjpaaGreatDoor.Oc
