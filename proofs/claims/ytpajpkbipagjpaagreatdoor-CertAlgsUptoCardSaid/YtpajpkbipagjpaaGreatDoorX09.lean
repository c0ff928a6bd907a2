/- What functions of the program, of its library and of the document compute: their contracts, and laws about what they compute (X09). No condition. -/
import Derived.Test.YtpajpkbipagjpaaGreatDoorX08
import Derived.Test.YtpajpkbipagjpaaGreatDoorX05
set_option linter.unusedVariables false
set_option linter.unusedSimpArgs false
namespace Go.Proofs.YtpajpkbipagjpaaGreatDoor.Oc
open Go Go.RowKit Go.Proofs.YtpajpkbipagjpaaGreatDoor.Vm Go.Proofs.YtpajpkbipagjpaaGreatDoor.Tr Go.IntWalk
set_option maxRecDepth 100000
set_option maxHeartbeats 4000000
def byI (n : Int) : UInt8 := UInt8.ofNat (n % 256).toNat
def intR : Nat → Int → List UInt8 → List UInt8
  | 0, _, out => out
  | f + 1, n, out => if n / 128 = 0 ∨ n / 128 = -1 then out else intR f (n / 256) (byI (n / 256) :: out)
def intB (n : Int) : List UInt8 := intR 8 n [byI n]
def inB (k : Nat) : Int := [9223372036854775808, 36028797018963968, 140737488355328, 549755813888, 2147483648, 8388608, 32768, 128, 1].getD k 1
theorem inB_le {k : Nat} {m : Int} (hk : k ≤ 8) (h0 : -(inB k) ≤ m) (h1 : m < inB k) (h : ¬ (m / 128 = 0 ∨ m / 128 = -1)) : k < 8 ∧ -(inB (k + 1)) ≤ m / 256 ∧ m / 256 < inB (k + 1) := by
  have : k = 0 ∨ k = 1 ∨ k = 2 ∨ k = 3 ∨ k = 4 ∨ k = 5 ∨ k = 6 ∨ k = 7 ∨ k = 8 := by omega
  rcases this with rfl | rfl | rfl | rfl | rfl | rfl | rfl | rfl | rfl <;> simp [inB] at h0 h1 ⊢ <;> omega
theorem inB_in {k : Nat} {m : Int} (hk : k ≤ 8) (h0 : -(inB k) ≤ m) (h1 : m < inB k) : -9223372036854775808 ≤ m ∧ m < 9223372036854775808 := by
  have : k = 0 ∨ k = 1 ∨ k = 2 ∨ k = 3 ∨ k = 4 ∨ k = 5 ∨ k = 6 ∨ k = 7 ∨ k = 8 := by omega
  rcases this with rfl | rfl | rfl | rfl | rfl | rfl | rfl | rfl | rfl <;> simp [inB] at h0 h1 <;> omega
theorem intR_stop {f : Nat} {m : Int} {out : List UInt8} (h : m / 128 = 0 ∨ m / 128 = -1) : intR f m out = out := by
  cases f with
  | zero => rfl
  | succ f => rw [intR, if_pos h]
theorem intR_step {k : Nat} {m : Int} {out : List UInt8} (hk : k < 8) (h : ¬ (m / 128 = 0 ∨ m / 128 = -1)) : intR (8 - (k + 1)) (m / 256) (byI (m / 256) :: out) = intR (8 - k) m out := by
  rw [show 8 - k = (8 - (k + 1)) + 1 by omega, intR, if_neg h]
theorem intR_len : ∀ (f : Nat) (m : Int) (out : List UInt8), (intR f m out).length ≤ f + out.length
  | 0, _, out => by simp [intR]
  | f + 1, m, out => by
    rw [intR]
    split
    · omega
    · have := intR_len f (m / 256) (byI (m / 256) :: out); simp only [List.length_cons] at this; omega
theorem intB_len (n : Int) : (intB n).length ≤ 9 := intR_len 8 n _
theorem wrap8 (n : Int) : IntKind.u8.wrap n = ((byI n).toNat : Int) := by
  rw [IntKind.wrap_u8]; unfold byI; rw [UInt8.toNat_ofNat']; omega
theorem shrI (m : Int) : m.fdiv (2 ^ min (7 : Int).toNat 64) = m / 128 ∧ m.fdiv (2 ^ min (8 : Int).toNat 64) = m / 256 := ⟨Int.fdiv_eq_ediv_of_nonneg _ (by decide), Int.fdiv_eq_ediv_of_nonneg _ (by decide)⟩
theorem byI_cons (x : UInt8) (l : List UInt8) : [Vm.Data.int .u8 (x.toNat : Int)] :: bytesD l = bytesD (x :: l) := rfl
theorem inE : (∀ n : Int, IntKind.u8.wrap n = ((byI n).toNat : Int)) ∧ (∀ m : Int, m.fdiv (2 ^ min (7 : Int).toNat 64) = m / 128) ∧ (∀ m : Int, m.fdiv (2 ^ min (8 : Int).toNat 64) = m / 256) ∧ (∀ m : Int, m.fdiv 128 = m / 128) ∧ (∀ m : Int, m.fdiv 256 = m / 256) ∧
    (∀ x : UInt8, [[Vm.Data.int .u8 (x.toNat : Int)]] = bytesD [x]) ∧ ∀ (x : UInt8) (l : List UInt8), [Vm.Data.int .u8 (x.toNat : Int)] :: bytesD l = bytesD (x :: l) :=
  ⟨wrap8, fun m => (shrI m).1, fun m => (shrI m).2, fun m => Int.fdiv_eq_ediv_of_nonneg _ (by decide), fun m => Int.fdiv_eq_ediv_of_nonneg _ (by decide), fun _ => rfl, byI_cons⟩
noncomputable def ΦTI : Fns := tab [(109, primF)]
theorem ΦTI_ok : Sound E ΦTI := sound_cons (by kernel_rfl) prim_ok (sound_nil)
@[go_sem] theorem ΦTI_r : ΦTI 109 = some primF := rfl
@[go_sem] noncomputable def tintF : PFn := PF [SI .i64] (fun (n : Int) => -9223372036854775808 ≤ n ∧ n < 9223372036854775808) (fun (n : Int) => [nodeD (primT 2 (intB n))])
theorem tint_ok : Pure E 67 tintF := Pure.of_sig (rs := [.cell 2 25]) (n := 24) Tryz.func67 rfl rfl rfl (Nat.le_of_ble_eq_true rfl) (by
 intro (n : Int) hds
 obtain ⟨hn0, hn1⟩ := hds
 have hbl := intB_len n
 refine st0 ?_
 refine rg ΦTI_ok [0, 2] inE ?_
 refine rg ΦTI_ok [0, 2, 3] inE ?_
 refine nx ?_
 refine VC.loopP (ι := Nat × Int × List UInt8) [2] (fun i => [(0, .dat (.int .i64 i.2.1)), (3, .sl 2 0 i.2.2.length)]) (fun i => [(1, .cells [.dat (.int .i64 0), .dat (.int .i64 0), .dat (.bool false), .nilsl, .nilsl] false), (2, .arr 5 1 (bytesD i.2.2) 0)]) (fun i => i.1 ≤ 8 ∧ -(inB i.1) ≤ i.2.1 ∧ i.2.1 < inB i.1 ∧ i.2.2.length = i.1 + 1 ∧ intR (8 - i.1) i.2.1 i.2.2 = intB n) (fun i => 8 - i.1) (0, n, [byI n]) ⟨Nat.zero_le _, by simp [inB]; omega, by simp [inB]; omega, rfl, rfl⟩ ?_ ?_
 · refine Ent.to rfl rfl rfl ?_ ?_
   · simp -implicitDefEqProofs only [go_sem, Nat.reduceLT, Nat.reduceAdd, Nat.reduceEqDiff, reduceIte, Nat.reduceMul, Nat.reduceSub, reduceCtorEq, Int.reduceNe, Int.reduceEq, ne_eq, Nat.reduceLeDiff, Nat.reduceMod, Nat.reduceDiv, inE]; (try simp only [D.dat.injEq, Vm.Data.int.injEq, true_and, and_true, and_self, eq_self]); (try omega); (try ((repeat' apply And.intro) <;> first | omega | rfl))
   · (repeat' (first | exact all_nil | (refine all_cons ?_ ?_))) <;> (simp -implicitDefEqProofs only [go_sem, Nat.reduceLT, Nat.reduceAdd, Nat.reduceEqDiff, reduceIte, Nat.reduceMul, Nat.reduceSub, reduceCtorEq, Int.reduceNe, Int.reduceEq, ne_eq, Nat.reduceLeDiff, Nat.reduceMod, Nat.reduceDiv]; (try rfl); (try simp only [inE]); try rfl)
 rintro ⟨k, m, out⟩ hp; (try dsimp only at hp); obtain ⟨hk, h0, h1, hl, hc⟩ := hp
 have hi := inB_in hk h0 h1
 refine st0 ?_
 refine rB ΦTI_ok [0, 2, 3, 14] inE fun K' hK => ?_
 repeat' first | (refine lf hK inE ?_; clear hK K') | with_reducible apply And.intro | refine sA inE (fun _ => ?_) fun _ => ?_ | refine sAb inE (fun _ => ?_) fun _ => ?_ | refine sAl inE (fun g => ?_) fun g => ?_ | exact sd | exact sde inE | exact sdp inE | refine stk inE ?_ | fail
 all_goals
  refine cn ?_ ?_
  · intro h; try exact absurd h (by decide)
    all_goals
     have hz : ¬ (m / 128 = 0 ∨ m / 128 = -1) := by simp only [Bool.not_eq_eq_eq_not, Bool.not_true, Bool.not_false, decide_eq_false_iff_not, decide_eq_true_eq] at *; omega
     refine rg ΦTI_ok [0, 2, 3] inE ?_
     refine rgL ΦTI_ok inE ?_
     refine nx ?_
     have hb := inB_le hk h0 h1 hz
     refine ⟨(k + 1, m / 256, byI (m / 256) :: out), ⟨by omega, hb.2.1, hb.2.2, by simp only [List.length_cons]; omega, ?_⟩, ?_, by dsimp only; omega⟩
     · dsimp only; rw [intR_step hb.1 hz]; exact hc
     · refine (Ent.move 3 3 2 (by simp -implicitDefEqProofs only [go_sem, Nat.reduceLT, Nat.reduceAdd, Nat.reduceEqDiff, reduceIte, Nat.reduceMul, Nat.reduceSub, reduceCtorEq, Int.reduceNe, Int.reduceEq, ne_eq, Nat.reduceLeDiff, Nat.reduceMod, Nat.reduceDiv]; try decide) (by simp -implicitDefEqProofs only [go_sem, Nat.reduceLT, Nat.reduceAdd, Nat.reduceEqDiff, reduceIte, Nat.reduceMul, Nat.reduceSub, reduceCtorEq, Int.reduceNe, Int.reduceEq, ne_eq, Nat.reduceLeDiff, Nat.reduceMod, Nat.reduceDiv]; try decide) (by simp -implicitDefEqProofs only [go_sem, Nat.reduceLT, Nat.reduceAdd, Nat.reduceEqDiff, reduceIte, Nat.reduceMul, Nat.reduceSub, reduceCtorEq, Int.reduceNe, Int.reduceEq, ne_eq, Nat.reduceLeDiff, Nat.reduceMod, Nat.reduceDiv]; exact rfl) (by simp -implicitDefEqProofs only [go_sem, Nat.reduceLT, Nat.reduceAdd, Nat.reduceEqDiff, reduceIte, Nat.reduceMul, Nat.reduceSub, reduceCtorEq, Int.reduceNe, Int.reduceEq, ne_eq, Nat.reduceLeDiff, Nat.reduceMod, Nat.reduceDiv]; exact rfl)).trans (Ent.to rfl rfl rfl ?_ ?_)
       · simp -implicitDefEqProofs only [go_sem, Nat.reduceLT, Nat.reduceAdd, Nat.reduceEqDiff, reduceIte, Nat.reduceMul, Nat.reduceSub, reduceCtorEq, Int.reduceNe, Int.reduceEq, ne_eq, Nat.reduceLeDiff, Nat.reduceMod, Nat.reduceDiv]; (try simp only [List.length_cons, Nat.add_comm 1]); (try simp only [D.dat.injEq, Vm.Data.int.injEq, true_and, and_true, and_self, eq_self]); (try omega); (try ((repeat' apply And.intro) <;> first | omega | rfl))
       · (repeat' (first | exact all_nil | (refine all_cons ?_ ?_))) <;> (simp -implicitDefEqProofs only [go_sem, Nat.reduceLT, Nat.reduceAdd, Nat.reduceEqDiff, reduceIte, Nat.reduceMul, Nat.reduceSub, reduceCtorEq, Int.reduceNe, Int.reduceEq, ne_eq, Nat.reduceLeDiff, Nat.reduceMod, Nat.reduceDiv]; (try rfl); try rfl)
  · intro h; try exact absurd h (by decide)
    all_goals
     have hz : m / 128 = 0 ∨ m / 128 = -1 := by simp only [Bool.not_eq_eq_eq_not, Bool.not_true, Bool.not_false, decide_eq_false_iff_not, decide_eq_true_eq] at *; omega
     have hy := (intR_stop (f := 8 - k) (out := out) hz).symm.trans hc
     have ho : out.length ≤ 9 := by omega
     refine rg ΦTI_ok [2] inE ?_
     exact fz hy)
end Go.Proofs.YtpajpkbipagjpaaGreatDoor.Oc
namespace Go.Proofs.YtpajpkbipagjpaaGreatDoor.Oc
open Go Go.RowKit Go.Proofs.YtpajpkbipagjpaaGreatDoor.Vm Go.Proofs.YtpajpkbipagjpaaGreatDoor.Tr Go.IntWalk
set_option maxRecDepth 100000
set_option maxHeartbeats 4000000
def rsaN (q : Int) : List UInt8 := [114, 115, 97] ++ (nameH q).drop 3
def signT (w q : Int) : T := if sizeH q = 0 then T.zero else if w = 1 then seqT [primT 6 (namedB (rsaN q)), primT 5 []] else if w = 2 then
  seqT [primT 6 (namedB [112, 115, 115]), seqT [inT 0 [hashT q true], inT 1 [seqT [primT 6 (namedB [109, 103, 102, 49]), hashT q true]], inT 2 [primT 2 (intB (sizeH q))]]] else T.zero
def signE (w q : Int) : Int := if sizeH q = 0 then 200 else if w = 1 then 0 else if w = 2 then 0 else 200
theorem sizeH_in (q : Int) : -9223372036854775808 ≤ sizeH q ∧ sizeH q < 9223372036854775808 := by unfold sizeH; (repeat' split) <;> omega
theorem nameH_len (q : Int) : (nameH q).length ≤ 6 ∧ (¬ sizeH q = 0 → (nameH q).length = 6) := by unfold nameH sizeH; (repeat' split) <;> simp_all
theorem nameH_take (q : Int) : (nameH q).take ((nameH q).length) = nameH q := List.take_length
theorem hashT_sz (q : Int) (b : Bool) : (hashT q b).sz ≤ 300 := by
  have h1 := namedB_len (nameH q)
  unfold hashT
  split
  · decide
  · rw [sz_seq, T.szs_cons, sz_prim]
    cases b <;> simp only [if_true, Bool.false_eq_true, if_false, T.szs_nil, T.szs_cons, sz_prim, List.length_nil] <;> omega
theorem zeq : T.zero.sz = 5 := by decide
theorem rsaN_eq (q : Int) : 114 :: 115 :: 97 :: List.take (((nameH q).length : Int) - 3).toNat (List.drop (Int.toNat 3) (nameH q)) = rsaN q := by
  rw [List.take_of_length_le (by rw [List.length_drop]; omega)]; rfl
theorem sgz {q : Int} (h : ¬ (if sizeH q = 0 then 200 else 0 : Int) = 0) : sizeH q = 0 := by split at h <;> simp_all
theorem sgn {q : Int} (h : (if sizeH q = 0 then 200 else 0 : Int) = 0) : ¬ sizeH q = 0 := by split at h <;> simp_all
theorem signT_0 {w q : Int} (h : sizeH q = 0) : signT w q = T.zero ∧ signE w q = 200 := ⟨if_pos h, if_pos h⟩
theorem signT_1 {w q : Int} (h : ¬ sizeH q = 0) (h1 : w = 1) : signT w q = seqT [primT 6 (namedB (rsaN q)), primT 5 []] ∧ signE w q = 0 := ⟨by unfold signT; rw [if_neg h, if_pos h1], by unfold signE; rw [if_neg h, if_pos h1]⟩
theorem signT_2 {w q : Int} (h : ¬ sizeH q = 0) (h1 : ¬ w = 1) (h2 : w = 2) : signT w q = seqT [primT 6 (namedB [112, 115, 115]), seqT [inT 0 [hashT q true], inT 1 [seqT [primT 6 (namedB [109, 103, 102, 49]), hashT q true]], inT 2 [primT 2 (intB (sizeH q))]]] ∧ signE w q = 0 :=
  ⟨by unfold signT; rw [if_neg h, if_neg h1, if_pos h2], by unfold signE; rw [if_neg h, if_neg h1, if_pos h2]⟩
theorem signT_3 {w q : Int} (h : ¬ sizeH q = 0) (h1 : ¬ w = 1) (h2 : ¬ w = 2) : signT w q = T.zero ∧ signE w q = 200 := ⟨by unfold signT; rw [if_neg h, if_neg h1, if_neg h2], by unfold signE; rw [if_neg h, if_neg h1, if_neg h2]⟩
noncomputable def ΦSA : Fns := tab [(11, halgF), (60, mnameF), (58, sizeF), (59, cnamedF), (61, cprimF), (62, cseqF), (68, cinF), (67, tintF)]
theorem ΦSA_ok : Sound E ΦSA := sound_cons (by kernel_rfl) halg_ok (sound_cons (by kernel_rfl) mname_ok (sound_cons (by kernel_rfl) size_ok (sound_cons (by kernel_rfl) cnamed_ok (sound_cons (by kernel_rfl) cprim_ok (sound_cons (by kernel_rfl) cseq_ok (sound_cons (by kernel_rfl) cin_ok (sound_cons (by kernel_rfl) tint_ok (sound_nil))))))))
@[go_sem] theorem ΦSA_r : ΦSA 11 = some halgF ∧ ΦSA 60 = some mnameF ∧ ΦSA 58 = some sizeF ∧ ΦSA 59 = some cnamedF ∧ ΦSA 61 = some cprimF ∧ ΦSA 62 = some cseqF ∧ ΦSA 68 = some cinF ∧ ΦSA 67 = some tintF := ⟨rfl, rfl, rfl, rfl, rfl, rfl, rfl, rfl⟩
@[go_sem] noncomputable def salgF : PFn := PF [SI .i64, SI .i64] (fun (w : Int) (q : Int) => True) (fun (w : Int) (q : Int) => [nodeD (signT w q), .int .i64 (signE w q)])
theorem salg_ok : Pure E 13 salgF := Pure.of_sig (rs := [.cell 4 25, .tmp 5]) (n := 54) Tryz.func13 rfl rfl rfl (Nat.le_of_ble_eq_true rfl) (by
 intro (w : Int) (q : Int) hds
 have hs := sizeH_in q
 have hn := nameH_len q
 have hq := hashT_sz q true
 have hb1 := namedB_len (rsaN q)
 have hb2 := namedB_len [112, 115, 115]
 have hb3 := namedB_len [109, 103, 102, 49]
 have hi := intB_len (sizeH q)
 refine st0 ?_
 refine rg ΦSA_ok [0, 1, 4] szE ?_
 refine rg ΦSA_ok [0, 1, 4, 6, 7] szE ?_
 refine rg ΦSA_ok [0, 1, 4, 6, 7, 14] szE ?_
 refine cn ?_ ?_
 · intro h; try exact absurd h (by decide)
   all_goals
    have hz := sgz (by assumption)
    have hy := And.intro (signT_0 (w := w) hz) (And.intro hz zeroE)
    refine rg ΦSA_ok [4, 5] szE ?_
    exact fz hy
 · intro h; try exact absurd h (by decide)
   all_goals
    have hz := sgn (by assumption)
    have hl := hn.2 hz
    refine rg ΦSA_ok [0, 1, 4, 6, 19] szE ?_
    refine cn ?_ ?_
    · intro h; try exact absurd h (by decide)
      all_goals
       have hr := rsaN_eq q
       have hy := signT_1 hz (by assumption)
       refine rg ΦSA_ok [4, 5] (And.intro hr szE) ?_
       exact fz hy
    · intro h; try exact absurd h (by decide)
      all_goals
       refine rg ΦSA_ok [1, 4, 6, 30] szE ?_
       refine cn ?_ ?_
       · intro h; try exact absurd h (by decide)
         all_goals
          have hy := signT_2 hz (by assumption) (by assumption)
          refine rg ΦSA_ok [4, 6, 8] szE ?_
          refine rd ΦSA_ok 17 [4, 5] szE ?_
          exact fz hy
       · intro h; try exact absurd h (by decide)
         all_goals
          have hy := And.intro (signT_3 hz (by assumption) (by assumption)) zeroE
          refine rg ΦSA_ok [4, 5] szE ?_
          exact fz hy)
end Go.Proofs.YtpajpkbipagjpaaGreatDoor.Oc
namespace Go.Proofs.YtpajpkbipagjpaaGreatDoor.Oc
open Go Go.RowKit Go.Proofs.YtpajpkbipagjpaaGreatDoor.Vm Go.Proofs.YtpajpkbipagjpaaGreatDoor.Tr Go.IntWalk
set_option maxRecDepth 100000
set_option maxHeartbeats 4000000
def firstB (t : T) : List UInt8 := (t.kids.getD 0 T.zero).bytes
def rdH (t : T) : Int := namedH (nameOf (firstB t))
def rdN (t : T) : Bool := decide ((1 : Int) < (t.kids.length : Int))
def rdOk (t : T) : Bool := decide (¬ sizeH (rdH t) = 0 ∧ hashT (rdH t) (rdN t) = t)
theorem rdH_nil {t : T} (h : (t.kids.length : Int) = 0) : namedH (nameOf []) = rdH t := by
  unfold rdH firstB; rw [List.eq_nil_of_length_eq_zero (show t.kids.length = 0 by omega)]; rfl
theorem rdNo {t : T} (h : (!decide ((if sizeH (rdH t) = 0 then 200 else 0 : Int) = 0)) = true ∨ ¬ hashT (rdH t) (rdN t) = t) : rdOk t = false := by
  apply decide_eq_false
  rintro ⟨h1, h2⟩
  rcases h with h | h
  · rw [if_neg h1] at h; exact absurd h (by decide)
  · exact h h2
theorem rdYes {t : T} (h : (!decide ((if sizeH (rdH t) = 0 then 200 else 0 : Int) = 0)) = false) (h2 : hashT (rdH t) (rdN t) = t) : rdOk t = true := by
  refine decide_eq_true ⟨fun h1 => ?_, h2⟩
  rw [if_pos h1] at h; exact absurd h (by decide)
theorem firstB_len (t : T) : (firstB t).length ≤ t.sz := by
  unfold firstB
  rcases Nat.eq_zero_or_pos t.kids.length with h | h
  · rw [List.eq_nil_of_length_eq_zero h]; simp [T.zero, T.bytes]
  · have h1 := kid_lt (t := t) (i := 0) h
    have h2 := T.sz_eq (t.kids.getD 0 T.zero)
    omega
noncomputable def ΦRH : Fns := tab [(75, onameF), (74, mnamedF), (11, halgF), (76, same0F)]
theorem ΦRH_ok : Sound E ΦRH := sound_cons (by kernel_rfl) oname_ok (sound_cons (by kernel_rfl) mnamed_ok (sound_cons (by kernel_rfl) halg_ok (sound_cons (by kernel_rfl) same0_ok (sound_nil))))
@[go_sem] theorem ΦRH_r : ΦRH 75 = some onameF ∧ ΦRH 74 = some mnamedF ∧ ΦRH 11 = some halgF ∧ ΦRH 76 = some same0F ∧ ΦRH 72 = none ∧ ΦRH 73 = none := ⟨rfl, rfl, rfl, rfl, rfl, rfl⟩
@[go_sem] theorem ΦRH_c : callable Tryz.prog 72 = true ∧ callable Tryz.prog 73 = true := ⟨by kernel_rfl, by kernel_rfl⟩
@[go_sem] noncomputable def rdhalgF : PFn := PF [ST] (fun (t : T) => t.sz ≤ 90000) (fun (t : T) => [.int .i64 (if rdOk t then rdH t else 0), .bool (if rdOk t then rdN t else false), .int .i64 (if rdOk t then 0 else 200)])
theorem rdhalg_ok : Pure E 17 rdhalgF := Pure.of_sig (rs := [.tmp 2, .tmp 3, .tmp 4]) (n := 36) Tryz.func17 rfl rfl rfl (Nat.le_of_ble_eq_true rfl) (by
 intro (t : T) hds
 have hb := firstB_len t
 have hb2 : (t.kids.getD 0 T.zero).bytes.length ≤ t.sz := hb
 have hkl := kids_len t
 refine st0 ?_
 refine rg ΦRH_ok [1] trE ?_
 refine rB ΦRH_ok [1, 5] trE fun K' hK => ?_
 repeat' first | with_reducible apply And.intro | exact sd | exact sde trE | exact sdp trE | refine stk trE ?_ | fail
 refine ec (rs := [.tmp 2]) (n := 7) Tryz.func72 rfl rfl rfl ?_
 refine rg ΦRH_ok [1] trivial ?_
 refine rg ΦRH_ok [2] trivial ?_
 refine nx ?_
 refine rt trE ?_
 repeat' first | (refine lf hK trE ?_; clear hK K') | with_reducible apply And.intro | exact sd | exact sde trE | exact sdp trE | refine stk trE ?_ | fail
 all_goals
  refine rB ΦRH_ok [1, 2] trE fun K' hK => ?_
  repeat' first | with_reducible apply And.intro | exact sd | exact sde trE | exact sdp trE | refine stk trE ?_ | fail
  refine ec (rs := [.cell 2 25]) (n := 26) Tryz.func73 rfl rfl rfl ?_
  refine rg ΦRH_ok [0, 2] trE ?_
  refine rg ΦRH_ok [0, 2, 9] trE ?_
  refine cn ?_ ?_
  · intro h; try exact absurd h (by decide)
    all_goals
     refine rg ΦRH_ok [2] trE ?_
     refine nx ?_
     refine rt trE ?_
     repeat' first | (refine lf hK trE ?_; clear hK K') | with_reducible apply And.intro | exact sd | exact sde trE | exact sdp trE | refine stk trE ?_ | fail
     all_goals
      first
      | rw [rdH_nil (by assumption)]
      | rw [show namedH (nameOf (t.kids.getD 0 T.zero).bytes) = rdH t from rfl]
      refine rg ΦRH_ok [1, 2, 3] trE ?_
      rw [show decide ((1 : Int) < (t.kids.length : Int)) = rdN t from rfl]
      refine rg ΦRH_ok [1, 2, 3, 6, 7] trE ?_
      have hsz := hashT_sz (rdH t) (rdN t)
      refine rB ΦRH_ok [2, 3, 33] trE fun K' hK => ?_
      repeat' first | (refine lf hK trE ?_; clear hK K') | with_reducible apply And.intro | refine sA trE (fun _ => ?_) fun _ => ?_ | refine sAb trE (fun _ => ?_) fun _ => ?_ | refine sAl trE (fun g => ?_) fun g => ?_ | exact sd | exact sde trE | exact sdp trE | refine stk trE ?_ | fail
      all_goals
       refine cn ?_ ?_
       · intro h; try exact absurd h (by decide)
         all_goals
          have hy := rdNo (by first | exact .inl (by assumption) | exact .inr (by assumption))
          refine rg ΦRH_ok [2, 3, 4] trE ?_
          exact fz hy
       · intro h; try exact absurd h (by decide)
         all_goals
          have hy := rdYes (by assumption) (by assumption)
          refine rg ΦRH_ok [2, 3, 4] trE ?_
          exact fz hy
  · intro h; try exact absurd h (by decide)
    all_goals
     refine rg ΦRH_ok [0, 2, 3] trE ?_
     refine rg ΦRH_ok [2, 3] trE ?_
     refine rg ΦRH_ok [2] trE ?_
     refine nx ?_
     refine rt trE ?_
     repeat' first | (refine lf hK trE ?_; clear hK K') | with_reducible apply And.intro | exact sd | exact sde trE | exact sdp trE | refine stk trE ?_ | fail
     all_goals
      first
      | rw [rdH_nil (by assumption)]
      | rw [show namedH (nameOf (t.kids.getD 0 T.zero).bytes) = rdH t from rfl]
      refine rg ΦRH_ok [1, 2, 3] trE ?_
      rw [show decide ((1 : Int) < (t.kids.length : Int)) = rdN t from rfl]
      refine rg ΦRH_ok [1, 2, 3, 6, 7] trE ?_
      have hsz := hashT_sz (rdH t) (rdN t)
      refine rB ΦRH_ok [2, 3, 33] trE fun K' hK => ?_
      repeat' first | (refine lf hK trE ?_; clear hK K') | with_reducible apply And.intro | refine sA trE (fun _ => ?_) fun _ => ?_ | refine sAb trE (fun _ => ?_) fun _ => ?_ | refine sAl trE (fun g => ?_) fun g => ?_ | exact sd | exact sde trE | exact sdp trE | refine stk trE ?_ | fail
      all_goals
       refine cn ?_ ?_
       · intro h; try exact absurd h (by decide)
         all_goals
          have hy := rdNo (by first | exact .inl (by assumption) | exact .inr (by assumption))
          refine rg ΦRH_ok [2, 3, 4] trE ?_
          exact fz hy
       · intro h; try exact absurd h (by decide)
         all_goals
          have hy := rdYes (by assumption) (by assumption)
          refine rg ΦRH_ok [2, 3, 4] trE ?_
          exact fz hy)
end Go.Proofs.YtpajpkbipagjpaaGreatDoor.Oc
namespace Go.Proofs.YtpajpkbipagjpaaGreatDoor.Oc
open Go Go.RowKit Go.Proofs.YtpajpkbipagjpaaGreatDoor.Vm Go.Proofs.YtpajpkbipagjpaaGreatDoor.Tr Go.IntWalk
set_option maxRecDepth 100000
set_option maxHeartbeats 4000000
def rdI (t : T) : Nat → Nat → Option Nat
  | 0, _ => none
  | f + 1, i => if signT ((1 + i / 4 : Nat) : Int) ((1 + i % 4 : Nat) : Int) = t then some i else rdI t f (i + 1)
def rdSW (t : T) : Int := match rdI t 8 0 with
  | some i => ((1 + i / 4 : Nat) : Int)
  | none => 0
def rdSH (t : T) : Int := match rdI t 8 0 with
  | some i => ((1 + i % 4 : Nat) : Int)
  | none => 0
def rdSE (t : T) : Int := match rdI t 8 0 with
  | some _ => 0
  | none => 200
def rdAt (t : T) (w h : Nat) : Prop := rdI t (8 - (4 * w + h - 5)) (4 * w + h - 5) = rdI t 8 0
theorem rdAt_next {t : T} {w h : Nat} (hw : 1 ≤ w ∧ w ≤ 2) (hh : 1 ≤ h ∧ h ≤ 4) (hp : rdAt t w h) (hn : ¬ signT (w : Int) (h : Int) = t) : rdAt t w (h + 1) := by
  unfold rdAt at hp ⊢
  rw [← hp, show 8 - (4 * w + h - 5) = (8 - (4 * w + (h + 1) - 5)) + 1 by omega, rdI, show 1 + (4 * w + h - 5) / 4 = w by omega, show 1 + (4 * w + h - 5) % 4 = h by omega, if_neg hn, show 4 * w + (h + 1) - 5 = 4 * w + h - 5 + 1 by omega]
theorem rdAt_hit {t : T} {w h : Nat} (hw : 1 ≤ w ∧ w ≤ 2) (hh : 1 ≤ h ∧ h ≤ 4) (hp : rdAt t w h) (hn : signT (w : Int) (h : Int) = t) : rdSW t = w ∧ rdSH t = h ∧ rdSE t = 0 := by
  have e : rdI t 8 0 = some (4 * w + h - 5) := by
    unfold rdAt at hp
    rw [← hp, show 8 - (4 * w + h - 5) = (8 - (4 * w + (h + 1) - 5)) + 1 by omega, rdI, show 1 + (4 * w + h - 5) / 4 = w by omega, show 1 + (4 * w + h - 5) % 4 = h by omega, if_pos hn]
  unfold rdSW rdSH rdSE
  rw [e]
  exact ⟨congrArg Int.ofNat (show 1 + (4 * w + h - 5) / 4 = w by omega), congrArg Int.ofNat (show 1 + (4 * w + h - 5) % 4 = h by omega), rfl⟩
theorem rdAt_end {t : T} (hp : rdAt t 3 1) : rdSW t = 0 ∧ rdSH t = 0 ∧ rdSE t = 200 := by
  have e : rdI t 8 0 = none := by unfold rdAt at hp; rw [← hp]; rfl
  unfold rdSW rdSH rdSE
  rw [e]; exact ⟨rfl, rfl, rfl⟩
theorem rdAt_fin {t : T} {w : Nat} (h : w = 3) (hp : rdAt t w 1) : rdSW t = 0 ∧ rdSH t = 0 ∧ rdSE t = 200 := by subst h; exact rdAt_end hp
theorem rdAt_row {t : T} {w : Nat} (h : rdAt t w 5) : rdAt t (w + 1) 1 := h
theorem signT_sz (w q : Int) : (signT w q).sz ≤ 2000 := by
  have h1 := namedB_len (rsaN q)
  have h2 := namedB_len [112, 115, 115]
  have h3 := namedB_len [109, 103, 102, 49]
  have h4 := hashT_sz q true
  have h5 := intB_len (sizeH q)
  unfold signT
  split
  · decide
  · split
    · simp only [sz_seq, T.szs_cons, sz_prim, T.szs_nil, List.length_nil]; omega
    · split
      · simp only [sz_seq, sz_in, T.szs_cons, sz_prim, T.szs_nil]; omega
      · decide
noncomputable def ΦRG : Fns := tab [(13, salgF), (76, same0F)]
theorem ΦRG_ok : Sound E ΦRG := sound_cons (by kernel_rfl) salg_ok (sound_cons (by kernel_rfl) same0_ok (sound_nil))
@[go_sem] theorem ΦRG_r : ΦRG 13 = some salgF ∧ ΦRG 76 = some same0F ∧ ΦRG 77 = none ∧ ΦRG 115 = none := ⟨rfl, rfl, rfl, rfl⟩
@[go_sem] theorem ΦRG_c : callable Tryz.prog 77 = true ∧ callable Tryz.prog 115 = true := ⟨by kernel_rfl, by kernel_rfl⟩
@[go_sem] noncomputable def rdsalgF : PFn := PF [ST] (fun (t : T) => t.sz ≤ 90000) (fun (t : T) => [.int .i64 (rdSW t), .int .i64 (rdSH t), .int .i64 (rdSE t)])
theorem rdsalg_ok : Pure E 19 rdsalgF := Pure.of_sig (rs := [.tmp 2, .tmp 3, .tmp 4]) (n := 29) Tryz.func19 rfl rfl rfl (Nat.le_of_ble_eq_true rfl) (by
 intro (t : T) hds
 refine st0 ?_
 refine rg ΦRG_ok [1, 8, 9] trE ?_
 refine rg ΦRG_ok [1, 5, 6, 7, 8, 9] trE ?_
 refine rB ΦRG_ok [1, 5, 6, 7, 8, 9, 12] trE fun K' hK => ?_
 repeat' first | with_reducible apply And.intro | exact sd | exact sde trE | exact sdp trE | refine stk trE ?_ | fail
 refine ec (rs := [.tmp 0]) (n := 1) Tryz.func77 rfl rfl rfl ?_
 refine rg ΦRG_ok [] trivial ?_
 refine rg ΦRG_ok [0] trivial ?_
 refine nx ?_
 refine rt trE ?_
 repeat' first | (refine lf hK trE ?_; clear hK K') | with_reducible apply And.intro | exact sd | exact sde trE | exact sdp trE | refine stk trE ?_ | fail
 all_goals
  refine nx ?_
  refine nft 12 ?_
  refine nx ?_
  refine re (rs := []) (n := 17) 8 9 Tryz.func115 rfl rfl rfl fun A B hA hB => ?_
  refine rg ΦRG_ok [0, 2] trE ?_
  refine nx ?_
  refine VC.loopS (ι := Nat) [0] (fun i => [(2, .dat (.int .i64 (i : Int)))]) (fun i => []) (fun i => (1 ≤ i ∧ i ≤ 3) ∧ rdAt t i 1) (fun i => 3 - i) 1 ⟨by omega, rfl⟩ ?_ ?_
  · refine Ent.to rfl rfl rfl ?_ ?_
    · simp -implicitDefEqProofs only [go_sem, Nat.reduceLT, Nat.reduceAdd, Nat.reduceEqDiff, reduceIte, Nat.reduceMul, Nat.reduceSub, reduceCtorEq, Int.reduceNe, Int.reduceEq, ne_eq, Nat.reduceLeDiff, Nat.reduceMod, Nat.reduceDiv]; (try simp only [D.dat.injEq, Vm.Data.int.injEq, true_and, and_true, and_self, eq_self]); (try omega); (try ((repeat' apply And.intro) <;> first | omega | rfl))
    · apply all_at
      · (repeat' (first | exact all_nil | (refine all_cons ?_ ?_))) <;> (simp -implicitDefEqProofs only [go_sem, Nat.reduceLT, Nat.reduceAdd, Nat.reduceEqDiff, reduceIte, Nat.reduceMul, Nat.reduceSub, reduceCtorEq, Int.reduceNe, Int.reduceEq, ne_eq, Nat.reduceLeDiff, Nat.reduceMod, Nat.reduceDiv]; (try rfl); skip)
      · (repeat' (first | exact all_nil | (refine all_cons ?_ ?_))) <;> (simp -implicitDefEqProofs only [go_sem, Nat.reduceLT, Nat.reduceAdd, Nat.reduceEqDiff, reduceIte, Nat.reduceMul, Nat.reduceSub, reduceCtorEq, Int.reduceNe, Int.reduceEq, ne_eq, Nat.reduceLeDiff, Nat.reduceMod, Nat.reduceDiv]; (try rfl); skip)
  intro w hpw; (try dsimp only at hpw)
  refine st0 ?_
  refine rg ΦRG_ok [0, 2, 5] trE ?_
  refine cn ?_ ?_
  · intro h; try exact absurd h (by decide)
    all_goals
     refine rg ΦRG_ok [0, 2, 3] trE ?_
     refine nx ?_
     refine VC.loopS (ι := Nat) [0, 2] (fun i => [(3, .dat (.int .i64 (i : Int)))]) (fun i => []) (fun i => (1 ≤ i ∧ i ≤ 5) ∧ rdAt t w i) (fun i => 5 - i) 1 ⟨by omega, hpw.2⟩ ?_ ?_
     · refine Ent.to rfl rfl rfl ?_ ?_
       · simp -implicitDefEqProofs only [go_sem, Nat.reduceLT, Nat.reduceAdd, Nat.reduceEqDiff, reduceIte, Nat.reduceMul, Nat.reduceSub, reduceCtorEq, Int.reduceNe, Int.reduceEq, ne_eq, Nat.reduceLeDiff, Nat.reduceMod, Nat.reduceDiv]; (try simp only [D.dat.injEq, Vm.Data.int.injEq, true_and, and_true, and_self, eq_self]); (try omega); (try ((repeat' apply And.intro) <;> first | omega | rfl))
       · apply all_at
         · (repeat' (first | exact all_nil | (refine all_cons ?_ ?_))) <;> (simp -implicitDefEqProofs only [go_sem, Nat.reduceLT, Nat.reduceAdd, Nat.reduceEqDiff, reduceIte, Nat.reduceMul, Nat.reduceSub, reduceCtorEq, Int.reduceNe, Int.reduceEq, ne_eq, Nat.reduceLeDiff, Nat.reduceMod, Nat.reduceDiv]; (try rfl); skip)
         · (repeat' (first | exact all_nil | (refine all_cons ?_ ?_))) <;> (simp -implicitDefEqProofs only [go_sem, Nat.reduceLT, Nat.reduceAdd, Nat.reduceEqDiff, reduceIte, Nat.reduceMul, Nat.reduceSub, reduceCtorEq, Int.reduceNe, Int.reduceEq, ne_eq, Nat.reduceLeDiff, Nat.reduceMod, Nat.reduceDiv]; (try rfl); skip)
     intro k hpk; (try dsimp only at hpk)
     refine st0 ?_
     refine rg ΦRG_ok [0, 2, 3, 9] trE ?_
     refine cn ?_ ?_
     · intro h; try exact absurd h (by decide)
       all_goals
        refine rB ΦRG_ok [0, 2, 3, 16] trE fun K' hK => ?_
        repeat' first | with_reducible apply And.intro | exact sd | exact sde trE | exact sdp trE | refine stk trE ?_ | fail
        refine yd hA ?_
        refine rg ΦRG_ok [1, 5, 6, 7, 8, 14] trE ?_
        refine rgL ΦRG_ok trE ?_
        refine nx ?_
        refine yb hB ?_
        have hsz := signT_sz (w : Int) (k : Int)
        all_goals
         refine rg ΦRG_ok [1, 5, 6, 7, 8, 9, 10] trE ?_
         refine rg ΦRG_ok [5, 6, 7, 8, 9, 23] trE ?_
         refine cn ?_ ?_
         · intro h; try exact absurd h (by decide)
           all_goals
            have hy := rdAt_hit (by omega) (by omega) hpk.2 (by assumption)
            refine rg ΦRG_ok [5, 6, 7] trE ?_
            refine nx ?_
            refine rt trE ?_
            repeat' first | (refine lf hK trE ?_; clear hK K') | with_reducible apply And.intro | exact sd | exact sde trE | exact sdp trE | refine stk trE ?_ | fail
            all_goals
             refine cn ?_ ?_
             · intro h; try exact absurd h (by decide)
               all_goals
                refine nx ?_
                refine rt trE ?_
                refine yc ?_
                first
                | have hy2 := hy
                | have hy2 := rdAt_fin (by omega) hpw.2
                refine rd ΦRG_ok 6 [2, 3, 4] trE ?_
                refine nx ?_
                refine pureK_r (pureS_one (l := 8) (by simp -implicitDefEqProofs only [go_sem, Nat.reduceLT, Nat.reduceAdd, Nat.reduceEqDiff, reduceIte, Nat.reduceMul, Nat.reduceSub, reduceCtorEq, Int.reduceNe, Int.reduceEq, ne_eq, Nat.reduceLeDiff, Nat.reduceMod, Nat.reduceDiv]) ?_)
                exact fz hy2
             · intro h; try exact absurd h (by decide)
               all_goals
                refine rgL ΦRG_ok trE ?_
                refine nx ?_
                refine ⟨k + 1, ⟨by omega, rdAt_next (by omega) (by omega) hpk.2 (by assumption)⟩, Ent.to rfl rfl rfl ?_ ?_, by omega⟩
                · simp -implicitDefEqProofs only [go_sem, Nat.reduceLT, Nat.reduceAdd, Nat.reduceEqDiff, reduceIte, Nat.reduceMul, Nat.reduceSub, reduceCtorEq, Int.reduceNe, Int.reduceEq, ne_eq, Nat.reduceLeDiff, Nat.reduceMod, Nat.reduceDiv]; (try simp (disch := omega) only [i64_in, tmodn, tdivn]); (try simp only [D.dat.injEq, Vm.Data.int.injEq, true_and, and_true, and_self, eq_self]); (try omega); (try ((repeat' apply And.intro) <;> first | omega | rfl))
                · apply all_at
                  · (repeat' (first | exact all_nil | (refine all_cons ?_ ?_))) <;> (simp -implicitDefEqProofs only [go_sem, Nat.reduceLT, Nat.reduceAdd, Nat.reduceEqDiff, reduceIte, Nat.reduceMul, Nat.reduceSub, reduceCtorEq, Int.reduceNe, Int.reduceEq, ne_eq, Nat.reduceLeDiff, Nat.reduceMod, Nat.reduceDiv]; (try rfl); skip)
                  · (repeat' (first | exact all_nil | (refine all_cons ?_ ?_))) <;> (simp -implicitDefEqProofs only [go_sem, Nat.reduceLT, Nat.reduceAdd, Nat.reduceEqDiff, reduceIte, Nat.reduceMul, Nat.reduceSub, reduceCtorEq, Int.reduceNe, Int.reduceEq, ne_eq, Nat.reduceLeDiff, Nat.reduceMod, Nat.reduceDiv]; (try rfl); skip)
         · intro h; try exact absurd h (by decide)
           all_goals
            refine nx ?_
            refine rt trE ?_
            repeat' first | (refine lf hK trE ?_; clear hK K') | with_reducible apply And.intro | exact sd | exact sde trE | exact sdp trE | refine stk trE ?_ | fail
            all_goals
             refine cn ?_ ?_
             · intro h; try exact absurd h (by decide)
               all_goals
                refine nx ?_
                refine rt trE ?_
                refine ya ?_
                first
                | have hy2 := hy
                | have hy2 := rdAt_fin (by omega) hpw.2
                refine rd ΦRG_ok 6 [2, 3, 4] trE ?_
                refine nx ?_
                refine pureK_r (pureS_one (l := 8) (by simp -implicitDefEqProofs only [go_sem, Nat.reduceLT, Nat.reduceAdd, Nat.reduceEqDiff, reduceIte, Nat.reduceMul, Nat.reduceSub, reduceCtorEq, Int.reduceNe, Int.reduceEq, ne_eq, Nat.reduceLeDiff, Nat.reduceMod, Nat.reduceDiv]) ?_)
                exact fz hy2
             · intro h; try exact absurd h (by decide)
               all_goals
                refine rgL ΦRG_ok trE ?_
                refine nx ?_
                refine ⟨k + 1, ⟨by omega, rdAt_next (by omega) (by omega) hpk.2 (by assumption)⟩, Ent.to rfl rfl rfl ?_ ?_, by omega⟩
                · simp -implicitDefEqProofs only [go_sem, Nat.reduceLT, Nat.reduceAdd, Nat.reduceEqDiff, reduceIte, Nat.reduceMul, Nat.reduceSub, reduceCtorEq, Int.reduceNe, Int.reduceEq, ne_eq, Nat.reduceLeDiff, Nat.reduceMod, Nat.reduceDiv]; (try simp (disch := omega) only [i64_in, tmodn, tdivn]); (try simp only [D.dat.injEq, Vm.Data.int.injEq, true_and, and_true, and_self, eq_self]); (try omega); (try ((repeat' apply And.intro) <;> first | omega | rfl))
                · apply all_at
                  · (repeat' (first | exact all_nil | (refine all_cons ?_ ?_))) <;> (simp -implicitDefEqProofs only [go_sem, Nat.reduceLT, Nat.reduceAdd, Nat.reduceEqDiff, reduceIte, Nat.reduceMul, Nat.reduceSub, reduceCtorEq, Int.reduceNe, Int.reduceEq, ne_eq, Nat.reduceLeDiff, Nat.reduceMod, Nat.reduceDiv]; (try rfl); skip)
                  · (repeat' (first | exact all_nil | (refine all_cons ?_ ?_))) <;> (simp -implicitDefEqProofs only [go_sem, Nat.reduceLT, Nat.reduceAdd, Nat.reduceEqDiff, reduceIte, Nat.reduceMul, Nat.reduceSub, reduceCtorEq, Int.reduceNe, Int.reduceEq, ne_eq, Nat.reduceLeDiff, Nat.reduceMod, Nat.reduceDiv]; (try rfl); skip)
     · intro h; try exact absurd h (by decide)
       all_goals
        refine rgL ΦRG_ok trE ?_
        refine nx ?_
        refine ⟨w + 1, ⟨by omega, rdAt_row (by rw [show 5 = k by omega]; exact hpk.2)⟩, Ent.to rfl rfl rfl ?_ ?_, by omega⟩
        · simp -implicitDefEqProofs only [go_sem, Nat.reduceLT, Nat.reduceAdd, Nat.reduceEqDiff, reduceIte, Nat.reduceMul, Nat.reduceSub, reduceCtorEq, Int.reduceNe, Int.reduceEq, ne_eq, Nat.reduceLeDiff, Nat.reduceMod, Nat.reduceDiv]; (try simp (disch := omega) only [i64_in, tmodn, tdivn]); (try simp only [D.dat.injEq, Vm.Data.int.injEq, true_and, and_true, and_self, eq_self]); (try omega); (try ((repeat' apply And.intro) <;> first | omega | rfl))
        · apply all_at
          · (repeat' (first | exact all_nil | (refine all_cons ?_ ?_))) <;> (simp -implicitDefEqProofs only [go_sem, Nat.reduceLT, Nat.reduceAdd, Nat.reduceEqDiff, reduceIte, Nat.reduceMul, Nat.reduceSub, reduceCtorEq, Int.reduceNe, Int.reduceEq, ne_eq, Nat.reduceLeDiff, Nat.reduceMod, Nat.reduceDiv]; (try rfl); skip)
          · (repeat' (first | exact all_nil | (refine all_cons ?_ ?_))) <;> (simp -implicitDefEqProofs only [go_sem, Nat.reduceLT, Nat.reduceAdd, Nat.reduceEqDiff, reduceIte, Nat.reduceMul, Nat.reduceSub, reduceCtorEq, Int.reduceNe, Int.reduceEq, ne_eq, Nat.reduceLeDiff, Nat.reduceMod, Nat.reduceDiv]; (try rfl); skip)
  · intro h; try exact absurd h (by decide)
    all_goals
     refine nx ?_
     refine rt trE ?_
     refine ya ?_
     first
     | have hy2 := hy
     | have hy2 := rdAt_fin (by omega) hpw.2
     refine rd ΦRG_ok 6 [2, 3, 4] trE ?_
     refine nx ?_
     refine pureK_r (pureS_one (l := 8) (by simp -implicitDefEqProofs only [go_sem, Nat.reduceLT, Nat.reduceAdd, Nat.reduceEqDiff, reduceIte, Nat.reduceMul, Nat.reduceSub, reduceCtorEq, Int.reduceNe, Int.reduceEq, ne_eq, Nat.reduceLeDiff, Nat.reduceMod, Nat.reduceDiv]) ?_)
     exact fz hy2)
end Go.Proofs.YtpajpkbipagjpaaGreatDoor.Oc
namespace Go.Proofs.YtpajpkbipagjpaaGreatDoor.Oc
open Go Go.RowKit Go.Proofs.YtpajpkbipagjpaaGreatDoor.Vm Go.Proofs.YtpajpkbipagjpaaGreatDoor.Tr Go.IntWalk
set_option maxRecDepth 100000
set_option maxHeartbeats 4000000
theorem may_of_all {l : List Nat} {k : Nat} (h : k = l.length) (ha : ∀ j, j < k → l.getD j 0 ≤ 9223372036854775807) : mx l ≤ 9223372036854775807 := by
  rw [mx_all]
  intro x hx
  obtain ⟨j, hj, rfl⟩ := List.getElem_of_mem hx
  have := ha j (by omega)
  rwa [List.getD_eq_getElem?_getD, List.getElem?_eq_getElem hj] at this
theorem all_next {l : List Nat} {i : Nat} (hp : i ≤ l.length ∧ ∀ j, j < i → l.getD j 0 ≤ 9223372036854775807) (h : i < l.length) (h2 : l.getD i 0 ≤ 9223372036854775807) : i + 1 ≤ l.length ∧ ∀ j, j < i + 1 → l.getD j 0 ≤ 9223372036854775807 :=
  ⟨h, fun j hj => by
    rcases Nat.lt_or_ge j i with h3 | h3
    · exact hp.2 j h3
    · obtain rfl : j = i := by omega
      exact h2⟩
@[go_sem] noncomputable def rmayF : PFn := PF [SN] (fun (l : List Nat) => l.length ≤ 4611686018427387904) (fun (l : List Nat) => [.bool (may l)])
theorem rmay_ok : Pure E 202 rmayF := Pure.of_sig (rs := [.tmp 2]) (n := 48) Tryz.func202 rfl rfl rfl (Nat.le_of_ble_eq_true rfl) (by
 intro (l : List Nat) hds
 refine st0 ?_
 refine rg sound_nil [0] trivial ?_
 refine rB sound_nil [0, 11] trivial fun K' hK => ?_
 repeat' first | (refine lf hK trivial ?_; clear hK K') | with_reducible apply And.intro | refine sA trivial (fun _ => ?_) fun _ => ?_ | refine sAb trivial (fun _ => ?_) fun _ => ?_ | refine sAl trivial (fun g => ?_) fun g => ?_ | exact sd | exact sde trivial | exact sdp trivial | refine stk trivial ?_ | fail
 all_goals
  refine cn ?_ ?_
  · intro h; try exact absurd h (by decide)
    all_goals
     have hy := may_no l (by omega)
     refine rg sound_nil [2] trivial ?_
     exact fz hy
  · intro h; try exact absurd h (by decide)
    all_goals
     refine rg sound_nil [0, 3] trivial ?_
     refine nx ?_
     refine VC.loopP (ι := Nat) [0] (fun i => [(3, .dat (.int .i64 (i : Int)))]) (fun _ => []) (fun i => i ≤ l.length ∧ ∀ j, j < i → l.getD j 0 ≤ 9223372036854775807) (fun i => l.length - i) 0 (⟨Nat.zero_le _, fun j hj => absurd hj (Nat.not_lt_zero _)⟩) (et) ?_
     rintro i hp; try dsimp only at hp
     refine st0 ?_
     refine rg sound_nil [0, 3, 15] trivial ?_
     refine cn ?_ ?_
     · intro h; try exact absurd h (by decide)
       all_goals
        refine rg sound_nil [0, 3, 22] trivial ?_
        refine cn ?_ ?_
        · intro h; try exact absurd h (by decide)
          all_goals
           have hy := may_no l (by have := mx_ge l i (by omega); omega)
           refine rg sound_nil [2] trivial ?_
           exact fz hy
        · intro h; try exact absurd h (by decide)
          all_goals
           refine rgL sound_nil trivial ?_
           refine nx ?_
           exact ⟨i + 1, all_next hp (by omega) (by omega), et, by omega⟩
     · intro h; try exact absurd h (by decide)
       all_goals
        have hm := may_of_all (k := i) (by omega) hp.2
        have h0 := hp.2 0 (by omega)
        have h1 := hp.2 1 (by omega)
        refine rB sound_nil [0, 38] trivial fun K' hK => ?_
        repeat' first | (refine lf hK trivial ?_; clear hK K') | with_reducible apply And.intro | refine sA trivial (fun _ => ?_) fun _ => ?_ | refine sAb trivial (fun _ => ?_) fun _ => ?_ | refine sAl trivial (fun g => ?_) fun g => ?_ | exact sd | exact sde trivial | exact sdp trivial | refine stk trivial ?_ | fail
        all_goals
         refine cn ?_ ?_
         · intro h; try exact absurd h (by decide)
           all_goals
            have hy := may_no l (by omega)
            refine rg sound_nil [2] trivial ?_
            exact fz hy
         · intro h; try exact absurd h (by decide)
           all_goals
            have hy : may l = decide (40 * (l.getD 0 0 : Int) + (l.getD 1 0 : Int) < 9223372036854775808) := decide_eq_decide.2 ⟨fun h => by omega, fun h => by omega⟩
            refine rd sound_nil 10 [2] trivial ?_
            exact fz hy)
end Go.Proofs.YtpajpkbipagjpaaGreatDoor.Oc
namespace Go.Proofs.YtpajpkbipagjpaaGreatDoor.Oc
open Go Go.RowKit Go.Proofs.YtpajpkbipagjpaaGreatDoor.Vm Go.Proofs.YtpajpkbipagjpaaGreatDoor.Tr Go.IntWalk
set_option maxRecDepth 100000
set_option maxHeartbeats 4000000
def formR : Nat → Nat → List UInt8 → List UInt8
  | 0, _, out => out
  | f + 1, n, out => if n = 0 then out else formR f (n / 128) (UInt8.ofNat (128 + n % 128) :: out)
def form1 (n : Nat) : List UInt8 := formR 10 (n / 128) [UInt8.ofNat (n % 128)]
def contF (k m : Nat) (out : List UInt8) : List UInt8 := formR (10 - k) m out
theorem contF_step {k m : Nat} {out : List UInt8} (h : k < 10) (h' : 0 < m) : contF (k + 1) (m / 128) (UInt8.ofNat (128 + m % 128) :: out) = contF k m out := by
  unfold contF
  rw [show 10 - k = (10 - (k + 1)) + 1 by omega]
  simp only [formR]; rw [if_neg (by omega)]
theorem contF_stop {k m : Nat} {out : List UInt8} (h : ¬ (k < 10 ∧ 0 < m)) : contF k m out = out := by
  unfold contF
  cases e : 10 - k with
  | zero => rfl
  | succ f => simp only [formR]; rw [if_pos (by omega)]
theorem formS_len (f n : Nat) (s : List UInt8) : (formR f n s).length ≤ f + s.length := by
  induction f generalizing n s with
  | zero => simp [formR]
  | succ f ih =>
    simp only [formR]
    split
    · omega
    · have := ih (n / 128) (UInt8.ofNat (128 + n % 128) :: s); simp only [List.length_cons] at this; omega
theorem form1_len (n : Nat) : (form1 n).length ≤ 11 := by have := formS_len 10 (n / 128) [UInt8.ofNat (n % 128)]; simpa [form1] using this
theorem fb1 (n : Nat) : IntKind.u8.wrap ((n : Int) % 128) = ((n % 128 : Nat) : Int) := by rw [IntKind.wrap_u8]; omega
theorem fb2 (n : Nat) : IntKind.u8.wrap (IntKind.u64.wrap (128 + (n : Int) % 128)) = ((128 + n % 128 : Nat) : Int) := by rw [u64_in _ (by omega), IntKind.wrap_u8]; omega
theorem byte_cons (l : List UInt8) (x : Nat) (h : x < 256) : [Vm.Data.int .u8 (x : Int)] :: bytesD l = bytesD (UInt8.ofNat x :: l) := by
  simp only [bytesD, List.map_cons, UInt8.toNat_ofNat', Nat.mod_eq_of_lt h]
theorem byte_cons7 (l : List UInt8) (n : Nat) : [Vm.Data.int .u8 ((n % 128 : Nat) : Int)] :: bytesD l = bytesD (UInt8.ofNat (n % 128) :: l) := byte_cons l _ (by omega)
theorem byte_cons8 (l : List UInt8) (n : Nat) : [Vm.Data.int .u8 ((128 + n % 128 : Nat) : Int)] :: bytesD l = bytesD (UInt8.ofNat (128 + n % 128) :: l) := byte_cons l _ (by omega)
theorem byte_one7 (n : Nat) : [[Vm.Data.int .u8 ((n % 128 : Nat) : Int)]] = bytesD [UInt8.ofNat (n % 128)] := byte_cons7 [] n
theorem fmE : (∀ n : Nat, IntKind.u8.wrap ((n : Int) % 128) = ((n % 128 : Nat) : Int)) ∧ (∀ n : Nat, IntKind.u8.wrap (IntKind.u64.wrap (128 + (n : Int) % 128)) = ((128 + n % 128 : Nat) : Int)) ∧ (∀ n : Nat, IntKind.u8.wrap (128 + (n : Int) % 128) = ((128 + n % 128 : Nat) : Int)) ∧
    (∀ (l : List UInt8) (n : Nat), [Vm.Data.int .u8 ((n % 128 : Nat) : Int)] :: bytesD l = bytesD (UInt8.ofNat (n % 128) :: l)) ∧ (∀ (l : List UInt8) (n : Nat), [Vm.Data.int .u8 ((128 + n % 128 : Nat) : Int)] :: bytesD l = bytesD (UInt8.ofNat (128 + n % 128) :: l)) ∧ (∀ n : Nat, [[Vm.Data.int .u8 ((n % 128 : Nat) : Int)]] = bytesD [UInt8.ofNat (n % 128)]) ∧
    (∀ n : Nat, ((n : Int) / 128) = ((n / 128 : Nat) : Int)) := ⟨fb1, fb2, fun n => by rw [IntKind.wrap_u8]; omega, byte_cons7, byte_cons8, byte_one7, fun _ => rfl⟩
@[go_sem] noncomputable def rformO : OFn := OF [SI .u64] (fun (z : Int) => 0 ≤ z ∧ z ≤ 18446744073709551615) 5 1 (fun (z : Int) => bytesD (form1 z.toNat)) (fun (z : Int) => [])
@[go_sem] noncomputable def rformF : PFn := rformO.shut
theorem rform_own : Own E 203 rformO := Own.of_sig (rs := [.tmp 2]) (n := 29) Tryz.func203 rfl rfl rfl (Nat.le_of_ble_eq_true rfl) (by
 intro (z : Int) hds
 obtain ⟨n, rfl⟩ := Int.eq_ofNat_of_zero_le hds.1
 have hn : n ≤ 18446744073709551615 := by omega
 simp only [Int.ofNat_eq_natCast, Int.toNat_natCast]
 refine st0 ?_
 refine rg sound_nil [0] fmE ?_
 refine rg sound_nil [0, 3] fmE ?_
 refine rg sound_nil [0, 3] fmE ?_
 refine rg sound_nil [0, 3, 4] fmE ?_
 refine nx ?_
 refine VC.loopP (ι := Nat × Nat × List UInt8) [] (fun i => [(4, .dat (.int .i64 (i.1 : Int))), (0, .dat (.int .u64 (i.2.1 : Int))), (3, .sl 1 0 i.2.2.length)]) (fun i => [(1, .arr 5 1 (bytesD i.2.2) 0)]) (fun i => i.1 ≤ 10 ∧ i.2.1 ≤ 18446744073709551615 ∧ i.2.2.length ≤ i.1 + 1 ∧ contF i.1 i.2.1 i.2.2 = form1 n) (fun i => 10 - i.1) (0, n / 128, [UInt8.ofNat (n % 128)]) ⟨Nat.zero_le _, by dsimp only; omega, Nat.le_refl _, rfl⟩ ?_ ?_
 · refine Ent.to rfl rfl rfl ?_ ?_
   · simp -implicitDefEqProofs only [go_sem, Nat.reduceLT, Nat.reduceAdd, Nat.reduceEqDiff, reduceIte, Nat.reduceMul, Nat.reduceSub, reduceCtorEq, Int.reduceNe, Int.reduceEq, ne_eq, Nat.reduceLeDiff, Nat.reduceMod, Nat.reduceDiv, fmE]; (try simp only [D.dat.injEq, Vm.Data.int.injEq, true_and, and_true, and_self, eq_self]); (try omega); (try ((repeat' apply And.intro) <;> first | omega | rfl))
   · (repeat' (first | exact all_nil | (refine all_cons ?_ ?_))) <;> (simp -implicitDefEqProofs only [go_sem, Nat.reduceLT, Nat.reduceAdd, Nat.reduceEqDiff, reduceIte, Nat.reduceMul, Nat.reduceSub, reduceCtorEq, Int.reduceNe, Int.reduceEq, ne_eq, Nat.reduceLeDiff, Nat.reduceMod, Nat.reduceDiv]; (try rfl); (try simp only [fmE]); try rfl)
 rintro ⟨k, m, out⟩ hp; (try dsimp only at hp); obtain ⟨hk, hm, hl, hc⟩ := hp
 refine st0 ?_
 refine rB sound_nil [0, 3, 4, 16] fmE fun K' hK => ?_
 repeat' first | (refine lf hK fmE ?_; clear hK K') | with_reducible apply And.intro | refine sA fmE (fun _ => ?_) fun _ => ?_ | refine sAb fmE (fun _ => ?_) fun _ => ?_ | refine sAl fmE (fun g => ?_) fun g => ?_ | exact sd | exact sde fmE | exact sdp fmE | refine stk fmE ?_ | fail
 all_goals
  refine cn ?_ ?_
  · intro h; try exact absurd h (by decide)
    all_goals
     refine rg sound_nil [0, 3, 4] fmE ?_
     refine rgL sound_nil fmE ?_
     refine rgL sound_nil fmE ?_
     refine nx ?_
     refine ⟨(k + 1, m / 128, UInt8.ofNat (128 + m % 128) :: out), ⟨by omega, by dsimp only; omega, by simp only [List.length_cons]; omega, ?_⟩, ?_, by dsimp only; omega⟩
     · dsimp only; rw [contF_step (by omega) (by omega)]; exact hc
     · refine (Ent.move 3 2 1 (by simp -implicitDefEqProofs only [go_sem, Nat.reduceLT, Nat.reduceAdd, Nat.reduceEqDiff, reduceIte, Nat.reduceMul, Nat.reduceSub, reduceCtorEq, Int.reduceNe, Int.reduceEq, ne_eq, Nat.reduceLeDiff, Nat.reduceMod, Nat.reduceDiv]; try decide) (by simp -implicitDefEqProofs only [go_sem, Nat.reduceLT, Nat.reduceAdd, Nat.reduceEqDiff, reduceIte, Nat.reduceMul, Nat.reduceSub, reduceCtorEq, Int.reduceNe, Int.reduceEq, ne_eq, Nat.reduceLeDiff, Nat.reduceMod, Nat.reduceDiv]; try decide) (by simp -implicitDefEqProofs only [go_sem, Nat.reduceLT, Nat.reduceAdd, Nat.reduceEqDiff, reduceIte, Nat.reduceMul, Nat.reduceSub, reduceCtorEq, Int.reduceNe, Int.reduceEq, ne_eq, Nat.reduceLeDiff, Nat.reduceMod, Nat.reduceDiv]; exact rfl) (by simp -implicitDefEqProofs only [go_sem, Nat.reduceLT, Nat.reduceAdd, Nat.reduceEqDiff, reduceIte, Nat.reduceMul, Nat.reduceSub, reduceCtorEq, Int.reduceNe, Int.reduceEq, ne_eq, Nat.reduceLeDiff, Nat.reduceMod, Nat.reduceDiv]; exact rfl)).trans (Ent.to rfl rfl rfl ?_ ?_)
       · simp -implicitDefEqProofs only [go_sem, Nat.reduceLT, Nat.reduceAdd, Nat.reduceEqDiff, reduceIte, Nat.reduceMul, Nat.reduceSub, reduceCtorEq, Int.reduceNe, Int.reduceEq, ne_eq, Nat.reduceLeDiff, Nat.reduceMod, Nat.reduceDiv, fmE]; (try simp only [List.length_cons, Nat.add_comm 1]); (try simp only [D.dat.injEq, Vm.Data.int.injEq, true_and, and_true, and_self, eq_self]); (try omega); (try ((repeat' apply And.intro) <;> first | omega | rfl)); (try trace_state)
       · (repeat' (first | exact all_nil | (refine all_cons ?_ ?_))) <;> (simp -implicitDefEqProofs only [go_sem, Nat.reduceLT, Nat.reduceAdd, Nat.reduceEqDiff, reduceIte, Nat.reduceMul, Nat.reduceSub, reduceCtorEq, Int.reduceNe, Int.reduceEq, ne_eq, Nat.reduceLeDiff, Nat.reduceMod, Nat.reduceDiv]; (try rfl); (try simp only [fmE]); try rfl; try trace_state)
  · intro h; try exact absurd h (by decide)
    all_goals
     have hy := (contF_stop (k := k) (m := m) (out := out) (by omega)).symm.trans hc
     refine rg sound_nil [2] fmE ?_
     exact fz hy)
theorem rform_ok : Pure E 203 rformF := rform_own.pure
end Go.Proofs.YtpajpkbipagjpaaGreatDoor.Oc
namespace Go.Proofs.YtpajpkbipagjpaaGreatDoor.Oc
open Go Go.RowKit Go.Proofs.YtpajpkbipagjpaaGreatDoor.Vm Go.Proofs.YtpajpkbipagjpaaGreatDoor.Tr Go.IntWalk
set_option maxRecDepth 100000
set_option maxHeartbeats 4000000
noncomputable def ΦRB : Fns := tab [(202, rmayF)]
theorem ΦRB_ok : Sound E ΦRB := sound_cons (by kernel_rfl) rmay_ok (sound_nil)
@[go_sem] theorem ΦRB_r : ΦRB 202 = some rmayF ∧ ΦRB 203 = none := ⟨rfl, rfl⟩
@[go_sem] theorem ΦRB_c : callable Tryz.prog 203 = true := by kernel_rfl
noncomputable def ΦRC : Fns := tab [(202, rmayF), (203, rformF)]
theorem ΦRC_ok : Sound E ΦRC := sound_cons (by kernel_rfl) rmay_ok (sound_cons (by kernel_rfl) rform_ok (sound_nil))
@[go_sem] theorem ΦRC_r : ΦRC 202 = some rmayF ∧ ΦRC 203 = some rformF := ⟨rfl, rfl⟩
def rnum (l : List Nat) (k : Nat) : Nat := if k = 1 then 40 * l.getD 0 0 + l.getD 1 0 else l.getD k 0
def rencN (l : List Nat) (k : Nat) : List UInt8 := (List.range (k - 1)).flatMap fun i => form1 (rnum l (i + 1))
def renc (l : List Nat) : List UInt8 := rencN l l.length
theorem rencN_succ (l : List Nat) (k : Nat) (h : 1 ≤ k) : rencN l (k + 1) = rencN l k ++ form1 (rnum l k) := by
  unfold rencN
  rw [show k + 1 - 1 = (k - 1) + 1 by omega, List.range_succ, List.flatMap_append]
  simp [show k - 1 + 1 = k by omega]
theorem rencN_two (l : List Nat) : rencN l 2 = form1 (40 * l.getD 0 0 + l.getD 1 0) := by simp [rencN, rnum]
theorem rnum_pos (l : List Nat) (k : Nat) (h : 2 ≤ k) : rnum l k = l.getD k 0 := if_neg (by omega)
theorem rencN_len (l : List Nat) (k : Nat) : (rencN l k).length ≤ 11 * k := by
  induction k with
  | zero => simp [rencN]
  | succ k ih =>
    rcases Nat.eq_zero_or_pos k with rfl | h
    · simp [rencN]
    · rw [rencN_succ l k h, List.length_append]; have := form1_len (rnum l k); omega
def rencO (l : List Nat) : List UInt8 := if may l then renc l else []
theorem rencO_yes {l : List Nat} (h : may l = true) : rencO l = renc l := if_pos h
theorem rencO_no {l : List Nat} (h : may l = false) : rencO l = [] := by unfold rencO; rw [h]; rfl
theorem form_arg (a b : Nat) (h : 40 * a + b ≤ 9223372036854775807) : IntKind.u64.wrap (IntKind.u64.wrap (40 * (a : Int)) + (b : Int)) = ((40 * a + b : Nat) : Int) := by rw [u64_in (40 * _) (by omega), u64_in _ (by omega)]; omega
theorem rbE : (∀ l : List Nat, form1 (40 * l.getD 0 0 + l.getD 1 0) = rencN l 2) ∧ (∀ (l : List Nat) (k : Nat), 2 ≤ k → rencN l k ++ form1 (l.getD k 0) = rencN l (k + 1)) ∧ (∀ a b : List UInt8, bytesD a ++ bytesD b = bytesD (a ++ b)) ∧ (∀ n : Nat, ((n : Int)).toNat = n) :=
  ⟨fun l => (rencN_two l).symm, fun l k h => by rw [rencN_succ l k (by omega), rnum_pos l k h], fun a b => bytesD_append a b, fun n => Int.toNat_natCast n⟩
theorem arg1 (a b : Nat) : (40 * (a : Int) + (b : Int)).toNat = 40 * a + b := by omega
@[go_sem] noncomputable def rbytesO : OFn := OF [SN] (fun (l : List Nat) => l.length ≤ 100000) 5 1 (fun (l : List Nat) => bytesD (rencO l)) (fun (l : List Nat) => [.int .i64 (if may l then 0 else 140)])
@[go_sem] noncomputable def rbytesF : PFn := rbytesO.shut
theorem rbytes_own : Own E 154 rbytesO := Own.of_sig (rs := [.tmp 2, .tmp 3]) (n := 34) Tryz.func154 rfl rfl rfl (Nat.le_of_ble_eq_true rfl) (by
 intro (l : List Nat) hds
 refine st0 ?_
 refine rg ΦRB_ok [0] trivial ?_
 refine rg ΦRB_ok [0, 4] trivial ?_
 refine rg ΦRB_ok [0, 10] trivial ?_
 refine cn ?_ ?_
 · intro h; try exact absurd h (by decide)
   all_goals
    have hm : may l = false := by simp_all
    have hy := And.intro hm (rencO_no hm)
    refine rg ΦRB_ok [2, 3] trivial ?_
    exact fz hy
 · intro h; try exact absurd h (by decide)
   all_goals
    have hm : may l = true := by simp_all
    have hml := of_decide_eq_true hm
    have hg0 := mx_ge l 0 (by omega)
    have hg1 := mx_ge l 1 (by omega)
    have hfl := form1_len (40 * l.getD 0 0 + l.getD 1 0)
    refine rdB (n := 8) ΦRB_ok [0, 5] trivial fun L hL => ?_
    repeat' first | refine lfC hL trivial fun K' hK => ?_ | with_reducible apply And.intro | exact sd | exact sde trivial | exact sdp trivial | refine stk trivial ?_ | fail
    repeat' first | with_reducible apply And.intro | exact sd | exact sde trivial | exact sdp trivial | refine stk trivial ?_ | fail
    refine oc rform_own 1 trivial ?_
    repeat' first | (refine lf hK trivial ?_; clear hK K') | with_reducible apply And.intro | exact sd | exact sde trivial | exact sdp trivial | refine stk trivial ?_ | fail
    refine rg ΦRB_ok [0, 5, 6] trivial ?_
    refine nx ?_
    refine VC.loopP (ι := Nat) [0] (fun k => [(6, .dat (.int .i64 (k : Int))), (5, .sl 1 0 (rencN l k).length)]) (fun k => [(1, .arr 5 1 (bytesD (rencN l k)) 0)]) (fun k => 2 ≤ k ∧ k ≤ l.length) (fun k => l.length - k) 2 ⟨Nat.le_refl _, by omega⟩ ?_ ?_
    · refine Ent.to rfl rfl rfl ?_ ?_
      · simp -implicitDefEqProofs only [go_sem, Nat.reduceLT, Nat.reduceAdd, Nat.reduceEqDiff, reduceIte, Nat.reduceMul, Nat.reduceSub, reduceCtorEq, Int.reduceNe, Int.reduceEq, ne_eq, Nat.reduceLeDiff, Nat.reduceMod, Nat.reduceDiv, arg1, rencN_two]; (try simp only [D.dat.injEq, Vm.Data.int.injEq, true_and, and_true, and_self, eq_self]); (try omega); (try ((repeat' apply And.intro) <;> first | omega | rfl))
      · (repeat' (first | exact all_nil | (refine all_cons ?_ ?_))) <;> (simp -implicitDefEqProofs only [go_sem, Nat.reduceLT, Nat.reduceAdd, Nat.reduceEqDiff, reduceIte, Nat.reduceMul, Nat.reduceSub, reduceCtorEq, Int.reduceNe, Int.reduceEq, ne_eq, Nat.reduceLeDiff, Nat.reduceMod, Nat.reduceDiv]; (try rfl); (try simp only [arg1, rencN_two]); try rfl)
    intro k hp; (try dsimp only at hp); obtain ⟨h2, hk⟩ := hp; have hrl := rencN_len l k; have hfl := form1_len (l.getD k 0)
    refine st0 ?_
    refine rg ΦRB_ok [0, 5, 6, 23] trivial ?_
    refine cn ?_ ?_
    · intro h; try exact absurd h (by decide)
      all_goals
       have hgk := Nat.le_trans (mx_ge l k (by omega)) hml.2.2.2.2.1
       refine rgL ΦRC_ok trivial ?_
       refine rgL ΦRB_ok trivial ?_
       refine nx ?_
       refine ⟨k + 1, ⟨by omega, by omega⟩, ?_, by omega⟩
       refine Ent.to rfl rfl rfl ?_ ?_
       · simp -implicitDefEqProofs only [go_sem, Nat.reduceLT, Nat.reduceAdd, Nat.reduceEqDiff, reduceIte, Nat.reduceMul, Nat.reduceSub, reduceCtorEq, Int.reduceNe, Int.reduceEq, ne_eq, Nat.reduceLeDiff, Nat.reduceMod, Nat.reduceDiv]; (try simp only [rencN_succ l k (by omega), rnum_pos l k h2, List.length_append, bytesD_len, List.take_of_length_le, Nat.le_refl, Int.toNat_natCast]); (try simp only [D.dat.injEq, Vm.Data.int.injEq, true_and, and_true, and_self, eq_self]); (try omega); (try ((repeat' apply And.intro) <;> first | omega | rfl))
       · (repeat' (first | exact all_nil | (refine all_cons ?_ ?_))) <;> (simp -implicitDefEqProofs only [go_sem, Nat.reduceLT, Nat.reduceAdd, Nat.reduceEqDiff, reduceIte, Nat.reduceMul, Nat.reduceSub, reduceCtorEq, Int.reduceNe, Int.reduceEq, ne_eq, Nat.reduceLeDiff, Nat.reduceMod, Nat.reduceDiv]; (try rfl); (try simp only [rencN_succ l k (by omega), rnum_pos l k h2, bytesD_append, List.take_of_length_le, bytesD_len, Nat.le_refl, Int.toNat_natCast]); try rfl)
    · intro h; try exact absurd h (by decide)
      all_goals
       obtain rfl : k = l.length := by omega
       have hy := And.intro hm (show rencO l = rencN l l.length from rencO_yes hm)
       refine rg ΦRB_ok [2, 3] trivial ?_
       exact fz hy)
theorem rbytes_ok : Pure E 154 rbytesF := rbytes_own.pure
end Go.Proofs.YtpajpkbipagjpaaGreatDoor.Oc
namespace Go.Proofs.YtpajpkbipagjpaaGreatDoor.Oc
open Go Go.RowKit Go.Proofs.YtpajpkbipagjpaaGreatDoor.Vm Go.Proofs.YtpajpkbipagjpaaGreatDoor.Tr Go.IntWalk
set_option maxRecDepth 100000
set_option maxHeartbeats 4000000
def valS (s : List UInt8) (k : Nat) : Nat := (s.take k).foldl (fun n c => 10 * n + (c.toNat - 48)) 0
def digOk (c : UInt8) : Bool := decide (48 ≤ c.toNat ∧ c.toNat ≤ 57)
def wordOk (s : List UInt8) : Bool := decide (0 < s.length ∧ s.length ≤ 19 ∧ ¬ (1 < s.length ∧ (s.getD 0 0).toNat = 48)) && s.all digOk
theorem valS_zero (s : List UInt8) : valS s 0 = 0 := rfl
theorem valS_succ (s : List UInt8) (k : Nat) (h : k < s.length) : valS s (k + 1) = 10 * valS s k + ((s.getD k 0).toNat - 48) := by
  unfold valS
  rw [List.take_add_one, List.getElem?_eq_getElem h, Option.toList_some, List.foldl_append, List.getD_eq_getElem?_getD, List.getElem?_eq_getElem h]
  rfl
theorem word_no1 (s : List UInt8) (h : ¬ (0 < s.length ∧ s.length ≤ 19 ∧ ¬ (1 < s.length ∧ (s.getD 0 0).toNat = 48))) : wordOk s = false := by
  unfold wordOk; rw [decide_eq_false h]; rfl
theorem word_no2 (s : List UInt8) (k : Nat) (hk : k < s.length) (h : ¬ (48 ≤ (s.getD k 0).toNat ∧ (s.getD k 0).toNat ≤ 57)) : wordOk s = false := by
  unfold wordOk
  rw [Bool.and_eq_false_iff]; right
  refine Bool.eq_false_iff.2 fun e => ?_
  have := List.all_eq_true.1 e (s.getD k 0) (by rw [List.getD_eq_getElem?_getD, List.getElem?_eq_getElem hk]; exact List.getElem_mem hk)
  exact h (of_decide_eq_true this)
theorem word_yes (s : List UInt8) (h : 0 < s.length ∧ s.length ≤ 19 ∧ ¬ (1 < s.length ∧ (s.getD 0 0).toNat = 48)) (hj : ∀ j, j < s.length → 48 ≤ (s.getD j 0).toNat ∧ (s.getD j 0).toNat ≤ 57) : wordOk s = true := by
  unfold wordOk
  rw [decide_eq_true h, Bool.true_and]
  refine List.all_eq_true.2 fun c hc => ?_
  obtain ⟨j, hj', e⟩ := List.mem_iff_getElem.1 hc
  have := hj j hj'
  rw [List.getD_eq_getElem?_getD, List.getElem?_eq_getElem hj', e] at this
  exact decide_eq_true this
def numV (s : List UInt8) : Nat := if wordOk s then valS s s.length else 0
def numOk (s : List UInt8) : Bool := wordOk s && decide (valS s s.length ≤ 9223372036854775807)
theorem pow_step (k n d : Nat) (h : n < 10 ^ k) (hd : d ≤ 9) : 10 * n + d < 10 ^ (k + 1) := by rw [Nat.pow_succ]; omega
theorem pow_small (k n : Nat) (h : n < 10 ^ k) (hk : k ≤ 18) : n < 1000000000000000000 := Nat.lt_of_lt_of_le h (Nat.pow_le_pow_right (by decide) hk)
theorem str_at {s : List UInt8} {k : Nat} (h : k < s.length) : s[k]? = some (s.getD k 0) := by rw [List.getD_eq_getElem?_getD, List.getElem?_eq_getElem h]; rfl
theorem nuE : (∀ (s : List UInt8) (k : Nat), k < s.length → s[k]? = some (s.getD k 0)) := fun _ _ h => str_at h
theorem num_no {s : List UInt8} (h : wordOk s = false) : numV s = 0 ∧ numOk s = false := by unfold numV numOk; rw [h]; exact ⟨rfl, rfl⟩
theorem num_yes {s : List UInt8} (h : wordOk s = true) : numV s = valS s s.length ∧ numOk s = decide ((valS s s.length : Int) < 9223372036854775808) := by
  unfold numV numOk; rw [h]; exact ⟨rfl, by rw [Bool.true_and]; exact decide_eq_decide.2 ⟨fun h => by omega, fun h => by omega⟩⟩
theorem num_st {v c : Nat} (h : v < 1000000000000000000) (h1 : 48 ≤ c) (h2 : c ≤ 57) : IntKind.u64.wrap (10 * (v : Int) + IntKind.u64.wrap (IntKind.u8.wrap ((c : Int) - 48))) = ((10 * v + (c - 48) : Nat) : Int) := by
  rw [IntKind.wrap_u8, u64_in (_ % _) (by omega), u64_in _ (by omega)]; omega
theorem num_next {s : List UInt8} {k : Nat} (hp : k ≤ s.length ∧ valS s k < 10 ^ k ∧ ∀ j, j < k → 48 ≤ (s.getD j 0).toNat ∧ (s.getD j 0).toNat ≤ 57) (h : k < s.length) (h1 : 48 ≤ (s.getD k 0).toNat) (h2 : (s.getD k 0).toNat ≤ 57) :
    k + 1 ≤ s.length ∧ valS s (k + 1) < 10 ^ (k + 1) ∧ ∀ j, j < k + 1 → 48 ≤ (s.getD j 0).toNat ∧ (s.getD j 0).toNat ≤ 57 := by
  refine ⟨h, by rw [valS_succ s k h]; exact pow_step k _ _ hp.2.1 (by omega), fun j h' => ?_⟩
  rcases Nat.lt_or_ge j k with h3 | h3
  · exact hp.2.2 j h3
  · obtain rfl : j = k := by omega
    exact ⟨h1, h2⟩
@[go_sem] noncomputable def rnumF : PFn := PF [SS] (fun (s : List UInt8) => s.length ≤ 4611686018427387904) (fun (s : List UInt8) => [.int .u64 (numV s : Int), .bool (numOk s)])
theorem rnum_ok : Pure E 201 rnumF := Pure.of_sig (rs := [.tmp 2, .tmp 3]) (n := 51) Tryz.func201 rfl rfl rfl (Nat.le_of_ble_eq_true rfl) (by
 intro (s : List UInt8) hds
 refine st0 ?_
 refine rg sound_nil [0] nuE ?_
 refine rB sound_nil [0, 23] nuE fun K' hK => ?_
 repeat' first | (refine lf hK nuE ?_; clear hK K') | with_reducible apply And.intro | refine sA nuE (fun _ => ?_) fun _ => ?_ | refine sAb nuE (fun _ => ?_) fun _ => ?_ | refine sAl nuE (fun g => ?_) fun g => ?_ | exact sd | exact sde nuE | exact sdp nuE | refine stk nuE ?_ | fail
 all_goals
  refine cn ?_ ?_
  · intro h; try exact absurd h (by decide)
    all_goals
     have hy := num_no (word_no1 s (by omega))
     refine rg sound_nil [2, 3] nuE ?_
     exact fz hy
  · intro h; try exact absurd h (by decide)
    all_goals
     have hc : 0 < s.length ∧ s.length ≤ 19 ∧ ¬ (1 < s.length ∧ (s.getD 0 0).toNat = 48) := by omega
     refine rg sound_nil [0, 4] nuE ?_
     refine rg sound_nil [0, 4, 5] nuE ?_
     refine nx ?_
     refine VC.loopP (ι := Nat) [0] (fun i => [(5, .dat (.int .i64 (i : Int))), (4, .dat (.int .u64 (valS s i : Int)))]) (fun _ => []) (fun i => i ≤ s.length ∧ valS s i < 10 ^ i ∧ ∀ j, j < i → 48 ≤ (s.getD j 0).toNat ∧ (s.getD j 0).toNat ≤ 57) (fun i => s.length - i) 0 (⟨Nat.zero_le _, by simp [valS_zero], fun j hj => absurd hj (Nat.not_lt_zero _)⟩) (ete (valS_zero s)) ?_
     rintro i hp; try dsimp only at hp
     refine st0 ?_
     refine rg sound_nil [0, 4, 5, 27] nuE ?_
     refine cn ?_ ?_
     · intro h; try exact absurd h (by decide)
       all_goals
        refine rB sound_nil [0, 4, 5, 39] nuE fun K' hK => ?_
        repeat' first | (refine lf hK nuE ?_; clear hK K') | with_reducible apply And.intro | refine sA nuE (fun _ => ?_) fun _ => ?_ | refine sAb nuE (fun _ => ?_) fun _ => ?_ | refine sAl nuE (fun g => ?_) fun g => ?_ | exact sd | exact sde nuE | exact sdp nuE | refine stk nuE ?_ | fail
        all_goals
         refine cn ?_ ?_
         · intro h; try exact absurd h (by decide)
           all_goals
            have hy := num_no (word_no2 s i (by omega) (by omega))
            refine rg sound_nil [2, 3] nuE ?_
            exact fz hy
         · intro h; try exact absurd h (by decide)
           all_goals
            have hvs := pow_small i _ hp.2.1 (by omega)
            have hst := num_st (c := (s.getD i 0).toNat) hvs (by omega) (by omega)
            refine rgL sound_nil nuE ?_
            refine rgL sound_nil nuE ?_
            refine nx ?_
            exact ⟨i + 1, num_next hp (by omega) (by omega) (by omega), ete (And.intro hst (And.intro nuE (valS_succ s i (by omega)))), by omega⟩
     · intro h; try exact absurd h (by decide)
       all_goals
        obtain rfl : i = s.length := by omega
        have hy := num_yes (word_yes s hc hp.2.2)
        refine rg sound_nil [2, 3] nuE ?_
        exact fz hy)
end Go.Proofs.YtpajpkbipagjpaaGreatDoor.Oc

