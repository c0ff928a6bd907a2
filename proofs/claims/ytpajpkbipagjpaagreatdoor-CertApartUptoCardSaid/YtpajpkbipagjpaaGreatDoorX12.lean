/- What functions of the program, of its library and of the document compute: their contracts, and laws about what they compute (X12). No condition. -/
import Derived.Test.YtpajpkbipagjpaaGreatDoorX11
import Derived.Test.YtpajpkbipagjpaaGreatDoorX09
import Derived.Test.YtpajpkbipagjpaaGreatDoorX10
import Derived.Test.YtpajpkbipagjpaaGreatDoorX04
import Derived.Test.YtpajpkbipagjpaaGreatDoorX06
import Derived.Lib.ValidAsc
import Derived.Lib.EndianBits
import Derived.Lib.LaidTab
import Derived.Laws.BitsAllLaws
import Derived.Shelf.Small.Strs
import Derived.Shelf.LaysM
import Derived.Shelf.LaysC
import Derived.Shelf.Strings.Search1
import Derived.Shelf.Strings.Search2
import Derived.Shelf.Strings.Search3
import Derived.Test.YtpajpkbipagjpaaGreatDoorProg
set_option linter.unusedVariables false
set_option linter.unusedSimpArgs false
namespace Go.Proofs.YtpajpkbipagjpaaGreatDoor.Oc
open Go Go.RowKit Go.Proofs.YtpajpkbipagjpaaGreatDoor.Vm Go.Proofs.YtpajpkbipagjpaaGreatDoor.Tr Go.IntWalk
set_option maxRecDepth 100000
set_option maxHeartbeats 4000000
end Go.Proofs.YtpajpkbipagjpaaGreatDoor.Oc
namespace Go.Proofs.YtpajpkbipagjpaaGreatDoor.Oc
open Go Go.RowKit Go.Proofs.YtpajpkbipagjpaaGreatDoor.Vm Go.Proofs.YtpajpkbipagjpaaGreatDoor.Tr Go.IntWalk
set_option maxRecDepth 100000
set_option maxHeartbeats 4000000
end Go.Proofs.YtpajpkbipagjpaaGreatDoor.Oc
namespace Go.Proofs.YtpajpkbipagjpaaGreatDoor.Oc
open Go Go.RowKit Go.Proofs.YtpajpkbipagjpaaGreatDoor.Vm Go.Proofs.YtpajpkbipagjpaaGreatDoor.Tr Go.IntWalk
set_option maxRecDepth 100000
set_option maxHeartbeats 4000000
def wordN (b : List UInt8) : Nat := Lib.leNat (b.take 8)
theorem wordN_lt (b : List UInt8) : wordN b < 18446744073709551616 := by
 have h := Lib.leNat_lt (b.take 8)
 have h2 : (256 : Nat) ^ (b.take 8).length ≤ 256 ^ 8 := Nat.pow_le_pow_right (by decide) (by rw [List.length_take]; omega)
 have h3 : (256 : Nat) ^ 8 = 18446744073709551616 := by decide
 unfold wordN; omega
theorem word_asc {b : List UInt8} (h : 8 ≤ b.length) (hz : wordN b &&& 9259542123273814144 = 0) : ∀ x ∈ b.take 8, x.toNat < 128 := by
 have h8 : (b.take 8).length = 8 := by rw [List.length_take]; omega
 have := Lib.leNat_mask (b.take 8)
 rw [h8, Lib.maskN8] at this
 exact this.1 hz
theorem take8' {b : List UInt8} (h : 8 ≤ b.length) : b.take 8 = [b.getD 0 0, b.getD 1 0, b.getD 2 0, b.getD 3 0, b.getD 4 0, b.getD 5 0, b.getD 6 0, b.getD 7 0] := by
 match b, h with
 | a0 :: a1 :: a2 :: a3 :: a4 :: a5 :: a6 :: a7 :: r, _ => simp
theorem word_eq {b : List UInt8} (h : 8 ≤ b.length) : ((wordN b : Nat) : Int) = ((b.getD 0 0).toNat : Int) + ((b.getD 1 0).toNat : Int) * 256 + ((b.getD 2 0).toNat : Int) * 65536 + ((b.getD 3 0).toNat : Int) * 16777216 + ((b.getD 4 0).toNat : Int) * 4294967296 + ((b.getD 5 0).toNat : Int) * 1099511627776 + ((b.getD 6 0).toNat : Int) * 281474976710656 + ((b.getD 7 0).toNat : Int) * 72057594037927936 := by
 unfold wordN
 rw [take8' h]
 simp only [Lib.leNat]
 omega
theorem or_mask {a b m : Nat} (h : (a ||| b) &&& m = 0) : a &&& m = 0 ∧ b &&& m = 0 := by
 rw [Nat.and_or_distrib_right] at h
 exact Nat.or_eq_zero_iff.1 h
@[go_sem] noncomputable def uwordF : PFn := PF [SY] (fun (b : List UInt8) => 8 ≤ b.length ∧ b.length ≤ 4611686018427387904) (fun (b : List UInt8) => [.int .u64 (wordN b : Int)])
theorem uword_ok : Pure E 332 uwordF := Pure.of_sig (rs := [.tmp 2]) (n := 71) Tryz.func332 rfl rfl rfl (Nat.le_of_ble_eq_true rfl) (by
 intro (b : List UInt8) hds
 obtain ⟨h8, hlen⟩ := hds
 refine st0 ?_
 refine rg sound_nil [0] trivial ?_
 refine cn ?_ ?_
 ·exact fun h => nd h
 intro h
 refine rd sound_nil 47 [2] trivial ?_
 refine fi trivial ?_
 rw [word_eq h8]
 have b0 := (b.getD 0 0).toNat_lt
 have b1 := (b.getD 1 0).toNat_lt
 have b2 := (b.getD 2 0).toNat_lt
 have b3 := (b.getD 3 0).toNat_lt
 have b4 := (b.getD 4 0).toNat_lt
 have b5 := (b.getD 5 0).toNat_lt
 have b6 := (b.getD 6 0).toNat_lt
 have b7 := (b.getD 7 0).toNat_lt
 simp only [show Int.toNat 2 = 2 from rfl, show Int.toNat 3 = 3 from rfl, show Int.toNat 4 = 4 from rfl, show Int.toNat 5 = 5 from rfl, show Int.toNat 6 = 6 from rfl, show Int.toNat 7 = 7 from rfl]
 generalize (b.getD 0 0).toNat = x0 at b0 ⊢
 generalize (b.getD 1 0).toNat = x1 at b1 ⊢
 generalize (b.getD 2 0).toNat = x2 at b2 ⊢
 generalize (b.getD 3 0).toNat = x3 at b3 ⊢
 generalize (b.getD 4 0).toNat = x4 at b4 ⊢
 generalize (b.getD 5 0).toNat = x5 at b5 ⊢
 generalize (b.getD 6 0).toNat = x6 at b6 ⊢
 generalize (b.getD 7 0).toNat = x7 at b7 ⊢
 simp only [show (2 : Int) ^ min (Int.toNat 8) 64 = 256 by decide, show (2 : Int) ^ min (Int.toNat 16) 64 = 65536 by decide, show (2 : Int) ^ min (Int.toNat 24) 64 = 16777216 by decide, show (2 : Int) ^ min (Int.toNat 32) 64 = 4294967296 by decide, show (2 : Int) ^ min (Int.toNat 40) 64 = 1099511627776 by decide, show (2 : Int) ^ min (Int.toNat 48) 64 = 281474976710656 by decide, show (2 : Int) ^ min (Int.toNat 56) 64 = 72057594037927936 by decide]
 simp (disch := omega) only [u64_wrap_id, u64_or8, u64_or16, u64_or24, u64_or32, u64_or40, u64_or48, u64_or56])
end Go.Proofs.YtpajpkbipagjpaaGreatDoor.Oc
namespace Go.Proofs.YtpajpkbipagjpaaGreatDoor.Oc
open Go Go.RowKit Go.Proofs.YtpajpkbipagjpaaGreatDoor.Vm Go.Proofs.YtpajpkbipagjpaaGreatDoor.Tr Go.IntWalk
set_option maxRecDepth 100000
set_option maxHeartbeats 4000000
theorem and_hi {n : Nat} (hn : n < 18446744073709551616) (h : bits .and .u64 (n : Int) 9259542123273814144 = 0) : n &&& 9259542123273814144 = 0 := by
 have e := u64_and_nat n 9259542123273814144 hn (by omega)
 rw [show ((9259542123273814144 : Nat) : Int) = 9259542123273814144 from rfl] at e
 rw [e] at h; omega
theorem or_nat {a b : Nat} (ha : a < 18446744073709551616) (hb : b < 18446744073709551616) : bits .or .u64 (a : Int) (b : Int) = ((a ||| b : Nat) : Int) ∧ (a ||| b) < 18446744073709551616 := by
 have h : (a ||| b) < 2 ^ 64 := Nat.or_lt_two_pow (by omega) (by omega)
 exact ⟨u64_or_nat a b ha hb, by omega⟩
theorem v1 {r : List UInt8} (h0 : 0 < (r.length : Int)) (h : ((r.getD 0 0).toNat : Int) < 128) : validB (r.drop 1) = validB r := by
 refine validB_asc 1 r (by omega) fun x hx => ?_
 match r, h0 with
 | y :: s, _ =>
   simp only [List.take_succ_cons, List.take_zero, List.mem_singleton] at hx
   subst hx
   simp only [List.getD_cons_zero] at h; omega
theorem w8 {r : List UInt8} (hl : 8 ≤ r.length) (h : wordN r &&& 9259542123273814144 = 0) : validB (r.drop 8) = validB r := validB_asc 8 r hl (word_asc hl h)
theorem w8b {r : List UInt8} (hl : 8 ≤ r.length) (h : bits .and .u64 (wordN r : Int) 9259542123273814144 = 0) : validB (r.drop 8) = validB r := w8 hl (and_hi (wordN_lt r) h)
theorem w16 {r : List UInt8} (hl : 16 ≤ r.length) (h : bits .and .u64 (bits .or .u64 (wordN r : Int) (wordN (r.drop 8) : Int)) 9259542123273814144 = 0) : validB (r.drop 16) = validB r := by
 obtain ⟨e, el⟩ := or_nat (wordN_lt r) (wordN_lt (r.drop 8))
 rw [e] at h
 obtain ⟨a, b⟩ := or_mask (and_hi el h)
 rw [show r.drop 16 = (r.drop 8).drop 8 by rw [List.drop_drop], w8 (by rw [List.length_drop]; omega) b, w8 (by omega) a]
theorem w32 {r : List UInt8} (hl : 32 ≤ r.length) (h : bits .and .u64 (bits .or .u64 (bits .or .u64 (wordN r : Int) (wordN (r.drop 8) : Int)) (bits .or .u64 (wordN (r.drop 16) : Int) (wordN (r.drop 24) : Int))) 9259542123273814144 = 0) : validB (r.drop 32) = validB r := by
 obtain ⟨e, el⟩ := or_nat (wordN_lt r) (wordN_lt (r.drop 8))
 obtain ⟨f, fl⟩ := or_nat (wordN_lt (r.drop 16)) (wordN_lt (r.drop 24))
 obtain ⟨g, gl⟩ := or_nat el fl
 rw [e, f, g] at h
 obtain ⟨ab, cd⟩ := or_mask (and_hi gl h)
 obtain ⟨a, b⟩ := or_mask ab
 obtain ⟨c, d⟩ := or_mask cd
 rw [show r.drop 32 = (r.drop 24).drop 8 by rw [List.drop_drop], w8 (by rw [List.length_drop]; omega) d, show r.drop 24 = (r.drop 16).drop 8 by rw [List.drop_drop], w8 (by rw [List.length_drop]; omega) c,
  show r.drop 16 = (r.drop 8).drop 8 by rw [List.drop_drop], w8 (by rw [List.length_drop]; omega) b, w8 (by omega) a]
theorem slE : (∀ r : List UInt8, (r.drop 1).take ((r.length : Int) - 1).toNat = r.drop 1) ∧ (∀ r : List UInt8, (r.drop (Int.toNat 2)).take ((r.length : Int) - 2).toNat = r.drop 2) ∧ (∀ r : List UInt8, (r.drop (Int.toNat 3)).take ((r.length : Int) - 3).toNat = r.drop 3) ∧ (∀ r : List UInt8, (r.drop (Int.toNat 4)).take ((r.length : Int) - 4).toNat = r.drop 4) ∧ (∀ r : List UInt8, (r.drop (Int.toNat 8)).take ((r.length : Int) - 8).toNat = r.drop 8) ∧ (∀ r : List UInt8, (r.drop (Int.toNat 16)).take ((r.length : Int) - 16).toNat = r.drop 16) ∧ (∀ r : List UInt8, (r.drop (Int.toNat 24)).take ((r.length : Int) - 24).toNat = r.drop 24) ∧ (∀ r : List UInt8, (r.drop (Int.toNat 32)).take ((r.length : Int) - 32).toNat = r.drop 32) ∧ (∀ (r : List UInt8) (k : Nat), (r.drop k).length = r.length - k) := by
 refine ⟨?_, ?_, ?_, ?_, ?_, ?_, ?_, ?_, fun r k => List.length_drop⟩
 all_goals (intro r; refine List.take_of_length_le ?_; rw [List.length_drop]; first | omega | (simp; done) | (simp; omega))
theorem fE : ∀ x : UInt8, (firstD.drop (x.toNat * 1)).take 1 = [.int .u8 ((fstU x.toNat : Nat) : Int)] := by
 intro x
 rw [Nat.mul_one]
 have hx := x.toNat_lt
 generalize x.toNat = n at hx ⊢
 unfold firstD
 rw [← List.map_drop, ← List.map_take, List.drop_eq_getElem_cons (by simpa using hx)]
 simp
theorem cls8 {r : List UInt8} (h0 : ¬ r.length = 0) (h1 : ¬ ((r.getD 0 0).toNat : Int) < 128) : (((fstU (r.getD 0 0).toNat : Nat) : Int) = 241 ∧ ch8 r = 0) ∨ (((fstU (r.getD 0 0).toNat : Nat) : Int) = 2 ∧ ch8 r = if 2 ≤ r.length ∧ 128 ≤ c8 r 1 ∧ c8 r 1 ≤ 191 then 2 else 0) ∨ (((fstU (r.getD 0 0).toNat : Nat) : Int) = 19 ∧ ch8 r = if 3 ≤ r.length ∧ 160 ≤ c8 r 1 ∧ c8 r 1 ≤ 191 ∧ 128 ≤ c8 r 2 ∧ c8 r 2 ≤ 191 then 3 else 0) ∨ (((fstU (r.getD 0 0).toNat : Nat) : Int) = 3 ∧ ch8 r = if 3 ≤ r.length ∧ 128 ≤ c8 r 1 ∧ c8 r 1 ≤ 191 ∧ 128 ≤ c8 r 2 ∧ c8 r 2 ≤ 191 then 3 else 0) ∨ (((fstU (r.getD 0 0).toNat : Nat) : Int) = 35 ∧ ch8 r = if 3 ≤ r.length ∧ 128 ≤ c8 r 1 ∧ c8 r 1 ≤ 159 ∧ 128 ≤ c8 r 2 ∧ c8 r 2 ≤ 191 then 3 else 0) ∨ (((fstU (r.getD 0 0).toNat : Nat) : Int) = 52 ∧ ch8 r = if 4 ≤ r.length ∧ 144 ≤ c8 r 1 ∧ c8 r 1 ≤ 191 ∧ 128 ≤ c8 r 2 ∧ c8 r 2 ≤ 191 ∧ 128 ≤ c8 r 3 ∧ c8 r 3 ≤ 191 then 4 else 0) ∨ (((fstU (r.getD 0 0).toNat : Nat) : Int) = 4 ∧ ch8 r = if 4 ≤ r.length ∧ 128 ≤ c8 r 1 ∧ c8 r 1 ≤ 191 ∧ 128 ≤ c8 r 2 ∧ c8 r 2 ≤ 191 ∧ 128 ≤ c8 r 3 ∧ c8 r 3 ≤ 191 then 4 else 0) ∨ (((fstU (r.getD 0 0).toNat : Nat) : Int) = 68 ∧ ch8 r = if 4 ≤ r.length ∧ 128 ≤ c8 r 1 ∧ c8 r 1 ≤ 143 ∧ 128 ≤ c8 r 2 ∧ c8 r 2 ≤ 191 ∧ 128 ≤ c8 r 3 ∧ c8 r 3 ≤ 191 then 4 else 0) := by
 have hx := (r.getD 0 0).toNat_lt
 have hc : ((r.getD 0 0).toNat < 194 ∨ 245 ≤ (r.getD 0 0).toNat) ∨ (194 ≤ (r.getD 0 0).toNat ∧ (r.getD 0 0).toNat ≤ 223) ∨ ((r.getD 0 0).toNat = 224) ∨ (225 ≤ (r.getD 0 0).toNat ∧ (r.getD 0 0).toNat ≤ 239 ∧ (r.getD 0 0).toNat ≠ 237) ∨ ((r.getD 0 0).toNat = 237) ∨ ((r.getD 0 0).toNat = 240) ∨ (241 ≤ (r.getD 0 0).toNat ∧ (r.getD 0 0).toNat ≤ 243) ∨ ((r.getD 0 0).toNat = 244) := by omega
 rcases hc with hc | hc | hc | hc | hc | hc | hc | hc
 ·refine Or.inl ?_; exact ⟨by unfold fstU; (repeat' split) <;> omega, by unfold ch8; rw [if_neg h0, if_neg (by unfold c8; omega), if_neg (by unfold c8; omega), if_neg (by unfold c8; omega), if_neg (by unfold c8; omega)]⟩
 ·refine Or.inr (Or.inl ?_); exact ⟨by unfold fstU; (repeat' split) <;> omega, by unfold ch8; rw [if_neg h0, if_neg (by unfold c8; omega), if_pos (by unfold c8; omega)]⟩
 ·refine Or.inr (Or.inr (Or.inl ?_)); exact ⟨by unfold fstU; (repeat' split) <;> omega, by unfold ch8; rw [if_neg h0, if_neg (by unfold c8; omega), if_neg (by unfold c8; omega), if_pos (by unfold c8; omega), if_pos (show c8 r 0 = 224 by unfold c8; omega), if_neg (show ¬ c8 r 0 = 237 by unfold c8; omega)]⟩
 ·refine Or.inr (Or.inr (Or.inr (Or.inl ?_))); exact ⟨by unfold fstU; (repeat' split) <;> omega, by unfold ch8; rw [if_neg h0, if_neg (by unfold c8; omega), if_neg (by unfold c8; omega), if_pos (by unfold c8; omega), if_neg (show ¬ c8 r 0 = 224 by unfold c8; omega), if_neg (show ¬ c8 r 0 = 237 by unfold c8; omega)]⟩
 ·refine Or.inr (Or.inr (Or.inr (Or.inr (Or.inl ?_)))); exact ⟨by unfold fstU; (repeat' split) <;> omega, by unfold ch8; rw [if_neg h0, if_neg (by unfold c8; omega), if_neg (by unfold c8; omega), if_pos (by unfold c8; omega), if_neg (show ¬ c8 r 0 = 224 by unfold c8; omega), if_pos (show c8 r 0 = 237 by unfold c8; omega)]⟩
 ·refine Or.inr (Or.inr (Or.inr (Or.inr (Or.inr (Or.inl ?_))))); exact ⟨by unfold fstU; (repeat' split) <;> omega, by unfold ch8; rw [if_neg h0, if_neg (by unfold c8; omega), if_neg (by unfold c8; omega), if_neg (by unfold c8; omega), if_pos (by unfold c8; omega), if_pos (show c8 r 0 = 240 by unfold c8; omega), if_neg (show ¬ c8 r 0 = 244 by unfold c8; omega)]⟩
 ·refine Or.inr (Or.inr (Or.inr (Or.inr (Or.inr (Or.inr (Or.inl ?_)))))); exact ⟨by unfold fstU; (repeat' split) <;> omega, by unfold ch8; rw [if_neg h0, if_neg (by unfold c8; omega), if_neg (by unfold c8; omega), if_neg (by unfold c8; omega), if_pos (by unfold c8; omega), if_neg (show ¬ c8 r 0 = 240 by unfold c8; omega), if_neg (show ¬ c8 r 0 = 244 by unfold c8; omega)]⟩
 ·refine Or.inr (Or.inr (Or.inr (Or.inr (Or.inr (Or.inr (Or.inr (?_))))))); exact ⟨by unfold fstU; (repeat' split) <;> omega, by unfold ch8; rw [if_neg h0, if_neg (by unfold c8; omega), if_neg (by unfold c8; omega), if_neg (by unfold c8; omega), if_pos (by unfold c8; omega), if_neg (show ¬ c8 r 0 = 240 by unfold c8; omega), if_pos (show c8 r 0 = 244 by unfold c8; omega)]⟩
theorem cls9 {r : List UInt8} (h0 : ¬ r.length = 0) (h1 : ¬ ((r.getD 0 0).toNat : Int) < 128) : ∃ v lo hi : Int, ((fstU (r.getD 0 0).toNat : Nat) : Int) = v ∧ ((acceptD.drop ((Int.fdiv v (2 ^ min (Int.toNat 4) 8)).toNat * 2)).take 2 = [.int .u8 lo, .int .u8 hi]) ∧ (0 ≤ Int.fdiv v (2 ^ min (Int.toNat 4) 8) ∧ Int.fdiv v (2 ^ min (Int.toNat 4) 8) < 16) ∧ ((bits .and .u8 v 7 = 1 ∧ ch8 r = 0) ∨ (bits .and .u8 v 7 = 2 ∧ ((¬ (2 ≤ r.length ∧ lo ≤ (c8 r 1 : Int) ∧ (c8 r 1 : Int) ≤ hi) → ch8 r = 0) ∧ ((2 ≤ r.length ∧ lo ≤ (c8 r 1 : Int) ∧ (c8 r 1 : Int) ≤ hi) → ch8 r = 2))) ∨ (bits .and .u8 v 7 = 3 ∧ ((¬ (3 ≤ r.length ∧ lo ≤ (c8 r 1 : Int) ∧ (c8 r 1 : Int) ≤ hi ∧ 128 ≤ (c8 r 2 : Int) ∧ (c8 r 2 : Int) ≤ 191) → ch8 r = 0) ∧ ((3 ≤ r.length ∧ lo ≤ (c8 r 1 : Int) ∧ (c8 r 1 : Int) ≤ hi ∧ 128 ≤ (c8 r 2 : Int) ∧ (c8 r 2 : Int) ≤ 191) → ch8 r = 3))) ∨ (bits .and .u8 v 7 = 4 ∧ ((¬ (4 ≤ r.length ∧ lo ≤ (c8 r 1 : Int) ∧ (c8 r 1 : Int) ≤ hi ∧ 128 ≤ (c8 r 2 : Int) ∧ (c8 r 2 : Int) ≤ 191 ∧ 128 ≤ (c8 r 3 : Int) ∧ (c8 r 3 : Int) ≤ 191) → ch8 r = 0) ∧ ((4 ≤ r.length ∧ lo ≤ (c8 r 1 : Int) ∧ (c8 r 1 : Int) ≤ hi ∧ 128 ≤ (c8 r 2 : Int) ∧ (c8 r 2 : Int) ≤ 191 ∧ 128 ≤ (c8 r 3 : Int) ∧ (c8 r 3 : Int) ≤ 191) → ch8 r = 4)))) := by
 rcases cls8 h0 h1 with ⟨hf, hq⟩ | ⟨hf, hq⟩ | ⟨hf, hq⟩ | ⟨hf, hq⟩ | ⟨hf, hq⟩ | ⟨hf, hq⟩ | ⟨hf, hq⟩ | ⟨hf, hq⟩
 ·exact ⟨241, 0, 0, hf, rfl, by decide, (.inl ⟨by decide, hq⟩)⟩
 ·exact ⟨2, 128, 191, hf, rfl, by decide, .inr (.inl ⟨by decide, fun h => hq.trans (if_neg (by omega)), fun h => hq.trans (if_pos (by omega))⟩)⟩
 ·exact ⟨19, 160, 191, hf, rfl, by decide, .inr (.inr (.inl ⟨by decide, fun h => hq.trans (if_neg (by omega)), fun h => hq.trans (if_pos (by omega))⟩))⟩
 ·exact ⟨3, 128, 191, hf, rfl, by decide, .inr (.inr (.inl ⟨by decide, fun h => hq.trans (if_neg (by omega)), fun h => hq.trans (if_pos (by omega))⟩))⟩
 ·exact ⟨35, 128, 159, hf, rfl, by decide, .inr (.inr (.inl ⟨by decide, fun h => hq.trans (if_neg (by omega)), fun h => hq.trans (if_pos (by omega))⟩))⟩
 ·exact ⟨52, 144, 191, hf, rfl, by decide, .inr (.inr (.inr (⟨by decide, fun h => hq.trans (if_neg (by omega)), fun h => hq.trans (if_pos (by omega))⟩)))⟩
 ·exact ⟨4, 128, 191, hf, rfl, by decide, .inr (.inr (.inr (⟨by decide, fun h => hq.trans (if_neg (by omega)), fun h => hq.trans (if_pos (by omega))⟩)))⟩
 ·exact ⟨68, 128, 143, hf, rfl, by decide, .inr (.inr (.inr (⟨by decide, fun h => hq.trans (if_neg (by omega)), fun h => hq.trans (if_pos (by omega))⟩)))⟩
noncomputable def ΦUV : Fns := tab [(332, uwordF)]
theorem ΦUV_ok : Sound E ΦUV := sound_cons (by kernel_rfl) uword_ok (sound_nil)
@[go_sem] theorem ΦUV_r : ΦUV 332 = some uwordF := rfl
@[go_sem] noncomputable def uvalidF : PFn := PF [SY] (fun (b : List UInt8) => b.length ≤ 4611686018427387904) (fun (b : List UInt8) => [.bool (validB b)])
theorem uvalid_ok : Pure E 301 uvalidF := Pure.of_sig (rs := [.tmp 2]) (n := 188) Tryz.func301 rfl rfl rfl (Nat.le_of_ble_eq_true rfl) (by
 intro (b : List UInt8) hds
 refine st0 ?_
 refine rg ΦUV_ok [0] slE ?_
 refine rg ΦUV_ok [0] slE ?_
 refine nx ?_
 refine VC.loopP (ι := List UInt8) [] (fun r => [(0, .dat (.lst (bytesD r)))]) (fun _ => []) (fun r => r.length ≤ b.length ∧ validB r = validB b) (fun r => r.length) b ⟨Nat.le_refl _, rfl⟩ ?_ ?_
 ·rcases Nat.eq_zero_or_pos b.length with hz | hz
  ·obtain rfl := List.eq_nil_of_length_eq_zero hz
   refine (Ent.frzT (t := 0) (x := .lst []) (d := .nilsl) (by simp -implicitDefEqProofs only [go_sem]; exact rfl) (by simp -implicitDefEqProofs only [go_sem]; exact rfl)).trans (Ent.to rfl rfl rfl ?_ ?_)
   ·simp -implicitDefEqProofs only [go_sem]; (try simp only [D.dat.injEq, Vm.Data.int.injEq, true_and, and_true, and_self, eq_self]); (try omega); (try ((repeat' apply And.intro) <;> first | omega | rfl))
   ·(repeat' (first | exact all_nil | (refine all_cons ?_ ?_))) <;> (simp -implicitDefEqProofs only [go_sem]; (try rfl); skip)
  ·rw [clipD_pos (by omega)]
   refine Ent.to rfl rfl rfl ?_ ?_
   ·simp -implicitDefEqProofs only [go_sem]; (try simp only [D.dat.injEq, Vm.Data.int.injEq, true_and, and_true, and_self, eq_self]); (try omega); (try ((repeat' apply And.intro) <;> first | omega | rfl))
   ·(repeat' (first | exact all_nil | (refine all_cons ?_ ?_))) <;> (simp -implicitDefEqProofs only [go_sem]; (try rfl); skip)
 intro r hp; try dsimp only at hp
 obtain ⟨hrl, hrv⟩ := hp
 refine st0 ?_
 refine rg ΦUV_ok [0, 15] slE ?_
 refine cn ?_ ?_
 ·intro h; try exact nd h
  all_goals
   refine rg ΦUV_ok [0, 3] slE ?_
   refine rg ΦUV_ok [0, 3, 20] slE ?_
   refine cn ?_ ?_
   ·intro h; try exact nd h
    all_goals
     have hv1 := v1 (r := r) (by assumption) (by assumption)
     refine rg ΦUV_ok [0] slE ?_
     obtain ⟨r1, er1⟩ : ∃ r1, r.drop 1 = r1 := ⟨_, rfl⟩
     have hl1 : r1.length = r.length - 1 := by rw [← er1, List.length_drop]
     rw [er1] at hv1 ⊢
     have hend : r1.length < r.length ∧ validB r1 = validB r := ⟨by omega, hv1⟩
     refine rB ΦUV_ok [0, 31] slE fun K' hK => ?_
     repeat' first | (refine lf hK slE ?_; clear hK K') | with_reducible apply And.intro | refine sA slE (fun _ => ?_) fun _ => ?_ | refine sAb slE (fun _ => ?_) fun _ => ?_ | refine sAl slE (fun g => ?_) fun g => ?_ | exact sd | exact sde slE | exact sdp slE | refine stk slE ?_ | fail
     all_goals
      refine cn ?_ ?_
      ·intro h; try exact nd h
       all_goals
        have hv8 := (w8b (r := r1) (by omega) (by assumption)).trans hv1
        refine rg ΦUV_ok [0] slE ?_
        obtain ⟨r8, er8⟩ : ∃ r8, r1.drop 8 = r8 := ⟨_, rfl⟩
        have hl8 : r8.length = r1.length - 8 := by rw [← er8, List.length_drop]
        rw [er8] at hv8 ⊢
        have hend : r8.length < r.length ∧ validB r8 = validB r := ⟨by omega, hv8⟩
        refine rdB (n := 13) ΦUV_ok [0, 46] slE fun L hL => ?_
        repeat' first | (refine lfd hL slE ?_; clear hL L) | with_reducible apply And.intro | refine sA slE (fun _ => ?_) fun _ => ?_ | refine sAb slE (fun _ => ?_) fun _ => ?_ | refine sAl slE (fun g => ?_) fun g => ?_ | exact sd | exact sde slE | exact sdp slE | refine stk slE ?_ | fail
        all_goals
         refine cn ?_ ?_
         ·intro h; try exact nd h
          all_goals
           have hv16 := (w16 (r := r8) (by omega) (by assumption)).trans hv8
           refine rg ΦUV_ok [0] slE ?_
           obtain ⟨r16, er16⟩ : ∃ r16, r8.drop 16 = r16 := ⟨_, rfl⟩
           have hl16 : r16.length = r8.length - 16 := by rw [← er16, List.length_drop]
           rw [er16] at hv16 ⊢
           have hend : r16.length < r.length ∧ validB r16 = validB r := ⟨by omega, hv16⟩
           refine nx ?_
           refine VC.loopP (ι := List UInt8) [] (fun s => [(0, .dat (.lst (bytesD s)))]) (fun _ => []) (fun s => s.length < r.length ∧ validB s = validB r) (fun s => s.length) _ hend ?_ ?_
           ·refine Ent.to rfl rfl rfl ?_ ?_
            ·simp -implicitDefEqProofs only [go_sem]; (try simp only [D.dat.injEq, Vm.Data.int.injEq, true_and, and_true, and_self, eq_self]); (try omega); (try ((repeat' apply And.intro) <;> first | omega | rfl))
            ·(repeat' (first | exact all_nil | (refine all_cons ?_ ?_))) <;> (simp -implicitDefEqProofs only [go_sem]; (try rfl); skip)
           intro s hs; try dsimp only at hs
           refine st0 ?_
           have hend := hs
           refine rdB (n := 21) ΦUV_ok [0, 69] slE fun L hL => ?_
           repeat' first | (refine lfd hL slE ?_; clear hL L) | with_reducible apply And.intro | refine sA slE (fun _ => ?_) fun _ => ?_ | refine sAb slE (fun _ => ?_) fun _ => ?_ | refine sAl slE (fun g => ?_) fun g => ?_ | exact sd | exact sde slE | exact sdp slE | refine stk slE ?_ | fail
           all_goals
            refine cn ?_ ?_
            ·intro h; try exact nd h
             all_goals
              have hv32 := (w32 (r := s) (by omega) (by assumption)).trans hs.2
              have hnx : ((s.drop 32).length < r.length ∧ validB (s.drop 32) = validB r) ∧ (s.drop 32).length < s.length := ⟨⟨by rw [List.length_drop]; omega, hv32⟩, by rw [List.length_drop]; omega⟩
              refine rgL ΦUV_ok slE ?_
              refine nx ?_
              refine ⟨_, hnx.1, ?_, hnx.2⟩
              refine Ent.to rfl rfl rfl ?_ ?_
              ·simp -implicitDefEqProofs only [go_sem]; (try simp only [D.dat.injEq, Vm.Data.int.injEq, true_and, and_true, and_self, eq_self]); (try omega); (try ((repeat' apply And.intro) <;> first | omega | rfl))
              ·(repeat' (first | exact all_nil | (refine all_cons ?_ ?_))) <;> (simp -implicitDefEqProofs only [go_sem]; (try rfl); skip)
            ·intro h; try exact nd h
             all_goals
              refine nx ?_
              refine ⟨_, ⟨Nat.le_trans (Nat.le_of_lt hend.1) hrl, hend.2.trans hrv⟩, ?_, hend.1⟩
              refine Ent.to rfl rfl rfl ?_ ?_
              ·simp -implicitDefEqProofs only [go_sem]; (try simp only [D.dat.injEq, Vm.Data.int.injEq, true_and, and_true, and_self, eq_self]); (try omega); (try ((repeat' apply And.intro) <;> first | omega | rfl))
              ·(repeat' (first | exact all_nil | (refine all_cons ?_ ?_))) <;> (simp -implicitDefEqProofs only [go_sem]; (try rfl); skip)
         ·intro h; try exact nd h
          all_goals
           refine nx ?_
           refine ⟨_, ⟨Nat.le_trans (Nat.le_of_lt hend.1) hrl, hend.2.trans hrv⟩, ?_, hend.1⟩
           refine Ent.to rfl rfl rfl ?_ ?_
           ·simp -implicitDefEqProofs only [go_sem]; (try simp only [D.dat.injEq, Vm.Data.int.injEq, true_and, and_true, and_self, eq_self]); (try omega); (try ((repeat' apply And.intro) <;> first | omega | rfl))
           ·(repeat' (first | exact all_nil | (refine all_cons ?_ ?_))) <;> (simp -implicitDefEqProofs only [go_sem]; (try rfl); skip)
      ·intro h; try exact nd h
       all_goals
        refine nx ?_
        refine ⟨_, ⟨Nat.le_trans (Nat.le_of_lt hend.1) hrl, hend.2.trans hrv⟩, ?_, hend.1⟩
        refine Ent.to rfl rfl rfl ?_ ?_
        ·simp -implicitDefEqProofs only [go_sem]; (try simp only [D.dat.injEq, Vm.Data.int.injEq, true_and, and_true, and_self, eq_self]); (try omega); (try ((repeat' apply And.intro) <;> first | omega | rfl))
        ·(repeat' (first | exact all_nil | (refine all_cons ?_ ?_))) <;> (simp -implicitDefEqProofs only [go_sem]; (try rfl); skip)
   ·intro h; try exact nd h
    all_goals
     have hx0 : (r.getD 0 0).toNat < 256 := (r.getD 0 0).toNat_lt
     obtain ⟨v, lo, hi, hf, hA, hI, hQ⟩ := cls9 (r := r) (by omega) (by assumption)
     rcases hQ with ⟨hv, hq⟩ | ⟨hv, hq⟩ | ⟨hv, hq⟩ | ⟨hv, hq⟩
     all_goals
      refine rg ΦUV_ok [0, 4] (And.intro fE (And.intro hf slE)) ?_
      refine rg ΦUV_ok [0, 4, 5] (And.intro hv slE) ?_
      refine rg ΦUV_ok [0, 5, 6] (And.intro hA slE) ?_
      refine rg ΦUV_ok [0, 6, 82] slE ?_
      refine rg ΦUV_ok [0, 6, 82, 83] slE ?_
      refine cn ?_ ?_
      ·intro h; try exact nd h
       all_goals
        refine rdB (n := 19) ΦUV_ok [0, 103] trivial fun L hL => ?_
        repeat' first | (refine lfd hL trivial ?_; clear hL L) | with_reducible apply And.intro | refine sA trivial (fun _ => ?_) fun _ => ?_ | refine sAb trivial (fun _ => ?_) fun _ => ?_ | refine sAl trivial (fun g => ?_) fun g => ?_ | exact sd | exact sde trivial | exact sdp trivial | refine stk trivial ?_ | fail
        all_goals
         refine cn ?_ ?_
         ·intro h; try exact nd h
          all_goals
           have hy : validB b = false := hrv.symm.trans (validB_bad (by omega) (hq.1 (by (try simp only [show Int.toNat 2 = 2 from rfl, show Int.toNat 3 = 3 from rfl] at *); unfold c8; omega)))
           refine rg ΦUV_ok [2] slE ?_
           exact fz hy
         ·intro h; try exact nd h
          all_goals
           have hch := hq.2 (by (try simp only [show Int.toNat 2 = 2 from rfl, show Int.toNat 3 = 3 from rfl] at *); unfold c8; omega)
           have hend : (r.drop 2).length < r.length ∧ validB (r.drop 2) = validB r := ⟨by rw [List.length_drop]; omega, validB_step (by omega) hch⟩
           refine rgL ΦUV_ok slE ?_
           refine nx ?_
           refine ⟨_, ⟨Nat.le_trans (Nat.le_of_lt hend.1) hrl, hend.2.trans hrv⟩, ?_, hend.1⟩
           refine Ent.to rfl rfl rfl ?_ ?_
           ·simp -implicitDefEqProofs only [go_sem]; (try simp only [D.dat.injEq, Vm.Data.int.injEq, true_and, and_true, and_self, eq_self]); (try omega); (try ((repeat' apply And.intro) <;> first | omega | rfl))
           ·(repeat' (first | exact all_nil | (refine all_cons ?_ ?_))) <;> (simp -implicitDefEqProofs only [go_sem]; (try rfl); skip)
      ·intro h; try exact nd h
       all_goals
        refine rg ΦUV_ok [0, 6, 82, 106] slE ?_
        refine cn ?_ ?_
        ·intro h; try exact nd h
         all_goals
          refine rdB (n := 31) ΦUV_ok [0, 138] trivial fun L hL => ?_
          repeat' first | (refine lfd hL trivial ?_; clear hL L) | with_reducible apply And.intro | refine sA trivial (fun _ => ?_) fun _ => ?_ | refine sAb trivial (fun _ => ?_) fun _ => ?_ | refine sAl trivial (fun g => ?_) fun g => ?_ | exact sd | exact sde trivial | exact sdp trivial | refine stk trivial ?_ | fail
          all_goals
           refine cn ?_ ?_
           ·intro h; try exact nd h
            all_goals
             have hy : validB b = false := hrv.symm.trans (validB_bad (by omega) (hq.1 (by (try simp only [show Int.toNat 2 = 2 from rfl, show Int.toNat 3 = 3 from rfl] at *); unfold c8; omega)))
             refine rg ΦUV_ok [2] slE ?_
             exact fz hy
           ·intro h; try exact nd h
            all_goals
             have hch := hq.2 (by (try simp only [show Int.toNat 2 = 2 from rfl, show Int.toNat 3 = 3 from rfl] at *); unfold c8; omega)
             have hend : (r.drop 3).length < r.length ∧ validB (r.drop 3) = validB r := ⟨by rw [List.length_drop]; omega, validB_step (by omega) hch⟩
             refine rgL ΦUV_ok slE ?_
             refine nx ?_
             refine ⟨_, ⟨Nat.le_trans (Nat.le_of_lt hend.1) hrl, hend.2.trans hrv⟩, ?_, hend.1⟩
             refine Ent.to rfl rfl rfl ?_ ?_
             ·simp -implicitDefEqProofs only [go_sem]; (try simp only [D.dat.injEq, Vm.Data.int.injEq, true_and, and_true, and_self, eq_self]); (try omega); (try ((repeat' apply And.intro) <;> first | omega | rfl))
             ·(repeat' (first | exact all_nil | (refine all_cons ?_ ?_))) <;> (simp -implicitDefEqProofs only [go_sem]; (try rfl); skip)
        ·intro h; try exact nd h
         all_goals
          refine rg ΦUV_ok [0, 6, 141] slE ?_
          refine cn ?_ ?_
          ·intro h; try exact nd h
           all_goals
            refine rdB (n := 43) ΦUV_ok [0, 185] trivial fun L hL => ?_
            repeat' first | (refine lfd hL trivial ?_; clear hL L) | with_reducible apply And.intro | refine sA trivial (fun _ => ?_) fun _ => ?_ | refine sAb trivial (fun _ => ?_) fun _ => ?_ | refine sAl trivial (fun g => ?_) fun g => ?_ | exact sd | exact sde trivial | exact sdp trivial | refine stk trivial ?_ | fail
            all_goals
             refine cn ?_ ?_
             ·intro h; try exact nd h
              all_goals
               have hy : validB b = false := hrv.symm.trans (validB_bad (by omega) (hq.1 (by (try simp only [show Int.toNat 2 = 2 from rfl, show Int.toNat 3 = 3 from rfl] at *); unfold c8; omega)))
               refine rg ΦUV_ok [2] slE ?_
               exact fz hy
             ·intro h; try exact nd h
              all_goals
               have hch := hq.2 (by (try simp only [show Int.toNat 2 = 2 from rfl, show Int.toNat 3 = 3 from rfl] at *); unfold c8; omega)
               have hend : (r.drop 4).length < r.length ∧ validB (r.drop 4) = validB r := ⟨by rw [List.length_drop]; omega, validB_step (by omega) hch⟩
               refine rgL ΦUV_ok slE ?_
               refine nx ?_
               refine ⟨_, ⟨Nat.le_trans (Nat.le_of_lt hend.1) hrl, hend.2.trans hrv⟩, ?_, hend.1⟩
               refine Ent.to rfl rfl rfl ?_ ?_
               ·simp -implicitDefEqProofs only [go_sem]; (try simp only [D.dat.injEq, Vm.Data.int.injEq, true_and, and_true, and_self, eq_self]); (try omega); (try ((repeat' apply And.intro) <;> first | omega | rfl))
               ·(repeat' (first | exact all_nil | (refine all_cons ?_ ?_))) <;> (simp -implicitDefEqProofs only [go_sem]; (try rfl); skip)
          ·intro h; try exact nd h
           all_goals
            have hy : validB b = false := hrv.symm.trans (validB_bad (by omega) hq)
            refine rg ΦUV_ok [2] slE ?_
            exact fz hy
 ·intro h; try exact nd h
  all_goals
   have hy : validB b = true := hrv.symm.trans (validB_nil (by omega))
   refine rg ΦUV_ok [2] slE ?_
   exact fz hy)
end Go.Proofs.YtpajpkbipagjpaaGreatDoor.Oc
namespace Go.Proofs
open Go.Shelf
def Tryz.lays137_ren : Go.Shelf.Ren := ⟨fun | 137 => 303 | 217 => 325 | 266 => 345 | n => n, fun | 9 => 9 | 5 => 5 | 3 => 3 | n => n, fun | n => n⟩
theorem Tryz.lays137 : Go.Proofs.Lays.n137 Tryz.prog Tryz.lays137_ren := {
 mixed := by kernel_rfl
 f137 := Tryz.func303.trans (congrArg some (by kernel_rfl))
 f217 := Tryz.func325.trans (congrArg some (by kernel_rfl))
 f266 := Tryz.func345.trans (congrArg some (by kernel_rfl))
 t3 := Tryz.underlying3
 a3 := Tryz.isAgg3
 z3 := Tryz.sizeOf3
 v3 := Tryz.zeroValue3
 t5 := Tryz.underlying5
 a5 := Tryz.isAgg5
 z5 := Tryz.sizeOf5
 v5 := Tryz.zeroValue5
 t9 := Tryz.underlying9
 a9 := Tryz.isAgg9
 z9 := Tryz.sizeOf9
 v9 := Tryz.zeroValue9 }
open Go.RowKit in
theorem Tryz.strings_IndexByte (s : ByteArray) (c : Int) (w : World) :
 Calls Tryz.prog 303 #[.string s, .int .u8 c] w fun e w' => e = .returned (.int .i64 (Lib.indexByte s.data.toList c.toNat.toUInt8)) ∧ w' = w := Any.strings_IndexByte Tryz.lays137 s c w
end Go.Proofs
namespace Go.Proofs.YtpajpkbipagjpaaGreatDoor.Oc
open Go Go.RowKit Go.Proofs.YtpajpkbipagjpaaGreatDoor.Vm Go.Proofs.YtpajpkbipagjpaaGreatDoor.Tr Go.IntWalk
set_option maxRecDepth 100000
set_option maxHeartbeats 4000000
def idbA (x : List UInt8 × Int) : List Vm.Data := [.str x.1, .int .u8 x.2]
theorem idb_inj (x y : List UInt8 × Int) (h : idbA x = idbA y) : x = y := by simpa [idbA, Prod.ext_iff] using h
noncomputable def idbF : PFn := PFn.of idbA (fun x => True) (fun x => [.int .i64 (Lib.indexByte x.1 x.2.toNat.toUInt8)])
@[go_sem] theorem idb_pre (s : List UInt8) (c : Int) : idbF.pre [.str s, .int .u8 c] = True := PFn.of_pre idb_inj (s, c)
@[go_sem] theorem idb_res (s : List UInt8) (c : Int) : idbF.res [.str s, .int .u8 c] = [.int .i64 (Lib.indexByte s c.toNat.toUInt8)] := PFn.of_res idb_inj (s, c)
theorem idb_ok : Pure E 303 idbF := by
 refine Pure.of_calls idb_inj ?_
 rintro w J args ⟨s, c⟩ hJ hG hargs _
 obtain ⟨v, v2, rfl, h1, h2⟩ := args2 hargs
 simp only [RV] at h1 h2
 subst h1 h2
 refine (Tryz.strings_IndexByte ⟨s.toArray⟩ c w).mono ?_
 rintro e w' ⟨rfl, rfl⟩
 exact ⟨_, rfl, Below.refl _ _, by simp only [retD, RVD, RV]⟩
def prtI (n : Int) : Bool := decide (0 ≤ Lib.indexByte signsB n.toNat.toUInt8)
theorem index_in (l : List UInt8) (c : UInt8) : (0 ≤ Lib.indexByte l c ↔ c ∈ l) ∧ -1 ≤ Lib.indexByte l c := by
 induction l with
 | nil => simp [Lib.indexByte]
 | cons b l ih =>
   unfold Lib.indexByte
   by_cases h : b = c
   ·subst h; simp
   ·have hb : (b == c) = false := by simpa using h
    rw [hb]
    simp only [Bool.false_eq_true, if_false, beq_iff_eq, List.mem_cons]
    split
    ·rename_i h1
     refine ⟨⟨fun h2 => by omega, fun h2 => ?_⟩, by omega⟩
     rcases h2 with h2 | h2
     ·exact absurd h2.symm h
     ·have := ih.1.2 h2; omega
    ·rename_i h1
     refine ⟨⟨fun h2 => .inr (ih.1.1 (by have := ih.2; omega)), fun h2 => ?_⟩, by have := ih.2; omega⟩
     rcases h2 with h2 | h2
     ·exact absurd h2.symm h
     ·have := ih.1.2 h2; omega
theorem prtI_eq (x : UInt8) : prtI (x.toNat : Int) = prt8 x := by
 unfold prtI prt8
 rw [show (x.toNat : Int).toNat.toUInt8 = x by simp, Bool.eq_iff_iff, decide_eq_true_eq, (index_in signsB x).1, List.contains_iff_mem]
noncomputable def ΦPR : Fns := tab [(303, idbF)]
theorem ΦPR_ok : Sound E ΦPR := sound_cons (by kernel_rfl) idb_ok (sound_nil)
@[go_sem] theorem ΦPR_r : ΦPR 303 = some idbF := rfl
@[go_sem] noncomputable def prtF : PFn := PF [SI .u8] (fun (c : Int) => True) (fun (c : Int) => [.bool (prtI c)])
theorem prt_ok : Pure E 302 prtF := Pure.of_sig (rs := [.tmp 2]) (n := 6) Tryz.func302 rfl rfl rfl (Nat.le_of_ble_eq_true rfl) (by
 intro (c : Int) hds
 refine st0 ?_
 refine rg ΦPR_ok [0] trivial ?_
 refine rg ΦPR_ok [2] trivial ?_
 refine fi trivial ?_
 rfl)
end Go.Proofs.YtpajpkbipagjpaaGreatDoor.Oc
namespace Go.Proofs.YtpajpkbipagjpaaGreatDoor.Tr
open Go Go.RowKit Go.Proofs.YtpajpkbipagjpaaGreatDoor.Vm
theorem primC (g : Int) (b : List UInt8) : nodeC (primT g b) = [.int .i64 0, .int .i64 g, .bool false, .lst (bytesD b), .lst []] := by
 unfold primT; rw [nodeC, nodesD_nil]
theorem primC_inj {g : Int} {a b : List UInt8} (h : nodeC (primT g a) = nodeC (primT g b)) : a = b := by
 have := nodeC_inj h
 unfold primT at this; injection this
@[reducible] def SNp (g : Int) : Sig := ⟨List UInt8, fun b => .agg (nodeC (primT g b)), fun _ _ h => by injection h with h; exact primC_inj h⟩
@[reducible] def SPp (g : Int) : Sig := ⟨List UInt8, fun b => .ptr (nodeC (primT g b)), fun _ _ h => by injection h with h; exact primC_inj h⟩
theorem SNp_enc {g : Int} {b : List UInt8} : (SNp g).enc b = .agg (nodeC (primT g b)) := rfl
theorem SPp_enc {g : Int} {b : List UInt8} : (SPp g).enc b = .ptr (nodeC (primT g b)) := rfl
theorem SNp_dec {g : Int} {b : List UInt8} : (SNp g).dec (.agg [.int .i64 0, .int .i64 g, .bool false, .lst (bytesD b), .lst []]) = some b := by
 have := (SNp g).dec_enc b
 rwa [SNp_enc, primC] at this
theorem SPp_dec {g : Int} {b : List UInt8} : (SPp g).dec (.ptr [.int .i64 0, .int .i64 g, .bool false, .lst (bytesD b), .lst []]) = some b := by
 have := (SPp g).dec_enc b
 rwa [SPp_enc, primC] at this
section
variable {β : Type} {z : β} {ss : List Sig} {ds : List Vm.Data} {g : Int}
theorem ap_SNp {f : Fun (SNp g :: ss) β} {b : List UInt8} : ap z (SNp g :: ss) f (.agg [.int .i64 0, .int .i64 g, .bool false, .lst (bytesD b), .lst []] :: ds) = ap z ss (f b) ds := by rw [ap_cons, SNp_dec, apO_some]
theorem ap_SPp {f : Fun (SPp g :: ss) β} {b : List UInt8} : ap z (SPp g :: ss) f (.ptr [.int .i64 0, .int .i64 g, .bool false, .lst (bytesD b), .lst []] :: ds) = ap z ss (f b) ds := by rw [ap_cons, SPp_dec, apO_some]
end
theorem leafE (g : Int) (b : List UInt8) : (primT g b).cls = 0 ∧ (primT g b).tag = g ∧ (primT g b).cons = false ∧ (primT g b).bytes = b ∧ (primT g b).kids = [] ∧ nodesD [] = [] := ⟨rfl, rfl, rfl, rfl, rfl, nodesD_nil⟩
attribute [go_sem] SNp_enc SPp_enc ap_SNp ap_SPp
end Go.Proofs.YtpajpkbipagjpaaGreatDoor.Tr
namespace Go.Proofs.YtpajpkbipagjpaaGreatDoor.Oc
open Go Go.RowKit Go.Proofs.YtpajpkbipagjpaaGreatDoor.Vm Go.Proofs.YtpajpkbipagjpaaGreatDoor.Tr Go.IntWalk
set_option maxRecDepth 100000
set_option maxHeartbeats 4000000
noncomputable def ΦB12 : Fns := tab [(301, uvalidF)]
theorem ΦB12_ok : Sound E ΦB12 := sound_cons (by kernel_rfl) uvalid_ok (sound_nil)
@[go_sem] theorem ΦB12_r : ΦB12 301 = some uvalidF ∧ ΦB12 252 = none := ⟨rfl, rfl⟩
@[go_sem] theorem ΦB12_c : callable Tryz.prog 252 = true := by kernel_rfl
@[go_sem] noncomputable def brk12F : PFn := PF [SPp 12] (fun (b : List UInt8) => b.length ≤ 4611686018427387904) (fun (b : List UInt8) => [.int .i64 (if validB b then 0 else 4)])
theorem brk12_ok : Pure E 211 brk12F := Pure.of_sig (rs := [.tmp 2]) (n := 110) Tryz.func211 rfl rfl rfl (Nat.le_of_ble_eq_true rfl) (by
 intro (b : List UInt8) hds
 refine st0 ?_
 refine rg ΦB12_ok [0] (leafE 12 b) ?_
 refine rB ΦB12_ok [0, 5] (leafE 12 b) fun K' hK => ?_
 repeat' first | (refine lf hK (leafE 12 b) ?_; clear hK K') | with_reducible apply And.intro | refine sA (leafE 12 b) (fun _ => ?_) fun _ => ?_ | refine sAb (leafE 12 b) (fun _ => ?_) fun _ => ?_ | refine sAl (leafE 12 b) (fun g => ?_) fun g => ?_ | exact sd | exact sde (leafE 12 b) | exact sdp (leafE 12 b) | refine stk (leafE 12 b) ?_ | fail
 all_goals
  refine cn ?_ ?_
  ·exact fun h => na h
  intro h
  refine rB ΦB12_ok [0, 32] (leafE 12 b) fun K' hK => ?_
  repeat' first | (refine lf hK (leafE 12 b) ?_; clear hK K') | with_reducible apply And.intro | refine sA (leafE 12 b) (fun _ => ?_) fun _ => ?_ | refine sAb (leafE 12 b) (fun _ => ?_) fun _ => ?_ | refine sAl (leafE 12 b) (fun g => ?_) fun g => ?_ | exact sd | exact sde (leafE 12 b) | exact sdp (leafE 12 b) | refine stk (leafE 12 b) ?_ | fail
  all_goals
   refine cn ?_ ?_
   ·exact fun h => na h
   intro h
   refine rg ΦB12_ok [0, 60] (leafE 12 b) ?_
   refine cn ?_ ?_
   ·exact fun h => na h
   intro h
   refine rB ΦB12_ok [0, 3] (leafE 12 b) fun K' hK => ?_
   repeat' first | (refine lf hK (leafE 12 b) ?_; clear hK K') | with_reducible apply And.intro | refine sA (leafE 12 b) (fun _ => ?_) fun _ => ?_ | refine sAb (leafE 12 b) (fun _ => ?_) fun _ => ?_ | refine sAl (leafE 12 b) (fun g => ?_) fun g => ?_ | exact sd | exact sde (leafE 12 b) | exact sdp (leafE 12 b) | refine stk (leafE 12 b) ?_ | fail
   all_goals
    refine rB ΦB12_ok [0, 3, 4] (leafE 12 b) fun K' hK => ?_
    repeat' first | with_reducible apply And.intro | exact sd | exact sde (leafE 12 b) | exact sdp (leafE 12 b) | refine stk (leafE 12 b) ?_ | fail
    refine ec (rs := [.tmp 2]) (n := 34) Tryz.func252 rfl rfl rfl ?_
    refine rg ΦB12_ok [0] trivial ?_
    refine rg ΦB12_ok [0, 3] trivial ?_
    refine rg ΦB12_ok [3, 4] trivial ?_
    refine rg ΦB12_ok [3, 4, 5] trivial ?_
    refine cn ?_ ?_
    ·exact fun h => na h
    intro h
    refine rg ΦB12_ok [3, 4, 7] trivial ?_
    refine cn ?_ ?_
    ·exact fun h => na h
    intro h
    refine rgL ΦB12_ok trivial ?_
    refine cn ?_ ?_
    ·exact fun h => na h
    intro h
    refine rg ΦB12_ok [3, 4, 10] trivial ?_
    refine cn ?_ ?_
    ·exact fun h => na h
    intro h
    refine rg ΦB12_ok [3, 4, 12] trivial ?_
    refine cn ?_ ?_
    ·exact fun h => na h
    intro h
    refine rg ΦB12_ok [3, 4, 16] trivial ?_
    refine cn ?_ ?_
    ·exact fun h => na h
    intro h
    refine rg ΦB12_ok [3, 4, 18] trivial ?_
    refine cn ?_ ?_
    ·exact fun h => na h
    intro h
    refine rg ΦB12_ok [3, 4, 20] trivial ?_
    refine cn ?_ ?_
    ·intro h; try exact na h
     all_goals
      refine rg ΦB12_ok [2] trivial ?_
      refine nx ?_
      refine rt (leafE 12 b) ?_
      repeat' first | (refine lf hK (leafE 12 b) ?_; clear hK K') | with_reducible apply And.intro | exact sd | exact sde (leafE 12 b) | exact sdp (leafE 12 b) | refine stk (leafE 12 b) ?_ | fail
      all_goals
       refine rB ΦB12_ok [0, 3, 4, 83] (leafE 12 b) fun K' hK => ?_
       repeat' first | (refine lf hK (leafE 12 b) ?_; clear hK K') | with_reducible apply And.intro | refine sA (leafE 12 b) (fun _ => ?_) fun _ => ?_ | refine sAb (leafE 12 b) (fun _ => ?_) fun _ => ?_ | refine sAl (leafE 12 b) (fun g => ?_) fun g => ?_ | exact sd | exact sde (leafE 12 b) | exact sdp (leafE 12 b) | refine stk (leafE 12 b) ?_ | fail
       all_goals
        refine cn ?_ ?_
        ·exact fun h => na h
        intro h
        refine rB ΦB12_ok [98] (leafE 12 b) fun K' hK => ?_
        repeat' first | (refine lf hK (leafE 12 b) ?_; clear hK K') | with_reducible apply And.intro | refine sA (leafE 12 b) (fun _ => ?_) fun _ => ?_ | refine sAb (leafE 12 b) (fun _ => ?_) fun _ => ?_ | refine sAl (leafE 12 b) (fun g => ?_) fun g => ?_ | exact sd | exact sde (leafE 12 b) | exact sdp (leafE 12 b) | refine stk (leafE 12 b) ?_ | fail
        all_goals
         refine cn ?_ ?_
         ·intro h; try exact na h
          all_goals
           have hy : (if validB b = true then 0 else 4 : Int) = 4 := if_neg (by simp_all)
           refine rg ΦB12_ok [2] (leafE 12 b) ?_
           first
           | exact fz hy
         ·intro h; try exact na h
          all_goals
           have hy : (if validB b = true then 0 else 4 : Int) = 0 := if_pos (by simp_all)
           refine rg ΦB12_ok [2] (leafE 12 b) ?_
           first
           | exact fz hy
    ·exact fun h => na h)
end Go.Proofs.YtpajpkbipagjpaaGreatDoor.Oc
