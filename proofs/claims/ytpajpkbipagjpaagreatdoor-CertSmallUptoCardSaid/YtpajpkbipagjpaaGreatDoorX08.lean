/- What functions of the program, of its library and of the document compute: their contracts, and laws about what they compute (X08). No condition. -/
import Derived.Shelf.LaysM
import Derived.Shelf.Strconv.Lower
import Derived.Lib.Strings
import Derived.Lib.Walk
import Derived.Lib.ConvBytes
import Derived.Lib.ParseIntBMem
import Derived.Lib.Hide
import Derived.Laws.Strings3
import Derived.Laws.Closers25
import Derived.Laws.Closers25b
import Derived.WalkKit
import Derived.BigCall
import Derived.BigGuard
import Derived.Test.YtpajpkbipagjpaaGreatDoorX07
import Derived.Shelf.Strconv.Itoa3
import Derived.Shelf.Strconv.Itoa1
import Derived.Shelf.Strconv.Itoa2
import Derived.Lib.ItoaMem
import Derived.Lib.AppendIntMem
import Derived.Test.YtpajpkbipagjpaaGreatDoorX03
import Derived.Test.YtpajpkbipagjpaaGreatDoorX05
import Derived.Shelf.Spec.SlicesInsert
import Derived.Lib.AppendZerosOnto
import Derived.Laws.NewBlocks
import Derived.Test.YtpajpkbipagjpaaGreatDoorX02
set_option linter.unusedVariables false
set_option linter.unusedSimpArgs false
namespace Go.Proofs
open Go.Shelf Go.RowKit
variable {P : Program} {ρ : Ren}
set_option maxHeartbeats 32000000 in
set_option maxRecDepth 100000 in
theorem Any.internal_strconv_ParseUint_10_b63 (L : Lays.n287 P ρ) (t : ByteArray) (hne : t.size ≠ 0) (hmax : t.size ≤ 9223372036854775806) (w : World) :
 Calls P (ρ.f 287) #[.string t, .int .i64 10, .int .i64 63] w fun e w' => e = .returned (Lib.uintTupleM (ρ.t 167) 9223372036854775807 (Lib.parseUintM 9223372036854775807 0 t.data.toList)) ∧ w' = Lib.bytesWorld w (ρ.t 5) t := by
 have mixed := L.mixed
 have t9 := L.t9; have a9 := L.a9; have z9 := L.z9; have v9 := L.v9
 have t3 := L.t3; have a3 := L.a3; have z3 := L.z3; have v3 := L.v3
 have t53 := L.t53; have a53 := L.a53; have z53 := L.z53; have v53 := L.v53
 have t75 := L.t75; have a75 := L.a75; have z75 := L.z75; have v75 := L.v75
 have t4 := L.t4; have a4 := L.a4; have z4 := L.z4; have v4 := L.v4
 have t167 := L.t167; have a167 := L.a167; have z167 := L.z167; have v167 := L.v167
 have t5 := L.t5; have a5 := L.a5; have z5 := L.z5; have v5 := L.v5
 have t46 := L.t46; have a46 := L.a46; have z46 := L.z46; have v46 := L.v46
 have t37 := L.t37; have a37 := L.a37; have z37 := L.z37; have v37 := L.v37
 have t0 := L.t0; have a0 := L.a0; have z0 := L.z0; have v0 := L.v0
 have e321 : ∀ args w, (callFunc (ρ.f 321) args).run P w = .ok (.enter (ρ.f 321) args) w := enters_of L.f321 (by kernel_rfl) rfl
 have hemp : t.toList.isEmpty = false := by
  rw [← decide_eq_emptyBytes]
  exact decide_eq_false (fun h => hne (by rw [h]; rfl))
 have hcv := Lib.run_convert_string_bytes (P := P) w (ρ.t 9) (ρ.t 37) (ρ.t 5) t (u := .string) L.t9 L.t37 L.t5
 have hB : ∀ j, j < t.size → (Lib.bytesWorld w (ρ.t 5) t).cell? ⟨w.heap.size, j, none⟩ = some (.int .u8 (t.data.toList.getD j 0).toNat) := fun j hj => Lib.bytesWorld_cell w (ρ.t 5) t j hj
 obtain ⟨W1, hW1⟩ : ∃ W1, W1 = Lib.bytesWorld w (ρ.t 5) t := ⟨_, rfl⟩
 rw [← hW1] at hcv hB ⊢
 clear hW1
 obtain ⟨bs, hL⟩ : ∃ bs, bs = t.data.toList := ⟨_, rfl⟩
 have hLn : bs.length = t.size := by rw [hL, Lib.size_eq]
 rw [← hL] at hB ⊢
 clear hL
 have hmv : IntKind.u64.wrap (IntKind.u64.wrap 9223372036854775808 - 1) = 9223372036854775807 := by
  rw [IntKind.wrap_u64, IntKind.wrap_u64]
  decide
 go_enter L.f287, Body.n287_ntmps ρ
 go_wp2
 go_loop [12, 13, 101] (fun vu vn vi => ∃ (k acc : Nat) (a : Int), vu = .bool false ∧ vn = .int .u64 a ∧ vi = .int .i64 k ∧ k ≤ t.size ∧ Hid (a = (acc : Int) ∧ acc ≤ 9223372036854775807 ∧ Lib.parseUintM 9223372036854775807 0 bs = Lib.parseUintM 9223372036854775807 acc (bs.drop k)))
  (fun _ _ vi => t.size - (intOf vi).toNat)
 case atStart => exact ⟨0, 0, 0, rfl, rfl, rfl, by omega, rfl, by omega, rfl⟩
 case round =>
  obtain ⟨k, acc, a, rfl, rfl, rfl, hk, hh⟩ := hrel
  obtain ⟨ha, hacc, hdec⟩ := hh.out
  clear hh
  have a0 : 0 ≤ a := by omega
  have a1 : a ≤ 9223372036854775807 := by omega
  by_cases hkn : k < t.size
  ·have hc := hB k hkn
   have hdrop : bs.drop k = bs[k]'(by omega) :: bs.drop (k + 1) := List.drop_eq_getElem_cons (by omega)
   have hget : bs.getD k 0 = bs[k]'(by omega) := by simp [List.getD, List.getElem?_eq_getElem (show k < bs.length by omega)]
   rw [hdrop] at hdec
   rw [hget] at hc
   generalize bs[k]'(by omega) = c at hc hdec
   have hc256 : c.toNat < 256 := c.toNat_lt
   clear hB hdrop hget
   by_cases hdig : 48 ≤ c.toNat ∧ c.toNat ≤ 57
   ·obtain ⟨hd0, hd1⟩ := hdig
    by_cases hcut : 1844674407370955162 ≤ acc
    ·have hF : Lib.parseUintM 9223372036854775807 acc (c :: bs.drop (k + 1)) = .range := by simp [Lib.parseUintM, hd0, hd1, hcut]
     rw [hF] at hdec
     have icut : 1844674407370955162 ≤ a := by omega
     clear hcut hacc hF ha
     go_wp2
     go_ret2
     exact ⟨rfl, rfl⟩
    by_cases hov : 9223372036854775807 < acc * 10 + (c.toNat - 48)
    ·have hF : Lib.parseUintM 9223372036854775807 acc (c :: bs.drop (k + 1)) = .range := by simp [Lib.parseUintM, hd0, hd1, hcut, hov]
     rw [hF] at hdec
     have icut : a < 1844674407370955162 := by omega
     by_cases hw : 18446744073709551616 ≤ acc * 10 + (c.toNat - 48)
     ·have iov : 18446744073709551616 ≤ a * 10 + ((c.toNat : Int) - 48) := by omega
      have hwr : IntKind.u64.wrap (a * 10 + ((c.toNat : Int) - 48)) = a * 10 + ((c.toNat : Int) - 48) - 18446744073709551616 := by
       rw [IntKind.wrap_u64]
       omega
      clear hcut hacc hF hov hw ha
      go_wp2
      go_ret2
      exact ⟨rfl, rfl⟩
     ·have iov : a * 10 + ((c.toNat : Int) - 48) < 18446744073709551616 := by omega
      have iov2 : 9223372036854775807 < a * 10 + ((c.toNat : Int) - 48) := by omega
      clear hcut hacc hF hov hw ha
      go_wp2
      go_ret2
      exact ⟨rfl, rfl⟩
    ·have hF : Lib.parseUintM 9223372036854775807 acc (c :: bs.drop (k + 1)) = Lib.parseUintM 9223372036854775807 (acc * 10 + (c.toNat - 48)) (bs.drop (k + 1)) := by simp [Lib.parseUintM, hd0, hd1, hcut, hov]
     have HN : Hid (a * 10 + ((c.toNat : Int) - 48) = ((acc * 10 + (c.toNat - 48) : Nat) : Int) ∧ acc * 10 + (c.toNat - 48) ≤ 9223372036854775807 ∧ Lib.parseUintM 9223372036854775807 0 bs = Lib.parseUintM 9223372036854775807 (acc * 10 + (c.toNat - 48)) (bs.drop (k + 1))) := Lib.hid ⟨by omega, by omega, hdec.trans hF⟩
     have icut : a < 1844674407370955162 := by omega
     have iov : a * 10 + ((c.toNat : Int) - 48) ≤ 9223372036854775807 := by omega
     clear hcut hacc hF hov hdec ha
     go_wp2
     refine ⟨⟨k + 1, acc * 10 + (c.toNat - 48), a * 10 + ((c.toNat : Int) - 48), rfl, (by first | rfl | (congr 1; omega)), (by first | rfl | (congr 1; omega)), by omega, HN⟩, by simp [intOf]; omega⟩
   ·-- NO DIGIT: whatever way the text goes: (0, ErrSyntax)
    have hF : Lib.parseUintM 9223372036854775807 acc (c :: bs.drop (k + 1)) = Lib.NumEnd.syntax := by simp [Lib.parseUintM, hdig]
    rw [hF] at hdec
    clear hacc hF ha
    have hv0 := bits_lo_u8 .or (c.toNat : Int) 32
    have hv1 := bits_hi_u8 .or (c.toNat : Int) 32
    have hu0 := bits_lo_u8 .or 95 32
    have hu1 := bits_hi_u8 .or 95 32
    go_wp2_with (go_at_fn (ρ.f 321); refine (Any.internal_strconv_lower { L with } _ _).mono ?_; rintro e w' ⟨rfl, rfl⟩)
    all_goals go_ret2
    all_goals first | exact ⟨rfl, rfl⟩ | exact ⟨by rw [hdec]; rfl, rfl⟩
  ·-- THE BYTES ARE AT AN END
   have hkk : k = t.size := by omega
   subst hkk
   have hF : Lib.parseUintM 9223372036854775807 acc (bs.drop t.size) = .ok acc := by rw [List.drop_eq_nil_of_le (by omega)]; rfl
   rw [hF] at hdec
   subst ha
   clear hacc hF a0 a1
   go_wp2
   go_ret2
   exact ⟨rfl, rfl⟩
set_option maxRecDepth 100000 in
theorem Any.internal_strconv_ParseUint_10_empty63 (L : Lays.n287 P ρ) (w : World) :
 Calls P (ρ.f 287) #[.string ⟨#[]⟩, .int .i64 10, .int .i64 63] w fun e w' => e = .returned (Lib.uintTupleM (ρ.t 167) 0 Lib.NumEnd.syntax) ∧ w' = w := by
 have mixed := L.mixed
 have t9 := L.t9; have a9 := L.a9; have z9 := L.z9; have v9 := L.v9
 have t3 := L.t3; have a3 := L.a3; have z3 := L.z3; have v3 := L.v3
 have t53 := L.t53; have a53 := L.a53; have z53 := L.z53; have v53 := L.v53
 have t75 := L.t75; have a75 := L.a75; have z75 := L.z75; have v75 := L.v75
 have t4 := L.t4; have a4 := L.a4; have z4 := L.z4; have v4 := L.v4
 have t167 := L.t167; have a167 := L.a167; have z167 := L.z167; have v167 := L.v167
 have t5 := L.t5; have a5 := L.a5; have z5 := L.z5; have v5 := L.v5
 have t46 := L.t46; have a46 := L.a46; have z46 := L.z46; have v46 := L.v46
 have t37 := L.t37; have a37 := L.a37; have z37 := L.z37; have v37 := L.v37
 have t0 := L.t0; have a0 := L.a0; have z0 := L.z0; have v0 := L.v0
 go_enter L.f287, Body.n287_ntmps ρ
 go_wp2
 go_ret2
 exact ⟨rfl, rfl⟩
end Go.Proofs
namespace Go.Proofs
open Go.Shelf Go.RowKit Go.Sort Go.Lib
variable {P : Program} {ρ : Ren}
set_option maxHeartbeats 6400000 in
set_option maxRecDepth 100000 in
theorem Any.internal_strconv_FormatInt_10_cells (L : LaysM.n246 P ρ) (n : Int) (h0 : -9223372036854775808 ≤ n) (h1 : n ≤ 9223372036854775807) (w : World)
 (htab : ∀ j, j < 20 → w.cell? ⟨(ρ.g 17), j, none⟩ = some (.int .u64 ((10 ^ j : Nat) : Int))) (hg : (ρ.g 17) < w.heap.size) :
 Calls P (ρ.f 246) #[.int .i64 n, .int .i64 10] w fun e w' => e = .returned (.string ⟨(Lib.itoa n).toArray⟩) ∧ ∃ k os, w' = grow (w.drewN k) os := by
 have mixed := L.mixed
 have t2 := L.t2; have a2 := L.a2; have z2 := L.z2; have v2 := L.v2
 have t3 := L.t3; have a3 := L.a3; have z3 := L.z3; have v3 := L.v3
 have t9 := L.t9; have a9 := L.a9; have z9 := L.z9; have v9 := L.v9
 have t4 := L.t4; have a4 := L.a4; have z4 := L.z4; have v4 := L.v4
 have t171 := L.t171; have a171 := L.a171; have z171 := L.z171; have v171 := L.v171
 have t0 := L.t0; have a0 := L.a0; have z0 := L.z0; have v0 := L.v0
 have t53 := L.t53; have a53 := L.a53; have z53 := L.z53; have v53 := L.v53
 have t37 := L.t37; have a37 := L.a37; have z37 := L.z37; have v37 := L.v37
 have t5 := L.t5; have a5 := L.a5; have z5 := L.z5; have v5 := L.v5
 have t173 := L.t173; have a173 := L.a173; have z173 := L.z173; have v173 := L.v173
 have e283 : ∀ args w, (callFunc (ρ.f 283) args).run P w = .ok (.enter (ρ.f 283) args) w := enters_of L.f283 (by kernel_rfl) rfl
 have e284 : ∀ args w, (callFunc (ρ.f 284) args).run P w = .ok (.enter (ρ.f 284) args) w := enters_of L.f284 (by kernel_rfl) rfl
 have e285 : ∀ args w, (callFunc (ρ.f 285) args).run P w = .ok (.enter (ρ.f 285) args) w := enters_of L.f285 (by kernel_rfl) rfl
 by_cases hs : 0 ≤ n ∧ n < 100
 ·-- 0 .. 99: two constants
  obtain ⟨i, rfl⟩ : ∃ i : Nat, n = i := ⟨n.toNat, by omega⟩
  have hi : i < 100 := by omega
  go_enter L.f246, Body.n246_ntmps ρ
  go_wp2_with (go_at_fn (ρ.f 283); refine (Any.internal_strconv_small { L with } i hi _).mono ?_; rintro e w' ⟨rfl, rfl⟩)
  go_ret
  refine ⟨?_, 0, #[], by simp [World.drewN_zero]⟩
  rw [Lib.itoa_nonneg]
  rfl
 ·by_cases hneg : n < 0
  ·obtain ⟨u, rfl⟩ : ∃ u : Nat, n = -(u : Int) := ⟨n.natAbs, by omega⟩
   have hu1 : 1 ≤ u := by omega
   have hu64 : u < 18446744073709551616 := by omega
   have hnd20 : Lib.nDigits u ≤ 20 := by have := Lib.numDigits_eq u hu1 hu64; split at this <;> omega
   have hwr : IntKind.u64.wrap (-IntKind.u64.wrap (-(u : Int))) = (u : Int) := by rw [IntKind.wrap_u64, IntKind.wrap_u64]; omega
   have hb3 : Lib.nDigits u ≤ 23 := by omega
   have hal : P.arrayLen (ρ.t 171) = 24 := by simp [Program.arrayLen, L.t171]
   have hsl1 : ∀ W, (Instr.sliceAt (ρ.t 171) (.pointer (some ⟨w.heap.size, 0, none⟩)) (some (.int .i64 1)) (some (.int .i64 (1 + (Lib.nDigits u : Int)))) none).run P W = .ok (.slice (some ⟨w.heap.size, 1, none⟩) (Lib.nDigits u) 23) W := fun W => by
    rw [run_sliceAt_array_lh W (ρ.t 171) ⟨w.heap.size, 0, none⟩ (by simp [Program.arrayLen, Program.elem, L.t171]) .i64 .i64 1 (1 + (Lib.nDigits u : Int)) (by omega) (by omega) (by rw [hal]; omega)]
    go_simp
    omega
   have hH0 := Lib.holds_zero w (ρ.t 171) (Lib.nDigits u) (by omega)
   have hfmt := Any.internal_strconv_formatBase10 { L with } w.heap.size 1 23 u (Array.replicate (Lib.nDigits u) 0) (w.alloc (.cells Lib.zeros24 (ρ.t 171))) hH0 (by rw [Array.size_replicate]; exact Lib.lt_pow_nDigits u) hu64 (by rw [Array.size_replicate]; omega)
   rw [Array.size_replicate] at hfmt
   have HH0 := Lib.hid hH0
   clear hH0 hal
   go_enter L.f246, Body.n246_ntmps ρ
   go_wp2_with (first
    | (go_at_fn (ρ.f 284); refine (Any.internal_strconv_numDigits_cells { L with } u hu1 hu64 _ (fun j hj => by rw [World.cell?_alloc_old _ _ _ (Nat.ne_of_lt hg)]; exact htab j hj)).mono ?_; rintro e w' ⟨rfl, rfl⟩))
   go_at_fn (ρ.f 285)
   refine hfmt.mono ?_
   rintro e w' ⟨rfl, k, v', dk, rfl, hF⟩
   have hc0 : ((putRow (fun (b : UInt8) => Value.int .u8 (b.toNat : Int)) (w.alloc (.cells Lib.zeros24 (ρ.t 171))) w.heap.size 1 dk).drewN k).cell? ⟨w.heap.size, 0, none⟩ = some (.int .u8 0) := by
    rw [World.cell?_drewN, cell?_putRow_other _ _ _ _ _ _ (Or.inr (Or.inl (Nat.zero_lt_one))), World.cell?_alloc_new]
    exact Lib.zeros24_at 0 (by omega)
   have hf0 : ((putRow (fun (b : UInt8) => Value.int .u8 (b.toNat : Int)) (w.alloc (.cells Lib.zeros24 (ρ.t 171))) w.heap.size 1 dk).drewN k).frozen? ⟨w.heap.size, 0, none⟩ = false := by
    rw [World.frozen?_drewN, frozen?_putRow]
    exact World.frozen?_alloc_new _ _ _ _
   have hal : P.arrayLen (ρ.t 171) = 24 := by simp [Program.arrayLen, L.t171]
   have hsl2 : ∀ W, (Instr.sliceAt (ρ.t 171) (.pointer (some ⟨w.heap.size, 0, none⟩)) none (some (.int .i64 (1 + (Lib.nDigits u : Int)))) none).run P W = .ok (.slice (some ⟨w.heap.size, 0, none⟩) (1 + Lib.nDigits u) 24) W := fun W => by
    rw [run_sliceAt_array_h W (ρ.t 171) ⟨w.heap.size, 0, none⟩ (by simp [Program.arrayLen, Program.elem, L.t171]) .i64 (1 + (Lib.nDigits u : Int)) (by omega) (by rw [hal]; omega)]
    go_simp
    omega
   clear hal
   have hcv : (convert (ρ.t 37) (ρ.t 9) (.slice (some ⟨w.heap.size, 0, none⟩) (1 + Lib.nDigits u) 24)).run P (((putRow (fun (b : UInt8) => Value.int .u8 (b.toNat : Int)) (w.alloc (.cells Lib.zeros24 (ρ.t 171))) w.heap.size 1 dk).drewN k).setCell ⟨w.heap.size, 0, none⟩ (.int .u8 45)) = .ok (.string ⟨(45 :: Lib.decDigits u).toArray⟩) (((putRow (fun (b : UInt8) => Value.int .u8 (b.toNat : Int)) (w.alloc (.cells Lib.zeros24 (ρ.t 171))) w.heap.size 1 dk).drewN k).setCell ⟨w.heap.size, 0, none⟩ (.int .u8 45)) := by
    have h := run_convert_bytes_back (P := P) (((putRow (fun (b : UInt8) => Value.int .u8 (b.toNat : Int)) (w.alloc (.cells Lib.zeros24 (ρ.t 171))) w.heap.size 1 dk).drewN k).setCell ⟨w.heap.size, 0, none⟩ (.int .u8 45)) (ρ.t 37) (ρ.t 9) (ρ.t 5) ⟨w.heap.size, 0, none⟩ 24 (45 :: Lib.decDigits u) L.t37 L.t5 L.t9 (fun j hj => by
     rw [Lib.add_plain]
     cases j with
     | zero => exact World.cell?_setCell_same _ _ _ hc0
     | succ i =>
       have hi : i < (Lib.decDigits u).length := by simpa using hj
       rw [World.cell?_setCell_other _ _ _ _ (by simp), List.getElem_cons_succ, Lib.row_is_numeral hF i hi, World.cell?_drewN, show 0 + (i + 1) = 1 + i by omega]
       exact cell?_putRow (fun (b : UInt8) => Value.int .u8 (b.toNat : Int)) _ w.heap.size 1 _ dk HH0.out (by rw [hF.size, Array.size_replicate]) i (by rw [hF.size]; rw [Lib.decDigits_length] at hi; exact hi))
    rw [List.length_cons, Lib.decDigits_length, Nat.add_comm] at h
    exact h
   go_wp2
   go_ret
   obtain ⟨os, eo⟩ := Lib.fin_neg w (.cells Lib.zeros24 (ρ.t 171)) dk k (.int .u8 45)
   refine ⟨?_, k, os, eo⟩
   rw [Lib.itoa_neg u hu1]
   rfl
  ·obtain ⟨u, rfl⟩ : ∃ u : Nat, n = u := ⟨n.toNat, by omega⟩
   have hu1 : 1 ≤ u := by omega
   have hu64 : u < 18446744073709551616 := by omega
   have hnd20 : Lib.nDigits u ≤ 20 := by have := Lib.numDigits_eq u hu1 hu64; split at this <;> omega
   have hb3 : Lib.nDigits u ≤ 23 := by omega
   have hal : P.arrayLen (ρ.t 171) = 24 := by simp [Program.arrayLen, L.t171]
   have hsl1 : ∀ W, (Instr.sliceAt (ρ.t 171) (.pointer (some ⟨w.heap.size, 0, none⟩)) (some (.int .i64 1)) (some (.int .i64 (1 + (Lib.nDigits u : Int)))) none).run P W = .ok (.slice (some ⟨w.heap.size, 1, none⟩) (Lib.nDigits u) 23) W := fun W => by
    rw [run_sliceAt_array_lh W (ρ.t 171) ⟨w.heap.size, 0, none⟩ (by simp [Program.arrayLen, Program.elem, L.t171]) .i64 .i64 1 (1 + (Lib.nDigits u : Int)) (by omega) (by omega) (by rw [hal]; omega)]
    go_simp
    omega
   have hH0 := Lib.holds_zero w (ρ.t 171) (Lib.nDigits u) (by omega)
   have hfmt := Any.internal_strconv_formatBase10 { L with } w.heap.size 1 23 u (Array.replicate (Lib.nDigits u) 0) (w.alloc (.cells Lib.zeros24 (ρ.t 171))) hH0 (by rw [Array.size_replicate]; exact Lib.lt_pow_nDigits u) hu64 (by rw [Array.size_replicate]; omega)
   rw [Array.size_replicate] at hfmt
   have HH0 := Lib.hid hH0
   clear hH0 hal
   go_enter L.f246, Body.n246_ntmps ρ
   go_wp2_with (first
    | (go_at_fn (ρ.f 284); refine (Any.internal_strconv_numDigits_cells { L with } u hu1 hu64 _ (fun j hj => by rw [World.cell?_alloc_old _ _ _ (Nat.ne_of_lt hg)]; exact htab j hj)).mono ?_; rintro e w' ⟨rfl, rfl⟩))
   go_at_fn (ρ.f 285)
   refine hfmt.mono ?_
   rintro e w' ⟨rfl, k, v', dk, rfl, hF⟩
   have hcv : (convert (ρ.t 37) (ρ.t 9) (.slice (some ⟨w.heap.size, 1, none⟩) (Lib.nDigits u) 23)).run P ((putRow (fun (b : UInt8) => Value.int .u8 (b.toNat : Int)) (w.alloc (.cells Lib.zeros24 (ρ.t 171))) w.heap.size 1 dk).drewN k) = .ok (.string ⟨(Lib.decDigits u).toArray⟩) ((putRow (fun (b : UInt8) => Value.int .u8 (b.toNat : Int)) (w.alloc (.cells Lib.zeros24 (ρ.t 171))) w.heap.size 1 dk).drewN k) := by
    have h := run_convert_bytes_back (P := P) ((putRow (fun (b : UInt8) => Value.int .u8 (b.toNat : Int)) (w.alloc (.cells Lib.zeros24 (ρ.t 171))) w.heap.size 1 dk).drewN k) (ρ.t 37) (ρ.t 9) (ρ.t 5) ⟨w.heap.size, 1, none⟩ 23 (Lib.decDigits u) L.t37 L.t5 L.t9 (fun j hj => by
     rw [Lib.row_is_numeral hF j hj, Lib.add_plain, World.cell?_drewN]
     exact cell?_putRow (fun (b : UInt8) => Value.int .u8 (b.toNat : Int)) _ w.heap.size 1 _ dk HH0.out (by rw [hF.size, Array.size_replicate]) j (by rw [hF.size]; rw [Lib.decDigits_length] at hj; exact hj))
    rw [Lib.decDigits_length] at h
    exact h
   go_wp2
   go_ret
   obtain ⟨os, eo⟩ := Lib.fin_pos w (.cells Lib.zeros24 (ρ.t 171)) dk k
   refine ⟨?_, k, os, eo⟩
   rw [Lib.itoa_nonneg]
   rfl
set_option maxRecDepth 100000 in
theorem Any.internal_strconv_Itoa_cells (L : LaysM.n243 P ρ) (n : Int) (h0 : -9223372036854775808 ≤ n) (h1 : n ≤ 9223372036854775807) (w : World)
 (htab : ∀ j, j < 20 → w.cell? ⟨(ρ.g 17), j, none⟩ = some (.int .u64 ((10 ^ j : Nat) : Int))) (hg : (ρ.g 17) < w.heap.size) :
 Calls P (ρ.f 243) #[.int .i64 n] w fun e w' => e = .returned (.string ⟨(Lib.itoa n).toArray⟩) ∧ ∃ k os, w' = grow (w.drewN k) os := by
 have mixed := L.mixed
 have t3 := L.t3; have a3 := L.a3; have z3 := L.z3; have v3 := L.v3
 have t9 := L.t9; have a9 := L.a9; have z9 := L.z9; have v9 := L.v9
 have t2 := L.t2; have a2 := L.a2; have z2 := L.z2; have v2 := L.v2
 have e246 : ∀ args w, (callFunc (ρ.f 246) args).run P w = .ok (.enter (ρ.f 246) args) w := enters_of L.f246 (by kernel_rfl) rfl
 go_enter L.f243, Body.n243_ntmps ρ
 go_wp2_with (go_at_fn (ρ.f 246); refine (Any.internal_strconv_FormatInt_10_cells { L with } n h0 h1 _ htab hg).mono ?_; rintro e w' ⟨rfl, k, os, rfl⟩)
 go_ret
 exact ⟨rfl, k, os, rfl⟩
set_option maxRecDepth 100000 in
theorem Any.strconv_Itoa_cells (L : LaysM.n171 P ρ) (n : Int) (h0 : -9223372036854775808 ≤ n) (h1 : n ≤ 9223372036854775807) (w : World)
 (htab : ∀ j, j < 20 → w.cell? ⟨(ρ.g 17), j, none⟩ = some (.int .u64 ((10 ^ j : Nat) : Int))) (hg : (ρ.g 17) < w.heap.size) :
 Calls P (ρ.f 171) #[.int .i64 n] w fun e w' => e = .returned (.string ⟨(Lib.itoa n).toArray⟩) ∧ ∃ k os, w' = grow (w.drewN k) os := by
 have mixed := L.mixed
 have t3 := L.t3; have a3 := L.a3; have z3 := L.z3; have v3 := L.v3
 have t9 := L.t9; have a9 := L.a9; have z9 := L.z9; have v9 := L.v9
 have e243 : ∀ args w, (callFunc (ρ.f 243) args).run P w = .ok (.enter (ρ.f 243) args) w := enters_of L.f243 (by kernel_rfl) rfl
 go_enter L.f171, Body.n171_ntmps ρ
 go_wp2_with (go_at_fn (ρ.f 243); refine (Any.internal_strconv_Itoa_cells { L with } n h0 h1 _ htab hg).mono ?_; rintro e w' ⟨rfl, k, os, rfl⟩)
 go_ret
 exact ⟨rfl, k, os, rfl⟩
end Go.Proofs
namespace Go.Proofs.YtpajpkbipagjpaaGreatDoor.Oc
open Go Go.RowKit Go.Proofs.YtpajpkbipagjpaaGreatDoor.Vm Go.Proofs.YtpajpkbipagjpaaGreatDoor.Tr Go.IntWalk Go.Sort
set_option maxRecDepth 100000
set_option maxHeartbeats 4000000
theorem pow_cells {w : World} {J : Cset} (hG : Glob E w J) : ∀ j, j < 20 → w.cell? ⟨5, j, none⟩ = some (.int .u64 ((10 ^ j : Nat) : Int)) ∧ J 5 j := by
 have h : RC w J powD 5 0 := hG 5 powD rfl
 have key : ∀ (l : List Nat) (o : Nat), RC w J (l.map fun j => Vm.Data.int .u64 ((10 ^ j : Nat) : Int)) 5 o → ∀ i j, l[i]? = some j → w.cell? ⟨5, o + i, none⟩ = some (.int .u64 ((10 ^ j : Nat) : Int)) ∧ J 5 (o + i) := by
  intro l
  induction l with
  | nil => intro o _ i j hj; simp at hj
  | cons x l ih =>
    intro o hr i j hj
    simp only [List.map_cons, RC, RV] at hr
    obtain ⟨⟨v, h1, h2, _, h3⟩, hr⟩ := hr
    cases i with
    | zero =>
      simp only [List.getElem?_cons_zero, Option.some.injEq] at hj; subst hj
      exact ⟨by rw [Nat.add_zero, h1, h3], h2⟩
    | succ i =>
      rw [show o + (i + 1) = o + 1 + i by omega]
      exact ih (o + 1) hr i j (by simpa using hj)
 intro j hj
 have := key (List.range 20) 0 h j j (by simp [hj])
 simpa using this
theorem err_cells {w : World} {J : Cset} (hG : Glob E w J) (g : Nat) (hg : g = 3 ∨ g = 4) : ∃ ev, w.cell? ⟨g, 0, none⟩ = some ev ∧ ∃ te pe, ev = .iface te pe := by
 have h : RC w J [errD] g 0 := by rcases hg with rfl | rfl <;> exact hG _ [errD] rfl
 simp only [RC, errD, RV] at h
 obtain ⟨⟨v, h1, _, _, u, h3, _⟩, _⟩ := h
 exact ⟨v, h1, _, u, h3⟩
def fmtUA (u : Nat) : List Vm.Data := [.int .u64 u, .int .i64 10]
theorem fmtU_inj (x y : Nat) (h : fmtUA x = fmtUA y) : x = y := by simpa [fmtUA, Int.natCast_inj] using h
noncomputable def fmtUF : PFn := PFn.of fmtUA (fun u => u < 18446744073709551616) (fun u => [.str (Lib.decDigits u)])
@[go_sem] theorem fmtU_pre (u : Nat) : fmtUF.pre [.int .u64 (u : Int), .int .i64 10] = (u < 18446744073709551616) := PFn.of_pre fmtU_inj u
@[go_sem] theorem fmtU_res (u : Nat) : fmtUF.res [.int .u64 (u : Int), .int .i64 10] = [.str (Lib.decDigits u)] := PFn.of_res fmtU_inj u
theorem fmtU_ok : Pure E 206 fmtUF := by
 refine Pure.of_calls fmtU_inj ?_
 intro w J args u hJ hG hargs hu
 obtain ⟨v, v2, rfl, h1, h2⟩ := args2 hargs
 simp only [RV] at h1 h2
 subst h1 h2
 have hp := pow_cells hG
 refine (fmtUint u hu w (fun j hj => (hp j hj).1) (hJ _ _ (hp 0 (by decide)).2)).mono ?_
 rintro e w' ⟨rfl, k, os, rfl⟩
 exact ⟨_, rfl, Lib.below_grow _ _ (Nat.le_refl _) _ _, by simp only [retD, RVD, RV]⟩
def puN (s : List UInt8) : Lib.NumEnd Nat := if s = [] then Lib.NumEnd.syntax else Lib.parseUintM 9223372036854775807 0 s
def puD : Lib.NumEnd Nat → List Vm.Data
 | .ok n => [.int .u64 n, .nili]
 | Lib.NumEnd.syntax => [.int .u64 0, .iface 291 (.int .i64 2)]
 | .range => [.int .u64 9223372036854775807, .iface 291 (.int .i64 1)]
def puNum : Lib.NumEnd Nat → Nat
 | .ok n => n
 | Lib.NumEnd.syntax => 0
 | .range => 9223372036854775807
def puErr : Lib.NumEnd Nat → Vm.Data
 | .ok n => .nili
 | Lib.NumEnd.syntax => .iface 291 (.int .i64 2)
 | .range => .iface 291 (.int .i64 1)
def parseIA (s : List UInt8) : List Vm.Data := [.str s, .int .i64 10, .int .i64 63]
theorem parseI_inj (x y : List UInt8) (h : parseIA x = parseIA y) : x = y := by simpa [parseIA] using h
noncomputable def parseIF : PFn := PFn.of parseIA (fun s => s.length ≤ 1000000) (fun s => [.int .u64 (puNum (puN s)), puErr (puN s)])
@[go_sem] theorem parseI_pre (s : List UInt8) : parseIF.pre [.str s, .int .i64 10, .int .i64 63] = (s.length ≤ 1000000) := PFn.of_pre parseI_inj s
@[go_sem] theorem parseI_res (s : List UInt8) : parseIF.res [.str s, .int .i64 10, .int .i64 63] = [.int .u64 (puNum (puN s)), puErr (puN s)] := PFn.of_res parseI_inj s
theorem parseI_ok : Pure E 196 parseIF := by
 refine Pure.of_calls parseI_inj ?_
 intro w J args s hJ hG hargs hs
 obtain ⟨v, v2, v3, rfl, h1, h2, h3⟩ := args3 hargs
 simp only [RV] at h1 h2 h3
 subst h1 h2 h3
 have fin : ∀ (r : Lib.NumEnd Nat) (w' : World), r = puN s → RVD w' (Fresh J w w') (fun _ => .nil) (retD [.int .u64 (puNum (puN s)), puErr (puN s)]) (Lib.uintTupleM 291 9223372036854775807 r) := by
  rintro r w' rfl
  cases puN s <;> simp [retD, RVD, RVDs, RV, puNum, puErr, Lib.uintTupleM]
 by_cases he : s = []
 ·subst he
  refine (Any.internal_strconv_ParseUint_10_empty63 Tryz.lays287 w).mono ?_
  rintro e w' ⟨rfl, rfl⟩
  exact ⟨_, rfl, Below.refl _ _, fin Lib.NumEnd.syntax _ (by simp [puN])⟩
 ·refine (Any.internal_strconv_ParseUint_10_b63 Tryz.lays287 ⟨s.toArray⟩ (by simpa [ByteArray.size] using he) (by simp [ByteArray.size]; omega) w).mono ?_
  rintro e w' ⟨rfl, rfl⟩
  exact ⟨_, rfl, Lib.bytesWorld_below _ _ _, fin _ _ (by simp [puN, he])⟩
def pub : List UInt8 := [80, 97, 114, 115, 101, 85, 105, 110, 116]
def toErrA (x : List UInt8 × Bool) : List Vm.Data := [.str pub, .str x.1, .int .i64 10, .int .i64 63, .iface 291 (.int .i64 (if x.2 = true then 2 else 1))]
theorem toErr_inj (x y : List UInt8 × Bool) (h : toErrA x = toErrA y) : x = y := by
 obtain ⟨x1, x2⟩ := x; obtain ⟨y1, y2⟩ := y
 cases x2 <;> cases y2 <;> simp_all [toErrA]
noncomputable def toErrF : PFn := PFn.of toErrA (fun x => x.1.length ≤ 1000000) (fun x => [.iface 293 (.ptr [])])
@[go_sem] theorem toErr_pre2 (s : List UInt8) : toErrF.pre [.str pub, .str s, .int .i64 10, .int .i64 63, .iface 291 (.int .i64 2)] = (s.length ≤ 1000000) := PFn.of_pre toErr_inj (s, true)
@[go_sem] theorem toErr_res2 (s : List UInt8) : toErrF.res [.str pub, .str s, .int .i64 10, .int .i64 63, .iface 291 (.int .i64 2)] = [.iface 293 (.ptr [])] := PFn.of_res toErr_inj (s, true)
@[go_sem] theorem toErr_pre1 (s : List UInt8) : toErrF.pre [.str pub, .str s, .int .i64 10, .int .i64 63, .iface 291 (.int .i64 1)] = (s.length ≤ 1000000) := PFn.of_pre toErr_inj (s, false)
@[go_sem] theorem toErr_res1 (s : List UInt8) : toErrF.res [.str pub, .str s, .int .i64 10, .int .i64 63, .iface 291 (.int .i64 1)] = [.iface 293 (.ptr [])] := PFn.of_res toErr_inj (s, false)
theorem toErr_ok : Pure E 197 toErrF := by
 refine Pure.of_calls toErr_inj ?_
 rintro w J args ⟨s, c⟩ hJ hG hargs hs
 obtain ⟨v, v2, v3, v4, v5, rfl, h1, h2, h3, h4, h5⟩ := args5 hargs
 simp only [RV] at h1 h2 h3 h4 h5
 obtain ⟨u, h5, h6⟩ := h5
 subst h1 h2 h3 h4 h6 h5
 have hl : (⟨s.toArray⟩ : ByteArray).size ≤ 281474976710656 := by
  have : s.length ≤ 1000000 := hs
  simp [ByteArray.size]; omega
 have fin : ∀ (w' : World) (N : Nat), RVD w' (Fresh J w w') (fun _ => .nil) (retD [.iface 293 (.ptr [])]) (.iface 293 (.pointer (some ⟨N, 0, none⟩))) := fun w' N => by
  simp only [retD, RVD, RV]
  exact ⟨_, rfl, N, 0, rfl, trivial⟩
 cases c with
 | true =>
   obtain ⟨ev, hv, hev⟩ := err_cells hG 3 (.inl rfl)
   refine (Tryz.strconv_toError_syntax ⟨pub.toArray⟩ ⟨s.toArray⟩ 10 63 ev w hl hv (.inr hev)).mono ?_
   rintro e w' ⟨N, rfl, _, _, hb⟩
   exact ⟨_, rfl, hb, fin _ _⟩
 | false =>
   obtain ⟨ev, hv, hev⟩ := err_cells hG 4 (.inr rfl)
   refine (Tryz.strconv_toError_range ⟨pub.toArray⟩ ⟨s.toArray⟩ 10 63 ev w hl hv (.inr hev)).mono ?_
   rintro e w' ⟨N, rfl, _, _, hb⟩
   exact ⟨_, rfl, hb, fin _ _⟩
def idxA (x : List UInt8 × UInt8) : List Vm.Data := [.str x.1, .str [x.2]]
theorem idx_inj (x y : List UInt8 × UInt8) (h : idxA x = idxA y) : x = y := by simpa [idxA, Prod.ext_iff] using h
noncomputable def idxF : PFn := PFn.of idxA (fun x => True) (fun x => [.int .i64 (Lib.indexByte x.1 x.2)])
@[go_sem] theorem idx_pre (s : List UInt8) (c : UInt8) : idxF.pre [.str s, .str [c]] = True := PFn.of_pre idx_inj (s, c)
@[go_sem] theorem idx_res (s : List UInt8) (c : UInt8) : idxF.res [.str s, .str [c]] = [.int .i64 (Lib.indexByte s c)] := PFn.of_res idx_inj (s, c)
theorem idx_ok : Pure E 237 idxF := by
 refine Pure.of_calls idx_inj ?_
 rintro w J args ⟨s, c⟩ hJ hG hargs _
 obtain ⟨v, v2, rfl, h1, h2⟩ := args2 hargs
 simp only [RV] at h1 h2
 subst h1 h2
 refine (Tryz.strings_Index_one ⟨s.toArray⟩ c w).mono ?_
 rintro e w' ⟨rfl, rfl⟩
 exact ⟨_, rfl, Below.refl _ _, by simp only [retD, RVD, RV]⟩
def joinA (x : List (List UInt8) × List UInt8) : List Vm.Data := [.lst (strsD x.1), .str x.2]
theorem join_inj (x y : List (List UInt8) × List UInt8) (h : joinA x = joinA y) : x = y := by simpa [joinA, Prod.ext_iff, strsD_inj, Vm.Data.lst.injEq] using h
noncomputable def joinF : PFn := PFn.of joinA (fun x => x.1.length ≤ 1000000 ∧ (Lib.join x.1 x.2).length ≤ 140737488355328) (fun x => [.str (Lib.join x.1 x.2)])
@[go_sem] theorem join_pre (l : List (List UInt8)) (s : List UInt8) : joinF.pre [.lst (strsD l), .str s] = (l.length ≤ 1000000 ∧ (Lib.join l s).length ≤ 140737488355328) := PFn.of_pre join_inj (l, s)
@[go_sem] theorem join_res (l : List (List UInt8)) (s : List UInt8) : joinF.res [.lst (strsD l), .str s] = [.str (Lib.join l s)] := PFn.of_res join_inj (l, s)
theorem join_ok : Pure E 157 joinF := by
 refine Pure.of_calls join_inj ?_
 rintro w J args ⟨l, s⟩ hJ hG hargs ⟨hl, hlen⟩
 obtain ⟨v, v2, rfl, h1, h2⟩ := args2 hargs
 simp only [RV] at h1 h2
 obtain ⟨a, n, c, rfl, hn, hc, hr⟩ := h1
 subst h2
 rw [strsD_len] at hn
 by_cases he : l = []
 ·subst he
  simp only [List.length_nil] at hn; subst hn
  refine (Tryz.strings_Join_none a c ⟨s.toArray⟩ w).mono ?_
  rintro e w' ⟨rfl, rfl⟩
  exact ⟨_, rfl, Below.refl _ _, by simp only [retD, RVD, RV, Lib.join_nil]⟩
 ·rcases hr with hr | ⟨b, o, sz, rfl, hsz, hE⟩
  ·exact absurd (by simpa [strsD] using hr) he
  ·have hsz1 : sz = 1 := by
    cases l with
    | nil => exact absurd rfl he
    | cons x l => simp only [strsD, List.map_cons, RE] at hE; simpa using hE.1.symm
   subst hsz1
   have hc' := RE.strs l b o hE
   have hmap : (l.map fun s : List UInt8 => (⟨s.toArray⟩ : ByteArray)).map (·.data.toList) = l := by
    rw [List.map_map]; exact (List.map_congr_left (fun x _ => by simp)).trans (List.map_id _)
   have hb : b < w.heap.size := by
    cases l with
    | nil => exact absurd rfl he
    | cons x l => exact hJ _ _ (hc' 0 x (by simp)).2
   have := Tryz.strings_Join b o c (l.map fun s => ⟨s.toArray⟩) ⟨s.toArray⟩ w (fun j x hx => by
    rw [List.getElem?_map] at hx
    cases hj : l[j]? with
    | none => rw [hj] at hx; cases hx
    | some y => rw [hj] at hx; cases hx; exact (hc' j y hj).1) hb (by rw [List.length_map]; have := hl; simp only at this; omega) (by rw [List.length_map]; omega) (by rw [hmap]; exact hlen)
   rw [List.length_map, ← hn, hmap] at this
   refine this.mono ?_
   rintro e w' ⟨rfl, hB⟩
   exact ⟨_, rfl, hB, by simp only [retD, RVD, RV]⟩
def itoaA (x : Nat) : List Vm.Data := [.int .i64 (x : Int)]
theorem itoa_inj (x y : Nat) (h : itoaA x = itoaA y) : x = y := by simpa [itoaA, Prod.ext_iff, Int.natCast_inj] using h
noncomputable def itoaF : PFn := PFn.of itoaA (fun x => x ≤ 9223372036854775807) (fun x => [.str (Lib.decDigits x)])
@[go_sem] theorem itoa_pre (n : Nat) : itoaF.pre [.int .i64 (n : Int)] = (n ≤ 9223372036854775807) := PFn.of_pre itoa_inj n
@[go_sem] theorem itoa_res (n : Nat) : itoaF.res [.int .i64 (n : Int)] = [.str (Lib.decDigits n)] := PFn.of_res itoa_inj n
theorem itoa_ok : Pure E 108 itoaF := by
 refine Pure.of_calls itoa_inj ?_
 intro w J args n hJ hG hargs hn
 obtain ⟨v, rfl, h1⟩ := args1 hargs
 simp only [RV] at h1
 subst h1
 have hp := pow_cells hG
 refine (Any.strconv_Itoa_cells Tryz.laysM171 (n : Int) (by omega) (by omega) w (fun j hj => (hp j hj).1) (hJ _ _ (hp 0 (by decide)).2)).mono ?_
 rintro e w' ⟨rfl, k, os, rfl⟩
 refine ⟨_, rfl, Lib.below_grow _ _ (Nat.le_refl _) _ _, ?_⟩
 simp only [retD, RVD, RV]
 rw [Lib.itoa_nonneg]
end Go.Proofs.YtpajpkbipagjpaaGreatDoor.Oc
namespace Go.Proofs.YtpajpkbipagjpaaGreatDoor.Oc
open Go Go.RowKit Go.Proofs.YtpajpkbipagjpaaGreatDoor.Vm Go.Proofs.YtpajpkbipagjpaaGreatDoor.Tr Go.IntWalk
set_option maxRecDepth 100000
set_option maxHeartbeats 4000000
theorem sizes_take {h : Int} (h0 : 0 ≤ h) (h1 : h < 5) : List.take 1 (List.drop (h.toNat * 1) sizesD) = [.int .i64 (bitsH h)] := by
 have : h = 0 ∨ h = 1 ∨ h = 2 ∨ h = 3 ∨ h = 4 := by omega
 rcases this with rfl | rfl | rfl | rfl | rfl <;> rfl
theorem bits_out {q : Int} (h : q < 0 ∨ 5 ≤ q) : bitsH q = 0 := by unfold bitsH; (repeat' split) <;> omega
theorem sizeW (h : Int) : IntKind.i64.wrap ((bitsH h).tdiv 8) = sizeH h := by rw [bits_size]; unfold sizeH; (repeat' split) <;> rfl
@[go_sem] noncomputable def bitsF : PFn := PF [SI .i64] (fun (q : Int) => True) (fun (q : Int) => [.int .i64 (bitsH q)])
theorem bits_ok : Pure E 107 bitsF := Pure.of_sig (rs := [.tmp 2]) (n := 12) Tryz.func107 rfl rfl rfl (Nat.le_of_ble_eq_true rfl) (by
 intro (q : Int) hds
 refine st0 ?_
 refine rg sound_nil [0] (And.intro sizesD_len (fun (h : Int) (h0 : 0 ≤ h) (h1 : h < 5) => sizes_take h0 h1)) ?_
 refine rB sound_nil [0, 8] (And.intro sizesD_len (fun (h : Int) (h0 : 0 ≤ h) (h1 : h < 5) => sizes_take h0 h1)) fun K' hK => ?_
 repeat' first | (refine lf hK (And.intro sizesD_len (fun (h : Int) (h0 : 0 ≤ h) (h1 : h < 5) => sizes_take h0 h1)) ?_; clear hK K') | with_reducible apply And.intro | refine sA (And.intro sizesD_len (fun (h : Int) (h0 : 0 ≤ h) (h1 : h < 5) => sizes_take h0 h1)) (fun _ => ?_) fun _ => ?_ | refine sAb (And.intro sizesD_len (fun (h : Int) (h0 : 0 ≤ h) (h1 : h < 5) => sizes_take h0 h1)) (fun _ => ?_) fun _ => ?_ | refine sAl (And.intro sizesD_len (fun (h : Int) (h0 : 0 ≤ h) (h1 : h < 5) => sizes_take h0 h1)) (fun g => ?_) fun g => ?_ | exact sd | exact sde (And.intro sizesD_len (fun (h : Int) (h0 : 0 ≤ h) (h1 : h < 5) => sizes_take h0 h1)) | exact sdp (And.intro sizesD_len (fun (h : Int) (h0 : 0 ≤ h) (h1 : h < 5) => sizes_take h0 h1)) | refine stk (And.intro sizesD_len (fun (h : Int) (h0 : 0 ≤ h) (h1 : h < 5) => sizes_take h0 h1)) ?_ | fail
 all_goals
  refine cn ?_ ?_
  ·intro h; try exact nd h
   all_goals
    have hb0 := bits_out (q := q) (by omega)
    refine rg sound_nil [2] (And.intro sizesD_len (fun (h : Int) (h0 : 0 ≤ h) (h1 : h < 5) => sizes_take h0 h1)) ?_
    exact fz hb0
  ·intro h; try exact nd h
   all_goals
    have hb0 := True.intro
    refine rg sound_nil [2] (And.intro sizesD_len (fun (h : Int) (h0 : 0 ≤ h) (h1 : h < 5) => sizes_take h0 h1)) ?_
    exact fz hb0)
noncomputable def ΦSI : Fns := tab [(107, bitsF)]
theorem ΦSI_ok : Sound E ΦSI := sound_cons (by kernel_rfl) bits_ok (sound_nil)
@[go_sem] theorem ΦSI_r : ΦSI 107 = some bitsF := rfl
@[go_sem] noncomputable def sizeF : PFn := PF [SI .i64] (fun (q : Int) => True) (fun (q : Int) => [.int .i64 (sizeH q)])
theorem size_ok : Pure E 58 sizeF := Pure.of_sig (rs := [.tmp 2]) (n := 6) Tryz.func58 rfl rfl rfl (Nat.le_of_ble_eq_true rfl) (by
 intro (q : Int) hds
 refine st0 ?_
 refine rg ΦSI_ok [0] sizeW ?_
 refine rg ΦSI_ok [2] sizeW ?_
 exact fz sizeW)
def nameH (h : Int) : List UInt8 := if h = 1 then [115, 104, 97, 50, 50, 52] else if h = 2 then [115, 104, 97, 50, 53, 54] else if h = 3 then [115, 104, 97, 51, 56, 52] else if h = 4 then [115, 104, 97, 53, 49, 50] else []
theorem nameH_of (h : Int) (h1 : ¬ sizeH h = 0) : 115 :: 104 :: 97 :: Lib.decDigits (bitsH h).toNat = nameH h ∧ (0 ≤ bitsH h ∧ bitsH h ≤ 1000) ∧ (Lib.decDigits (bitsH h).toNat).length = 3 := by
 have hh : h = 1 ∨ h = 2 ∨ h = 3 ∨ h = 4 := by unfold sizeH at h1; (repeat' split at h1) <;> omega
 rcases hh with rfl | rfl | rfl | rfl <;> decide +kernel
theorem nameH_no (h : Int) (h1 : sizeH h = 0) : nameH h = [] := by
 unfold sizeH at h1; unfold nameH; (repeat' split) <;> simp_all
@[go_sem] noncomputable def itozF : PFn := PF [SI .i64] (fun (x : Int) => 0 ≤ x ∧ x ≤ 9223372036854775807) (fun (x : Int) => [.str (Lib.decDigits x.toNat)])
theorem itoz_ok : Pure E 108 itozF := Pure.of_pure itoa_ok (by
 intro (x : Int) hx
 obtain ⟨n, rfl⟩ := Int.eq_ofNat_of_zero_le hx.1
 exact ⟨(itoa_pre n).mpr (by omega), itoa_res n⟩)
noncomputable def ΦNM : Fns := tab [(107, bitsF), (58, sizeF), (108, itozF)]
theorem ΦNM_ok : Sound E ΦNM := sound_cons (by kernel_rfl) bits_ok (sound_cons (by kernel_rfl) size_ok (sound_cons (by kernel_rfl) itoz_ok (sound_nil)))
@[go_sem] theorem ΦNM_r : ΦNM 107 = some bitsF ∧ ΦNM 58 = some sizeF ∧ ΦNM 108 = some itozF := ⟨rfl, rfl, rfl⟩
@[go_sem] noncomputable def mnameF : PFn := PF [SI .i64] (fun (q : Int) => True) (fun (q : Int) => [.str (nameH q)])
theorem mname_ok : Pure E 60 mnameF := Pure.of_sig (rs := [.tmp 2]) (n := 10) Tryz.func60 rfl rfl rfl (Nat.le_of_ble_eq_true rfl) (by
 intro (q : Int) hds
 refine st0 ?_
 refine rg ΦNM_ok [0] trivial ?_
 refine rg ΦNM_ok [0, 5] trivial ?_
 refine cn ?_ ?_
 ·intro h; try exact nd h
  all_goals
   have hn := nameH_no q (by assumption)
   refine rg ΦNM_ok [2] trivial ?_
   exact fz hn
 ·intro h; try exact nd h
  all_goals
   obtain ⟨hn, hc, hl⟩ := nameH_of q (by assumption)
   refine rg ΦNM_ok [2] trivial ?_
   exact fz hn)
end Go.Proofs.YtpajpkbipagjpaaGreatDoor.Oc
namespace Go.Proofs.YtpajpkbipagjpaaGreatDoor.Oc
open Go Go.RowKit Go.Proofs.YtpajpkbipagjpaaGreatDoor.Vm Go.Proofs.YtpajpkbipagjpaaGreatDoor.Tr Go.IntWalk
set_option maxRecDepth 100000
set_option maxHeartbeats 4000000
def namedH (s : List UInt8) : Int := if nameH 1 = s then 1 else if nameH 2 = s then 2 else if nameH 3 = s then 3 else if nameH 4 = s then 4 else 0
theorem namedH_no (s : List UInt8) (h : ∀ j : Nat, 1 ≤ j → j < 5 → nameH (j : Int) ≠ s) : namedH s = 0 := by
 have h1 := h 1 (by omega) (by omega); have h2 := h 2 (by omega) (by omega); have h3 := h 3 (by omega) (by omega); have h4 := h 4 (by omega) (by omega)
 simp only [Int.natCast_one, show ((2 : Nat) : Int) = 2 from rfl, show ((3 : Nat) : Int) = 3 from rfl, show ((4 : Nat) : Int) = 4 from rfl] at h1 h2 h3 h4
 unfold namedH; rw [if_neg h1, if_neg h2, if_neg h3, if_neg h4]
theorem namedH_yes (s : List UInt8) (i : Nat) (h1 : 1 ≤ i) (h5 : i < 5) (he : nameH (i : Int) = s) : namedH s = (i : Int) := by
 subst he
 have : i = 1 ∨ i = 2 ∨ i = 3 ∨ i = 4 := by omega
 rcases this with rfl | rfl | rfl | rfl <;> decide +kernel
theorem named_step {s : List UInt8} {i : Nat} (hp : (1 ≤ i ∧ i ≤ 5) ∧ ∀ j : Nat, 1 ≤ j → j < i → nameH (j : Int) ≠ s) (h4 : i < 5) (hn : ¬ nameH (i : Int) = s) : (1 ≤ i + 1 ∧ i + 1 ≤ 5) ∧ ∀ j : Nat, 1 ≤ j → j < i + 1 → nameH (j : Int) ≠ s := by
 refine ⟨by omega, fun j h1 h2 => ?_⟩
 rcases Nat.lt_or_ge j i with h3 | h3
 ·exact hp.2 j h1 h3
 ·obtain rfl : j = i := by omega
  exact hn
noncomputable def ΦMN : Fns := tab [(60, mnameF)]
theorem ΦMN_ok : Sound E ΦMN := sound_cons (by kernel_rfl) mname_ok (sound_nil)
@[go_sem] theorem ΦMN_r : ΦMN 60 = some mnameF := rfl
@[go_sem] noncomputable def mnamedF : PFn := PF [SS] (fun (s : List UInt8) => True) (fun (s : List UInt8) => [.int .i64 (namedH s)])
theorem mnamed_ok : Pure E 74 mnamedF := Pure.of_sig (rs := [.tmp 2]) (n := 13) Tryz.func74 rfl rfl rfl (Nat.le_of_ble_eq_true rfl) (by
 intro (s : List UInt8) hds
 refine st0 ?_
 refine rg ΦMN_ok [0] trivial ?_
 refine rg ΦMN_ok [0, 3] trivial ?_
 refine nx ?_
 refine VC.loopP (ι := Nat) [0] (fun i => [(3, .dat (.int .i64 (i : Int)))]) (fun _ => []) (fun i => (1 ≤ i ∧ i ≤ 5) ∧ ∀ j : Nat, 1 ≤ j → j < i → nameH (j : Int) ≠ s) (fun i => 5 - i) 1 (⟨by omega, fun j h1 h2 => by omega⟩) (et) ?_
 rintro i hp; try dsimp only at hp
 refine st0 ?_
 refine rg ΦMN_ok [0, 3, 5] trivial ?_
 refine cn ?_ ?_
 ·intro h; try exact nd h
  all_goals
   refine rg ΦMN_ok [0, 3, 11] trivial ?_
   refine cn ?_ ?_
   ·intro h; try exact nd h
    all_goals
     have hy := namedH_yes s i (by omega) (by omega) (by assumption)
     refine rg ΦMN_ok [2] trivial ?_
     exact fz hy
   ·intro h; try exact nd h
    all_goals
     refine rgL ΦMN_ok trivial ?_
     refine nx ?_
     exact ⟨i + 1, named_step hp (by omega) (by assumption), et, by omega⟩
 ·intro h; try exact nd h
  all_goals
   have hy := namedH_no s (fun j h1 h2 => hp.2 j h1 (by omega))
   refine rg ΦMN_ok [2] trivial ?_
   exact fz hy)
end Go.Proofs.YtpajpkbipagjpaaGreatDoor.Oc
namespace Go.Proofs.YtpajpkbipagjpaaGreatDoor.Oc
open Go Go.RowKit Go.Proofs.YtpajpkbipagjpaaGreatDoor.Vm Go.Proofs.YtpajpkbipagjpaaGreatDoor.Tr Go.IntWalk
set_option maxRecDepth 100000
set_option maxHeartbeats 4000000
def grp (n j : Nat) : List UInt8 := if j < 9 ∧ n / 2 ^ (63 - 7 * j) = 0 then [] else [UInt8.ofNat (n / 2 ^ (63 - 7 * j) % 128 + if j = 9 then 0 else 128)]
def encTo (n j : Nat) : List UInt8 := (List.range j).flatMap (grp n)
def enc1 (n : Nat) : List UInt8 := encTo n 10
theorem encTo_succ (n j : Nat) : encTo n (j + 1) = encTo n j ++ grp n j := by simp [encTo, List.range_succ]
theorem encTo_zero (n : Nat) : encTo n 0 = [] := rfl
theorem grp_skip {n j : Nat} (h : j < 9) (h' : n / 2 ^ (63 - 7 * j) = 0) : grp n j = [] := if_pos ⟨h, h'⟩
theorem grp_more {n j : Nat} (h : j < 9) (h' : ¬ n / 2 ^ (63 - 7 * j) = 0) : grp n j = [UInt8.ofNat (n / 2 ^ (63 - 7 * j) % 128 + 128)] := by
 unfold grp; rw [if_neg (fun e => h' e.2), if_neg (by omega)]
theorem grp_last {n j : Nat} (h : j = 9) : grp n j = [UInt8.ofNat (n / 2 ^ (63 - 7 * j) % 128)] := by
 unfold grp; rw [if_neg (by omega), if_pos h]; rfl
theorem shr_at (n j : Nat) (h : j ≤ 9) : (n : Int).fdiv (2 ^ min (63 - 7 * (j : Int)).toNat 64) = ((n / 2 ^ (63 - 7 * j) : Nat) : Int) := by
 have e : min (63 - 7 * (j : Int)).toNat 64 = 63 - 7 * j := by omega
 rw [e, Int.fdiv_eq_ediv_of_nonneg _ (by exact Int.le_of_lt (Int.pow_pos (by decide)))]
 simp
theorem and127 : ∀ b : Fin 256, bits .and .u8 (b.val : Int) 127 = ((b.val % 128 : Nat) : Int) := by decide +kernel
theorem or128 : ∀ b : Fin 128, bits .or .u8 (b.val : Int) 128 = ((b.val + 128 : Nat) : Int) := by decide +kernel
theorem low7 (x : Nat) : bits .and .u8 (IntKind.u8.wrap (x : Int)) 127 = ((x % 128 : Nat) : Int) := by
 have h := and127 ⟨x % 256, Nat.mod_lt _ (by decide)⟩
 rw [show IntKind.u8.wrap (x : Int) = ((x % 256 : Nat) : Int) by rw [IntKind.wrap_u8]; omega]
 rw [h]
 simp only [Int.natCast_inj]; omega
theorem high (x : Nat) : bits .or .u8 ((x % 128 : Nat) : Int) 128 = ((x % 128 + 128 : Nat) : Int) := or128 ⟨x % 128, Nat.mod_lt _ (by decide)⟩
theorem byte_snoc0 (l : List UInt8) (x : Nat) (h : x < 256) : bytesD l ++ [[.int .u8 (x : Int)]] = bytesD (l ++ [UInt8.ofNat x]) := by
 rw [← bytesD_snoc, UInt8.toNat_ofNat', Nat.mod_eq_of_lt h]
theorem byte_snoc7 (l : List UInt8) (x : Nat) : bytesD l ++ [[.int .u8 ((x % 128 : Nat) : Int)]] = bytesD (l ++ [UInt8.ofNat (x % 128)]) := byte_snoc0 l _ (by have := Nat.mod_lt x (show 0 < 128 by decide); omega)
theorem byte_snoc8 (l : List UInt8) (x : Nat) : bytesD l ++ [[.int .u8 ((x % 128 + 128 : Nat) : Int)]] = bytesD (l ++ [UInt8.ofNat (x % 128 + 128)]) := byte_snoc0 l _ (by have := Nat.mod_lt x (show 0 < 128 by decide); omega)
theorem grp_len (n j : Nat) : (grp n j).length ≤ 1 := by unfold grp; split <;> simp
theorem encTo_len (n j : Nat) : (encTo n j).length ≤ j := by
 induction j with
 | zero => simp [encTo]
 | succ j ih => rw [encTo_succ, List.length_append]; have := grp_len n j; omega
def num (l : List Nat) (k : Nat) : Nat := if k = 0 then l.getD 1 0 + 40 * l.getD 0 0 else l.getD (k + 1) 0
theorem num_zero (l : List Nat) (k : Nat) (h : k = 0) : num l k = l.getD (k + 1) 0 + 40 * l.getD 0 0 := by subst h; rfl
theorem num_pos (l : List Nat) (k : Nat) (h : ¬ k = 0) : num l k = l.getD (k + 1) 0 := if_neg h
@[go_sem] theorem getD_drop1 (l : List Nat) (k : Nat) : (l.drop 1).getD k 0 = l.getD (k + 1) 0 := by simp [List.getD_eq_getElem?_getD, Nat.add_comm]
def encN (l : List Nat) (k : Nat) : List UInt8 := (List.range k).flatMap fun i => enc1 (num l i)
theorem encN_len (l : List Nat) (k : Nat) : (encN l k).length ≤ 10 * k := by
 induction k with
 | zero => simp [encN]
 | succ k ih =>
   have e : encN l (k + 1) = encN l k ++ enc1 (num l k) := by simp [encN, List.range_succ]
   rw [e, List.length_append]; have := encTo_len (num l k) 10; unfold enc1; omega
def enc (l : List Nat) : List UInt8 := encN l (l.length - 1)
def encO (l : List Nat) : List UInt8 := if may l then enc l else []
theorem encN_succ (l : List Nat) (k : Nat) : encN l (k + 1) = encN l k ++ enc1 (num l k) := by simp [encN, List.range_succ]
theorem encO_len (l : List Nat) : (encO l).length ≤ 200 := by
 unfold encO
 split
 ·rename_i h
  have := of_decide_eq_true h
  have := encN_len l (l.length - 1)
  unfold enc; omega
 ·simp
theorem ocE : (∀ n j : Nat, j ≤ 9 → (n : Int).fdiv (2 ^ min (63 - 7 * (j : Int)).toNat 64) = ((n / 2 ^ (63 - 7 * j) : Nat) : Int)) ∧ (∀ x : Nat, bits .and .u8 (IntKind.u8.wrap (x : Int)) 127 = ((x % 128 : Nat) : Int)) ∧ (∀ x : Nat, bits .or .u8 ((x % 128 : Nat) : Int) 128 = ((x % 128 + 128 : Nat) : Int)) ∧ (∀ (l : List Nat) (k : Nat), (l.drop 1).getD k 0 = l.getD (k + 1) 0) ∧ (∀ l : List Nat, List.take ((l.length : Int) - 1).toNat (List.drop 1 l) = List.drop 1 l) := ⟨shr_at, low7, high, getD_drop1, fun l => List.take_of_length_le (by rw [List.length_drop]; omega)⟩
noncomputable def ΦBY : Fns := tab [(149, checkF)]
theorem ΦBY_ok : Sound E ΦBY := sound_cons (by kernel_rfl) check_ok (sound_nil)
@[go_sem] theorem ΦBY_r : ΦBY 149 = some checkF ∧ ΦBY 150 = none ∧ ΦBY 199 = none := ⟨rfl, rfl, rfl⟩
@[go_sem] theorem ΦBY_c : callable Tryz.prog 150 = true ∧ callable Tryz.prog 199 = true := ⟨by kernel_rfl, by kernel_rfl⟩
theorem grp_skipF {n j : Nat} (h : j < 9) (h' : (n : Int).fdiv (2 ^ min (63 - 7 * (j : Int)).toNat 64) = 0) : grp n j = [] := by
 rw [shr_at n j (by omega)] at h'; exact grp_skip h (Int.ofNat.inj h')
theorem grp_moreF {n j : Nat} (h : j < 9) (h' : ¬ (n : Int).fdiv (2 ^ min (63 - 7 * (j : Int)).toNat 64) = 0) : grp n j = [UInt8.ofNat (n / 2 ^ (63 - 7 * j) % 128 + 128)] := by
 rw [shr_at n j (by omega)] at h'; exact grp_more h (fun e => h' (by rw [e]; rfl))
theorem num_wrap {l : List Nat} {k : Nat} (h : k = 0) (h2 : l.getD 1 0 + 40 * l.getD 0 0 ≤ 9223372036854775807) : IntKind.u64.wrap ((l.getD (k + 1) 0 : Int) + 40 * (l.getD 0 0 : Int)) = ((num l k : Nat) : Int) := by
 subst h; rw [num_zero l 0 rfl, Nat.zero_add, u64_in _ (by omega)]; omega
theorem encO_yes {l : List Nat} (h : may l = true) : encO l = enc l := if_pos h
theorem may_not {p : Bool} (h : ¬ (if p = true then 0 else 140 : Int) = 0) : p = false := by cases p <;> simp_all
theorem may_is {p : Bool} (h : (if p = true then 0 else 140 : Int) = 0) : p = true := by cases p <;> simp_all
@[go_sem] noncomputable def bytesO : OFn := OF [SN] (fun (l : List Nat) => l.length ≤ 4611686018427387904) 5 1 (fun (l : List Nat) => bytesD (encO l)) (fun (l : List Nat) => [.int .i64 (if may l then 0 else 140)])
@[go_sem] noncomputable def bytesF : PFn := bytesO.shut
theorem bytes_own : Own E 105 bytesO := Own.of_sig (rs := [.tmp 2, .tmp 3]) (n := 45) Tryz.func105 rfl rfl rfl (Nat.le_of_ble_eq_true rfl) (by
 intro (l : List Nat) hds
 refine st0 ?_
 refine rg ΦBY_ok [0, 8, 9] ocE ?_
 refine rg ΦBY_ok [0, 4, 8, 9] ocE ?_
 refine rg ΦBY_ok [0, 4, 8, 9, 13] ocE ?_
 refine cn ?_ ?_
 ·intro h; try exact nd h
  all_goals
   have hm : may l = false := may_not (by assumption)
   have eo : encO l = [] := by simp [encO, hm]
   refine rg ΦBY_ok [2, 3] ocE ?_
   exact fz (And.intro hm eo)
 ·intro h; try exact nd h
  all_goals
   have hm : may l = true := may_is (by assumption)
   have hml := of_decide_eq_true hm
   have hl1 : (List.drop 1 l).length = l.length - 1 := List.length_drop
   refine rg ΦBY_ok [0, 5, 8, 9] ocE ?_
   refine rg ΦBY_ok [0, 5, 8, 9, 16, 17, 18] ocE ?_
   refine nx ?_
   refine VC.loopM (ι := Nat) [0, 5, 16, 17] (fun k => [(18, .dat (.int .i64 (k : Int)))]) marks (fun k => (1, .cells [.sl 2 0 (encN l k).length] false) :: (2, .arr 5 1 (bytesD (encN l k)) 0) :: marksH k) (fun k => k ≤ l.length - 1) (fun k => l.length - 1 - k) 0 (Nat.zero_le _) ?_ ?_
   ·refine (Ent.nilC 1 0 2 5 1 (cs := [.nilsl]) (fz := false) (by decide) (by simp -implicitDefEqProofs only [go_sem]) (by decide) (by simp -implicitDefEqProofs only [go_sem]) rfl).trans (Ent.to rfl rfl rfl ?_ ?_)
    ·simp -implicitDefEqProofs only [go_sem]; (try simp only [D.dat.injEq, Vm.Data.int.injEq, true_and, and_true, and_self, eq_self]); (try omega); (try ((repeat' apply And.intro) <;> first | omega | rfl))
    ·(repeat' (first | exact all_nil | exact marks_tail [] rfl (by simp) | (refine all_cons ?_ ?_))) <;> (simp -implicitDefEqProofs only [go_sem]; (try rfl); skip)
   intro k hk; (try dsimp only at hk)
   refine st0 ?_
   refine rg ΦBY_ok [0, 5, 8, 9, 16, 17, 18, 19] ocE ?_
   refine cn ?_ ?_
   ·intro h; try exact nd h
    all_goals
     refine rg ΦBY_ok [0, 5, 6, 7, 8, 9, 16, 17, 18] ocE ?_
     refine rg ΦBY_ok [0, 5, 7, 8, 9, 16, 17, 18, 24] ocE ?_
     refine cn ?_ ?_
     ·intro h; try exact nd h
      all_goals
       refine rgL ΦBY_ok ocE ?_
       first
       | rw [num_wrap (by omega) (by omega)]
       | rw [show (l.getD (k + 1) 0 : Int) = ((num l k : Nat) : Int) by rw [num_pos l k (by omega)]]
       refine rB ΦBY_ok [0, 5, 8, 9, 16, 17, 18, 32] ocE fun K' hK => ?_
       repeat' first | with_reducible apply And.intro | exact sd | exact sde ocE | exact sdp ocE | refine stk ocE ?_ | fail
       refine ec (rs := [.tmp 2]) (n := 4) Tryz.func150 rfl rfl rfl ?_
       refine rg ΦBY_ok [1] trivial ?_
       refine rg ΦBY_ok [2] trivial ?_
       refine nx ?_
       refine rt ocE ?_
       repeat' first | (refine lf hK ocE ?_; clear hK K') | with_reducible apply And.intro | exact sd | exact sde ocE | exact sdp ocE | refine stk ocE ?_ | fail
       all_goals
        refine nx ?_
        refine re (rs := []) (n := 26) (100 + k) 4 Tryz.func199 rfl rfl rfl fun A B hA hB => ?_
        refine rg ΦBY_ok [0, 1, 3] ocE ?_
        refine nx ?_
        refine VC.loopS (ι := Nat) [0, 1] (fun j => [(3, .dat (.int .i64 (63 - 7 * (j : Int))))]) (fun j => [(1, .cells [.sl 2 0 (encN l k ++ encTo (num l k) j).length] false), (2, .arr 5 1 (bytesD (encN l k ++ encTo (num l k) j)) 0)]) (fun j => j ≤ 10) (fun j => 10 - j) 0 (Nat.zero_le _) ?_ ?_
        ·refine Ent.to rfl rfl rfl ?_ ?_
         ·simp -implicitDefEqProofs only [go_sem]; (try simp only [D.dat.injEq, Vm.Data.int.injEq, true_and, and_true, and_self, eq_self]); (try omega); (try ((repeat' apply And.intro) <;> first | omega | rfl))
         ·apply all_at
          ·simp -implicitDefEqProofs only [go_sem]; simp only [encTo_zero, List.append_nil]; exact rfl
          ·(repeat' (first | exact all_nil | exact marks_tail [_, _, _, _, _] rfl (by simp) | (refine all_cons ?_ ?_))) <;> (simp -implicitDefEqProofs only [go_sem]; (try rfl); skip)
        intro j hj; (try dsimp only at hj)
        refine st0 ?_
        have hb : (encN l k ++ encTo (num l k) j).length ≤ 300 := by
         have := encN_len l k; have := encTo_len (num l k) j; rw [List.length_append]; omega
        refine rg ΦBY_ok [0, 1, 3, 5] ocE ?_
        refine cn ?_ ?_
        ·intro h; try exact nd h
         all_goals
          refine rB ΦBY_ok [0, 1, 3, 15] ocE fun K' hK => ?_
          repeat' first | (refine lf hK ocE ?_; clear hK K') | with_reducible apply And.intro | refine sA ocE (fun _ => ?_) fun _ => ?_ | refine sAb ocE (fun _ => ?_) fun _ => ?_ | refine sAl ocE (fun g => ?_) fun g => ?_ | exact sd | exact sde ocE | exact sdp ocE | refine stk ocE ?_ | fail
          all_goals
           refine cn ?_ ?_
           ·intro h; try exact nd h
            all_goals
             refine rgL ΦBY_ok ocE ?_
             refine nx ?_
             have eg : encTo (num l k) (j + 1) = encTo (num l k) j ++ grp (num l k) j := encTo_succ _ _
             have es := shr_at (num l k) j (by omega)
             first | rw [grp_skipF (by omega) (by assumption), List.append_nil] at eg | rw [grp_moreF (by omega) (by assumption)] at eg | rw [grp_last (by omega)] at eg
             refine ⟨j + 1, by omega, Ent.to rfl rfl rfl ?_ ?_, by omega⟩
             ·simp -implicitDefEqProofs only [go_sem]; (try simp (disch := omega) only [i64_in, tmodn, tdivn]); (try simp only [D.dat.injEq, Vm.Data.int.injEq, true_and, and_true, and_self, eq_self]); (try omega); (try ((repeat' apply And.intro) <;> first | omega | rfl))
             ·apply all_at
              ·simp -implicitDefEqProofs only [go_sem]; (try simp only [eg, es, low7, high]); first | done | exact rfl
              ·(repeat' (first | exact all_nil | exact marks_tail [_, _, _, _, _] rfl (by simp) | exact marks_tail [_, _, _, _, _, _] rfl (by simp) | (refine all_cons ?_ ?_))) <;> (simp -implicitDefEqProofs only [go_sem]; (try rfl); (try simp only [es, low7, high]); try first | rfl | (simp [List.length_append, Nat.add_assoc]; done) | (rw [byte_snoc8, List.append_assoc]; done) | (rw [byte_snoc7, List.append_assoc]; done))
           ·intro h; try exact nd h
            all_goals
             refine rB ΦBY_ok [0, 1, 3, 25] ocE fun K' hK => ?_
             repeat' first | with_reducible apply And.intro | exact sd | exact sde ocE | exact sdp ocE | refine stk ocE ?_ | fail
             refine yd hA ?_
             refine rg ΦBY_ok [5, 8, 34] ocE ?_
             refine rgL ΦBY_ok ocE ?_
             refine nx ?_
             refine yb hB ?_
             refine rg ΦBY_ok [5, 8, 36] ocE ?_
             refine cn ?_ ?_
             ·intro h; try exact nd h
              all_goals
               refine rgL ΦBY_ok ocE ?_
               refine rgL ΦBY_ok ocE ?_
               refine nx ?_
               refine rt ocE ?_
               repeat' first | (refine lf hK ocE ?_; clear hK K') | with_reducible apply And.intro | exact sd | exact sde ocE | exact sdp ocE | refine stk ocE ?_ | fail
               all_goals
                refine cn ?_ ?_
                ·exact fun h => nd h
                intro h
                refine rgL ΦBY_ok ocE ?_
                refine nx ?_
                have eg : encTo (num l k) (j + 1) = encTo (num l k) j ++ grp (num l k) j := encTo_succ _ _
                have es := shr_at (num l k) j (by omega)
                first | rw [grp_skipF (by omega) (by assumption), List.append_nil] at eg | rw [grp_moreF (by omega) (by assumption)] at eg | rw [grp_last (by omega)] at eg
                refine ⟨j + 1, by omega, Ent.to rfl rfl rfl ?_ ?_, by omega⟩
                ·simp -implicitDefEqProofs only [go_sem]; (try simp (disch := omega) only [i64_in, tmodn, tdivn]); (try simp only [D.dat.injEq, Vm.Data.int.injEq, true_and, and_true, and_self, eq_self]); (try omega); (try ((repeat' apply And.intro) <;> first | omega | rfl))
                ·apply all_at
                 ·simp -implicitDefEqProofs only [go_sem]; (try simp only [eg, es, low7, high]); first | done | exact rfl
                 ·(repeat' (first | exact all_nil | exact marks_tail [_, _, _, _, _] rfl (by simp) | exact marks_tail [_, _, _, _, _, _] rfl (by simp) | (refine all_cons ?_ ?_))) <;> (simp -implicitDefEqProofs only [go_sem]; (try rfl); (try simp only [es, low7, high]); try first | rfl | (simp [List.length_append, Nat.add_assoc]; done) | (rw [byte_snoc8, List.append_assoc]; done) | (rw [byte_snoc7, List.append_assoc]; done))
             ·intro h; try exact nd h
              all_goals
               refine rgL ΦBY_ok ocE ?_
               refine nx ?_
               refine rt ocE ?_
               repeat' first | (refine lf hK ocE ?_; clear hK K') | with_reducible apply And.intro | exact sd | exact sde ocE | exact sdp ocE | refine stk ocE ?_ | fail
               all_goals
                refine cn ?_ ?_
                ·exact fun h => nd h
                intro h
                refine rgL ΦBY_ok ocE ?_
                refine nx ?_
                have eg : encTo (num l k) (j + 1) = encTo (num l k) j ++ grp (num l k) j := encTo_succ _ _
                have es := shr_at (num l k) j (by omega)
                first | rw [grp_skipF (by omega) (by assumption), List.append_nil] at eg | rw [grp_moreF (by omega) (by assumption)] at eg | rw [grp_last (by omega)] at eg
                refine ⟨j + 1, by omega, Ent.to rfl rfl rfl ?_ ?_, by omega⟩
                ·simp -implicitDefEqProofs only [go_sem]; (try simp (disch := omega) only [i64_in, tmodn, tdivn]); (try simp only [D.dat.injEq, Vm.Data.int.injEq, true_and, and_true, and_self, eq_self]); (try omega); (try ((repeat' apply And.intro) <;> first | omega | rfl))
                ·apply all_at
                 ·simp -implicitDefEqProofs only [go_sem]; (try simp only [eg, es, low7, high]); first | done | exact rfl
                 ·(repeat' (first | exact all_nil | exact marks_tail [_, _, _, _, _] rfl (by simp) | exact marks_tail [_, _, _, _, _, _] rfl (by simp) | (refine all_cons ?_ ?_))) <;> (simp -implicitDefEqProofs only [go_sem]; (try rfl); (try simp only [es, low7, high]); try first | rfl | (simp [List.length_append, Nat.add_assoc]; done) | (rw [byte_snoc8, List.append_assoc]; done) | (rw [byte_snoc7, List.append_assoc]; done))
        ·intro h; try exact nd h
         all_goals
          refine nx ?_
          refine rt ocE ?_
          refine ya ?_
          refine rgL ΦBY_ok ocE ?_
          refine nx ?_
          have ej : j = 10 := by omega
          subst ej
          have ee : encN l k ++ encTo (num l k) 10 = encN l (k + 1) := (encN_succ l k).symm
          rw [ee]
          refine ⟨k + 1, by omega, Ent.to rfl (marks_succ k).symm rfl ?_ ?_, by omega⟩
          ·simp -implicitDefEqProofs only [go_sem]; (try simp (disch := omega) only [i64_in, tmodn, tdivn]); (try simp only [D.dat.injEq, Vm.Data.int.injEq, true_and, and_true, and_self, eq_self]); (try omega); (try ((repeat' apply And.intro) <;> first | omega | rfl))
          ·dsimp only; rw [marksH_succ]; (repeat' (first | exact all_nil | exact marks_tail [_, _, _, _, _] rfl (by simp) | exact marks_tail [_, _, _, _] rfl (by simp) | (refine all_cons ?_ ?_))) <;> (simp -implicitDefEqProofs only [go_sem]; (try rfl); skip)
     ·intro h; try exact nd h
      all_goals
       first
       | rw [num_wrap (by omega) (by omega)]
       | rw [show (l.getD (k + 1) 0 : Int) = ((num l k : Nat) : Int) by rw [num_pos l k (by omega)]]
       refine rB ΦBY_ok [0, 5, 8, 9, 16, 17, 18, 32] ocE fun K' hK => ?_
       repeat' first | with_reducible apply And.intro | exact sd | exact sde ocE | exact sdp ocE | refine stk ocE ?_ | fail
       refine ec (rs := [.tmp 2]) (n := 4) Tryz.func150 rfl rfl rfl ?_
       refine rg ΦBY_ok [1] trivial ?_
       refine rg ΦBY_ok [2] trivial ?_
       refine nx ?_
       refine rt ocE ?_
       repeat' first | (refine lf hK ocE ?_; clear hK K') | with_reducible apply And.intro | exact sd | exact sde ocE | exact sdp ocE | refine stk ocE ?_ | fail
       all_goals
        refine nx ?_
        refine re (rs := []) (n := 26) (100 + k) 4 Tryz.func199 rfl rfl rfl fun A B hA hB => ?_
        refine rg ΦBY_ok [0, 1, 3] ocE ?_
        refine nx ?_
        refine VC.loopS (ι := Nat) [0, 1] (fun j => [(3, .dat (.int .i64 (63 - 7 * (j : Int))))]) (fun j => [(1, .cells [.sl 2 0 (encN l k ++ encTo (num l k) j).length] false), (2, .arr 5 1 (bytesD (encN l k ++ encTo (num l k) j)) 0)]) (fun j => j ≤ 10) (fun j => 10 - j) 0 (Nat.zero_le _) ?_ ?_
        ·refine Ent.to rfl rfl rfl ?_ ?_
         ·simp -implicitDefEqProofs only [go_sem]; (try simp only [D.dat.injEq, Vm.Data.int.injEq, true_and, and_true, and_self, eq_self]); (try omega); (try ((repeat' apply And.intro) <;> first | omega | rfl))
         ·apply all_at
          ·simp -implicitDefEqProofs only [go_sem]; simp only [encTo_zero, List.append_nil]; exact rfl
          ·(repeat' (first | exact all_nil | exact marks_tail [_, _, _, _, _] rfl (by simp) | (refine all_cons ?_ ?_))) <;> (simp -implicitDefEqProofs only [go_sem]; (try rfl); skip)
        intro j hj; (try dsimp only at hj)
        refine st0 ?_
        have hb : (encN l k ++ encTo (num l k) j).length ≤ 300 := by
         have := encN_len l k; have := encTo_len (num l k) j; rw [List.length_append]; omega
        refine rg ΦBY_ok [0, 1, 3, 5] ocE ?_
        refine cn ?_ ?_
        ·intro h; try exact nd h
         all_goals
          refine rB ΦBY_ok [0, 1, 3, 15] ocE fun K' hK => ?_
          repeat' first | (refine lf hK ocE ?_; clear hK K') | with_reducible apply And.intro | refine sA ocE (fun _ => ?_) fun _ => ?_ | refine sAb ocE (fun _ => ?_) fun _ => ?_ | refine sAl ocE (fun g => ?_) fun g => ?_ | exact sd | exact sde ocE | exact sdp ocE | refine stk ocE ?_ | fail
          all_goals
           refine cn ?_ ?_
           ·intro h; try exact nd h
            all_goals
             refine rgL ΦBY_ok ocE ?_
             refine nx ?_
             have eg : encTo (num l k) (j + 1) = encTo (num l k) j ++ grp (num l k) j := encTo_succ _ _
             have es := shr_at (num l k) j (by omega)
             first | rw [grp_skipF (by omega) (by assumption), List.append_nil] at eg | rw [grp_moreF (by omega) (by assumption)] at eg | rw [grp_last (by omega)] at eg
             refine ⟨j + 1, by omega, Ent.to rfl rfl rfl ?_ ?_, by omega⟩
             ·simp -implicitDefEqProofs only [go_sem]; (try simp (disch := omega) only [i64_in, tmodn, tdivn]); (try simp only [D.dat.injEq, Vm.Data.int.injEq, true_and, and_true, and_self, eq_self]); (try omega); (try ((repeat' apply And.intro) <;> first | omega | rfl))
             ·apply all_at
              ·simp -implicitDefEqProofs only [go_sem]; (try simp only [eg, es, low7, high]); first | done | exact rfl
              ·(repeat' (first | exact all_nil | exact marks_tail [_, _, _, _, _] rfl (by simp) | exact marks_tail [_, _, _, _, _, _] rfl (by simp) | (refine all_cons ?_ ?_))) <;> (simp -implicitDefEqProofs only [go_sem]; (try rfl); (try simp only [es, low7, high]); try first | rfl | (simp [List.length_append, Nat.add_assoc]; done) | (rw [byte_snoc8, List.append_assoc]; done) | (rw [byte_snoc7, List.append_assoc]; done))
           ·intro h; try exact nd h
            all_goals
             refine rB ΦBY_ok [0, 1, 3, 25] ocE fun K' hK => ?_
             repeat' first | with_reducible apply And.intro | exact sd | exact sde ocE | exact sdp ocE | refine stk ocE ?_ | fail
             refine yd hA ?_
             refine rg ΦBY_ok [5, 8, 34] ocE ?_
             refine rgL ΦBY_ok ocE ?_
             refine nx ?_
             refine yb hB ?_
             refine rg ΦBY_ok [5, 8, 36] ocE ?_
             refine cn ?_ ?_
             ·intro h; try exact nd h
              all_goals
               refine rgL ΦBY_ok ocE ?_
               refine rgL ΦBY_ok ocE ?_
               refine nx ?_
               refine rt ocE ?_
               repeat' first | (refine lf hK ocE ?_; clear hK K') | with_reducible apply And.intro | exact sd | exact sde ocE | exact sdp ocE | refine stk ocE ?_ | fail
               all_goals
                refine cn ?_ ?_
                ·exact fun h => nd h
                intro h
                refine rgL ΦBY_ok ocE ?_
                refine nx ?_
                have eg : encTo (num l k) (j + 1) = encTo (num l k) j ++ grp (num l k) j := encTo_succ _ _
                have es := shr_at (num l k) j (by omega)
                first | rw [grp_skipF (by omega) (by assumption), List.append_nil] at eg | rw [grp_moreF (by omega) (by assumption)] at eg | rw [grp_last (by omega)] at eg
                refine ⟨j + 1, by omega, Ent.to rfl rfl rfl ?_ ?_, by omega⟩
                ·simp -implicitDefEqProofs only [go_sem]; (try simp (disch := omega) only [i64_in, tmodn, tdivn]); (try simp only [D.dat.injEq, Vm.Data.int.injEq, true_and, and_true, and_self, eq_self]); (try omega); (try ((repeat' apply And.intro) <;> first | omega | rfl))
                ·apply all_at
                 ·simp -implicitDefEqProofs only [go_sem]; (try simp only [eg, es, low7, high]); first | done | exact rfl
                 ·(repeat' (first | exact all_nil | exact marks_tail [_, _, _, _, _] rfl (by simp) | exact marks_tail [_, _, _, _, _, _] rfl (by simp) | (refine all_cons ?_ ?_))) <;> (simp -implicitDefEqProofs only [go_sem]; (try rfl); (try simp only [es, low7, high]); try first | rfl | (simp [List.length_append, Nat.add_assoc]; done) | (rw [byte_snoc8, List.append_assoc]; done) | (rw [byte_snoc7, List.append_assoc]; done))
             ·intro h; try exact nd h
              all_goals
               refine rgL ΦBY_ok ocE ?_
               refine nx ?_
               refine rt ocE ?_
               repeat' first | (refine lf hK ocE ?_; clear hK K') | with_reducible apply And.intro | exact sd | exact sde ocE | exact sdp ocE | refine stk ocE ?_ | fail
               all_goals
                refine cn ?_ ?_
                ·exact fun h => nd h
                intro h
                refine rgL ΦBY_ok ocE ?_
                refine nx ?_
                have eg : encTo (num l k) (j + 1) = encTo (num l k) j ++ grp (num l k) j := encTo_succ _ _
                have es := shr_at (num l k) j (by omega)
                first | rw [grp_skipF (by omega) (by assumption), List.append_nil] at eg | rw [grp_moreF (by omega) (by assumption)] at eg | rw [grp_last (by omega)] at eg
                refine ⟨j + 1, by omega, Ent.to rfl rfl rfl ?_ ?_, by omega⟩
                ·simp -implicitDefEqProofs only [go_sem]; (try simp (disch := omega) only [i64_in, tmodn, tdivn]); (try simp only [D.dat.injEq, Vm.Data.int.injEq, true_and, and_true, and_self, eq_self]); (try omega); (try ((repeat' apply And.intro) <;> first | omega | rfl))
                ·apply all_at
                 ·simp -implicitDefEqProofs only [go_sem]; (try simp only [eg, es, low7, high]); first | done | exact rfl
                 ·(repeat' (first | exact all_nil | exact marks_tail [_, _, _, _, _] rfl (by simp) | exact marks_tail [_, _, _, _, _, _] rfl (by simp) | (refine all_cons ?_ ?_))) <;> (simp -implicitDefEqProofs only [go_sem]; (try rfl); (try simp only [es, low7, high]); try first | rfl | (simp [List.length_append, Nat.add_assoc]; done) | (rw [byte_snoc8, List.append_assoc]; done) | (rw [byte_snoc7, List.append_assoc]; done))
        ·intro h; try exact nd h
         all_goals
          refine nx ?_
          refine rt ocE ?_
          refine ya ?_
          refine rgL ΦBY_ok ocE ?_
          refine nx ?_
          have ej : j = 10 := by omega
          subst ej
          have ee : encN l k ++ encTo (num l k) 10 = encN l (k + 1) := (encN_succ l k).symm
          rw [ee]
          refine ⟨k + 1, by omega, Ent.to rfl (marks_succ k).symm rfl ?_ ?_, by omega⟩
          ·simp -implicitDefEqProofs only [go_sem]; (try simp (disch := omega) only [i64_in, tmodn, tdivn]); (try simp only [D.dat.injEq, Vm.Data.int.injEq, true_and, and_true, and_self, eq_self]); (try omega); (try ((repeat' apply And.intro) <;> first | omega | rfl))
          ·dsimp only; rw [marksH_succ]; (repeat' (first | exact all_nil | exact marks_tail [_, _, _, _, _] rfl (by simp) | exact marks_tail [_, _, _, _] rfl (by simp) | (refine all_cons ?_ ?_))) <;> (simp -implicitDefEqProofs only [go_sem]; (try rfl); skip)
   ·intro h; try exact nd h
    all_goals
     refine rg ΦBY_ok [2, 3] ocE ?_
     refine nx ?_
     refine ownK_r (ownS_marks (h := [_, _]) rfl (by simp) ?_)
     rw [show k = l.length - 1 by omega]
     simp -implicitDefEqProofs only [go_sem]
     rw [encO_yes hm, if_pos hm]
     exact ⟨rfl, rfl, rfl⟩)
theorem bytes_ok : Pure E 105 bytesF := bytes_own.pure
end Go.Proofs.YtpajpkbipagjpaaGreatDoor.Oc
namespace Go.Proofs.YtpajpkbipagjpaaGreatDoor.Oc
open Go Go.RowKit Go.Lib
theorem LI.mixed : Tryz.prog.follows .mixedOrders = true := by kernel_rfl
theorem LI.t0 : Tryz.prog.underlying 0 = some (TypeDesc.tuple #[]) := by kernel_rfl
theorem LI.a0 : ∀ w, (isAgg 0).run Tryz.prog w = .ok false w := fun w => by kernel_rfl
theorem LI.z0 : ∀ w, (Go.sizeOf 0).run Tryz.prog w = .ok 1 w := fun w => by kernel_rfl
theorem LI.v0 : ∀ w, (zeroValue 0).run Tryz.prog w = .ok (Value.tuple #[]) w := fun w => by kernel_rfl
theorem LI.t3 : Tryz.prog.underlying 3 = some (TypeDesc.int IntKind.i64) := by kernel_rfl
theorem LI.a3 : ∀ w, (isAgg 3).run Tryz.prog w = .ok false w := fun w => by kernel_rfl
theorem LI.z3 : ∀ w, (Go.sizeOf 3).run Tryz.prog w = .ok 1 w := fun w => by kernel_rfl
theorem LI.v3 : ∀ w, (zeroValue 3).run Tryz.prog w = .ok (Value.int IntKind.i64 0) w := fun w => by kernel_rfl
theorem LI.t4 : Tryz.prog.underlying 4 = some (TypeDesc.bool) := by kernel_rfl
theorem LI.a4 : ∀ w, (isAgg 4).run Tryz.prog w = .ok false w := fun w => by kernel_rfl
theorem LI.z4 : ∀ w, (Go.sizeOf 4).run Tryz.prog w = .ok 1 w := fun w => by kernel_rfl
theorem LI.v4 : ∀ w, (zeroValue 4).run Tryz.prog w = .ok (Value.bool false) w := fun w => by kernel_rfl
theorem LI.t158 : Tryz.prog.underlying 158 = some (TypeDesc.int IntKind.u64) := by kernel_rfl
theorem LI.a158 : ∀ w, (isAgg 158).run Tryz.prog w = .ok false w := fun w => by kernel_rfl
theorem LI.z158 : ∀ w, (Go.sizeOf 158).run Tryz.prog w = .ok 1 w := fun w => by kernel_rfl
theorem LI.v158 : ∀ w, (zeroValue 158).run Tryz.prog w = .ok (Value.int IntKind.u64 0) w := fun w => by kernel_rfl
theorem LI.t151 : Tryz.prog.underlying 151 = some (TypeDesc.slice 158) := by kernel_rfl
theorem LI.a151 : ∀ w, (isAgg 151).run Tryz.prog w = .ok false w := fun w => by kernel_rfl
theorem LI.z151 : ∀ w, (Go.sizeOf 151).run Tryz.prog w = .ok 1 w := fun w => by kernel_rfl
theorem LI.v151 : ∀ w, (zeroValue 151).run Tryz.prog w = .ok (Value.slice none 0 0) w := fun w => by kernel_rfl
theorem LI.i158 : (Tryz.prog.info? 158).map (fun i => (i.zero, i.size, i.bytes)) = some (some (Value.int IntKind.u64 0), 1, 8) := by kernel_rfl
set_option maxHeartbeats 4000000 in
set_option maxRecDepth 100000 in
theorem ins_shift (b off n c i vb voff m vc : Nat) (cs vs : List Value) (w : World) (hi : i < n) (hm : 0 < m) (hroom : n + m ≤ c) (hc63 : c ≤ 9223372036854775807) (hvb : vb ≠ b)
 (hcl : cs.length = n) (hvl : vs.length = m)
 (hcs : ∀ j v, cs[j]? = some v → w.cell? ⟨b, off + j, none⟩ = some v) (hsp : ∀ j, j < n + m → (w.cell? ⟨b, off + j, none⟩).isSome = true) (hfz : ∀ j, j < n + m → w.frozen? ⟨b, off + j, none⟩ = false)
 (hvs : ∀ j v, vs[j]? = some v → w.cell? ⟨vb, voff + j, none⟩ = some v) (h1c : ∀ v ∈ cs, v.oneCell' = true) (h1v : ∀ v ∈ vs, v.oneCell' = true)
 (tA tB : TypeId) (kA kB : Nat) (hsa : w.shape? vb = some (tA, kA)) (hsb : w.shape? b = some (tB, kB)) (hkB : kB ≠ 0) (hfa : w.frozen? ⟨vb, voff, none⟩ = false) (hfe : w.frozen? ⟨vb, kA, none⟩ = false) :
 Calls Tryz.prog 155 #[.slice (some ⟨b, off, none⟩) n c, .int .i64 i, .slice (some ⟨vb, voff, none⟩) m vc] w fun e w' =>
  e = .returned (.slice (some ⟨b, off, none⟩) (n + m) c) ∧ w' = (w.drew.setCells b (off + (i + m)) (cs.drop i)).setCells b (off + i) vs := by
 have t0 := LI.t0; have a0 := LI.a0; have z0 := LI.z0; have v0 := LI.v0; have t3 := LI.t3; have a3 := LI.a3; have z3 := LI.z3; have v3 := LI.v3; have t4 := LI.t4; have a4 := LI.a4; have z4 := LI.z4; have v4 := LI.v4; have t158 := LI.t158; have a158 := LI.a158; have z158 := LI.z158; have v158 := LI.v158; have t151 := LI.t151; have a151 := LI.a151; have z151 := LI.z151; have v151 := LI.v151
 have u0 := run_underlying LI.t0; have u3 := run_underlying LI.t3; have u4 := run_underlying LI.t4; have u158 := run_underlying LI.t158; have u151 := run_underlying LI.t151
 have hz1 : ¬ ((m : Int) = 0) := by omega
 have hz2 : ¬ ((i : Int) = (n : Int)) := by omega
 have hsz : (Tryz.prog.info? 158).map (·.size) = some 1 := by
  obtain ⟨i0, hi0, h0, h1, h2⟩ := info_parts LI.i158
  rw [hi0]; simp [h1]
 have hov : ∀ lb cb, (callFunc 204 #[.slice (some ⟨vb, voff, none⟩) m vc, .slice (some ⟨b, off + (i + m), none⟩) lb cb]).run Tryz.prog w = .ok (.value (.bool false)) w := fun lb cb => by
  rw [run_callFunc_extern Tryz.func204 (by kernel_rfl) (by kernel_rfl) (by kernel_rfl) (e := Extern.SlicesOverlaps.overlaps #[151, 151] #[4]) (by kernel_rfl),
   Lib.run_overlaps_apart w 151 4 158 LI.t151 1 LI.z158 ⟨vb, voff, none⟩ ⟨b, off + (i + m), none⟩ m vc lb cb hvb tA tB kA kB hsa hsb hkB hfa hfe]
  rfl
 have hdl : (cs.drop i).length = n - i := by rw [List.length_drop, hcl]
 have mixed := LI.mixed
 have hw1 : IntKind.i64.wrap ((i : Int) + (m : Int)) = (i : Int) + (m : Int) := by rw [IntKind.wrap_i64]; omega
 have hb1 : (0 : Int) ≤ (i : Int) + (m : Int) := by omega
 have hin : i ≤ n := by omega
 have htn : ((i : Int) + (m : Int)).toNat = i + m := by omega
 have hb2 : ¬ (c = i + m) := by omega
 have hb3 : (i : Int) ≤ (n : Int) + (m : Int) := by omega
 have hb4 : ¬ (c = i) := by omega
 have hcp1 : ∀ ty dc sc, (Builtin.copy_ #[151, 151] ty #[.slice (some ⟨b, off + (i + m), none⟩) (n + m - (i + m)) dc, .slice (some ⟨b, off + i, none⟩) (n + m - i) sc]).run Tryz.prog w.drew = .ok (goInt (cs.drop i).length) (w.drew.setCells b (off + (i + m)) (cs.drop i)) := fun ty dc sc =>
  run_copy_cells w.drew _ _ ty 158 b (off + (i + m)) (n + m - (i + m)) dc ⟨b, off + i, none⟩ (n + m - i) sc (cs.drop i) LI.t151 hsz (by rw [hdl]; simp only [Nat.min_def]; split <;> omega)
   (fun j v hj => by rw [Addr.add_lit, Nat.add_assoc]; exact hcs (i + j) v (by rwa [List.getElem?_drop] at hj))
   (fun j hj => by rw [Nat.add_assoc]; exact hsp _ (by omega)) (fun j hj => by rw [Nat.add_assoc]; exact hfz _ (by omega)) (fun v hv => h1c v (List.mem_of_mem_drop hv))
 obtain ⟨W1, hW1⟩ : ∃ W1, W1 = w.drew.setCells b (off + (i + m)) (cs.drop i) := ⟨_, rfl⟩
 have hsp1 : ∀ k, k < n + m → (W1.cell? ⟨b, off + k, none⟩).isSome = true := fun k hk => by
  rw [hW1]
  exact isSome_setCells b _ _ _ (fun j hj => by rw [Nat.add_assoc]; exact hsp _ (by omega)) _ (hsp k hk)
 have hcp2 : ∀ (W : World), (∀ x, W.cell? x = W1.cell? x) → (∀ x, W.frozen? x = W1.frozen? x) → ∀ ty dc, (Builtin.copy_ #[151, 151] ty #[.slice (some ⟨b, off + i, none⟩) (n + m - i) dc, .slice (some ⟨vb, voff, none⟩) m vc]).run Tryz.prog W = .ok (goInt vs.length) (W.setCells b (off + i) vs) := fun W hWc hWf ty dc =>
  run_copy_cells W _ _ ty 158 b (off + i) (n + m - i) dc ⟨vb, voff, none⟩ m vc vs LI.t151 hsz (by rw [hvl]; simp only [Nat.min_def]; split <;> omega)
   (fun j v hj => by
    rw [Addr.add_lit, hWc, hW1, World.cell?_setCells_out b _ _ _ _ (fun h _ => absurd h hvb)]
    exact hvs j v hj)
   (fun j hj => by rw [hWc, Nat.add_assoc]; exact hsp1 _ (by omega)) (fun j hj => by rw [hWf, hW1, World.frozen?_setCells, Nat.add_assoc]; exact hfz _ (by omega)) h1v
 rw [← hW1] at hcp1
 go_enter Tryz.func155, Tryz.ntmps155
 go_wp2_with (simp only [hov])
 go_region_law_o (refine step_copy_runI rfl _ _ 151 151 rfl _ _ (by simp [Act.eval, Act.put]) (by simp [Act.eval, Act.put]) (hcp1 _ _ _) ?_)
 go_wp2_with (at_builtin; refine wpList_copy_runI _ rfl _ _ 151 151 rfl _ _ rfl rfl (hcp2 _ (fun _ => rfl) (fun _ => rfl) _ _) ?_)
 go_ret
 first | exact ⟨rfl, rfl⟩ | exact ⟨rfl, by rw [hW1]⟩
set_option maxHeartbeats 4000000 in
set_option maxRecDepth 100000 in
theorem ins_grow (b off n c i vb voff m vc : Nat) (cs vs : List Value) (w : World) (hi : i < n) (hm : 0 < m) (hnc : n ≤ c) (hroom : c < n + m) (hbig : (n + m) * 8 ≤ 140737488355328)
 (hcl : cs.length = n) (hvl : vs.length = m)
 (hcs : ∀ j v, cs[j]? = some v → w.cell? ⟨b, off + j, none⟩ = some v)
 (hvs : ∀ j v, vs[j]? = some v → w.cell? ⟨vb, voff + j, none⟩ = some v) (h1c : ∀ v ∈ cs, v.oneCell' = true) (h1v : ∀ v ∈ vs, v.oneCell' = true) :
 Calls Tryz.prog 155 #[.slice (some ⟨b, off, none⟩) n c, .int .i64 i, .slice (some ⟨vb, voff, none⟩) m vc] w fun e w' =>
  e = .returned (.slice (some ⟨w.heap.size, 0, none⟩) (n + m) (grownCap w (n + m) c 158)) ∧
  w' = (((w.alloc (.cells ((cs.take i).toArray ++ Builtin.zeroCells (Value.int .u64 0).cells (n + m - i) ++ Builtin.zeroCells (Value.int .u64 0).cells (grownCap w (n + m) c 158 - (n + m))) 158)).drew.setCells w.heap.size i vs).drew).setCells w.heap.size (i + m) (cs.drop i) := by
 have t0 := LI.t0; have a0 := LI.a0; have z0 := LI.z0; have v0 := LI.v0; have t3 := LI.t3; have a3 := LI.a3; have z3 := LI.z3; have v3 := LI.v3; have t4 := LI.t4; have a4 := LI.a4; have z4 := LI.z4; have v4 := LI.v4; have t158 := LI.t158; have a158 := LI.a158; have z158 := LI.z158; have v158 := LI.v158; have t151 := LI.t151; have a151 := LI.a151; have z151 := LI.z151; have v151 := LI.v151
 have u0 := run_underlying LI.t0; have u3 := run_underlying LI.t3; have u4 := run_underlying LI.t4; have u158 := run_underlying LI.t158; have u151 := run_underlying LI.t151
 have mixed := LI.mixed
 obtain ⟨i0, hi0, hz0, hzs, hzb⟩ := info_parts LI.i158
 have hz1 : ¬ ((m : Int) = 0) := by omega
 have hz2 : ¬ ((i : Int) = (n : Int)) := by omega
 have hz3 : (c : Int) < (n : Int) + (m : Int) := by omega
 have hsz : (Tryz.prog.info? 158).map (·.size) = some 1 := by rw [hi0]; simp [hzs]
 have hbw : b < w.heap.size := block_lt_of_cell (hcs 0 _ (List.getElem?_eq_getElem (by omega)))
 have hvw : vb < w.heap.size := block_lt_of_cell (hvs 0 _ (List.getElem?_eq_getElem (by omega)))
 have hkk : (n : Int) + (m : Int) - (i : Int) = ((n + m - i : Nat) : Int) := by omega
 have hik : i + (n + m - i) = n + m := by omega
 have hold : (Builtin.firstCells i0.size i (.slice (some ⟨b, off, none⟩) i c)).run Tryz.prog w.drew = .ok (cs.take i).toArray w.drew := by
  rw [hzs]
  exact run_firstCells_some w.drew 1 i ⟨b, off, none⟩ i c (cs.take i) (by rw [List.length_take]; omega) (fun j v hj => by
   rw [Addr.add_lit]
   rw [List.getElem?_take] at hj
   split at hj
   ·exact hcs j v hj
   ·cases hj)
 have hrz : ∀ ty, (Builtin.append_ #[151, 3] ty #[.slice (some ⟨b, off, none⟩) i c, .int .i64 ((n : Int) + (m : Int) - (i : Int))]).run Tryz.prog w =
  .ok (.slice (some ⟨w.heap.size, 0, none⟩) (n + m) (grownCap w (n + m) c 158)) (w.drew.alloc (.cells ((cs.take i).toArray ++ Builtin.zeroCells (Value.int .u64 0).cells (n + m - i) ++ Builtin.zeroCells (Value.int .u64 0).cells (grownCap w (n + m) c 158 - (n + m))) 158)) := fun ty => by
  have h := Lib.run_append_grow_zeros w 151 3 ty 158 i0 _ .i64 .i64 LI.t151 LI.t3 hi0 hz0 (some ⟨b, off, none⟩) i c (cs.take i) hold (n + m - i) (by omega) (by omega) (by omega) (by omega) (by rw [hzb]; omega) (by rw [hzb, hik]; exact growslice_fits hroom hbig)
  rw [hik] at h
  rw [hkk]
  exact h
 obtain ⟨G, hG⟩ : ∃ G, G = grownCap w (n + m) c 158 := ⟨_, rfl⟩
 obtain ⟨ROW, hROW⟩ : ∃ ROW : Array Value, ROW = (cs.take i).toArray ++ Builtin.zeroCells (Value.int .u64 0).cells (n + m - i) ++ Builtin.zeroCells (Value.int .u64 0).cells (G - (n + m)) := ⟨_, rfl⟩
 rw [← hG] at hrz ⊢
 rw [← hROW] at hrz ⊢
 have hRl : n + m ≤ ROW.size := by
  rw [hROW]
  simp [Builtin.zeroCells, Value.cells]
  omega
 obtain ⟨W1, hW1⟩ : ∃ W1, W1 = w.drew.alloc (.cells ROW 158) := ⟨_, rfl⟩
 rw [← hW1] at hrz
 have hN : ∀ j, j < n + m → (W1.cell? ⟨w.heap.size, j, none⟩).isSome = true := fun j hj => by
  rw [hW1, World.cell?_alloc_at (w := w.drew) ROW _ w.heap.size j rfl, Array.getElem?_eq_getElem (by omega)]; rfl
 have hNf : ∀ j, W1.frozen? ⟨w.heap.size, j, none⟩ = false := fun j => by rw [hW1]; exact World.frozen?_alloc_at (w := w.drew) ROW _ w.heap.size j rfl
 have hOb : ∀ j v, w.cell? ⟨b, j, none⟩ = some v → W1.cell? ⟨b, j, none⟩ = some v := fun j v h => by rw [hW1, World.cell?_alloc_past (w := w.drew) _ b j hbw]; exact h
 have hOv : ∀ j v, w.cell? ⟨vb, j, none⟩ = some v → W1.cell? ⟨vb, j, none⟩ = some v := fun j v h => by rw [hW1, World.cell?_alloc_past (w := w.drew) _ vb j hvw]; exact h
 have hcpA : ∀ (W : World), (∀ x, W.cell? x = W1.cell? x) → (∀ x, W.frozen? x = W1.frozen? x) → ∀ ty dc, (Builtin.copy_ #[151, 151] ty #[.slice (some ⟨w.heap.size, i, none⟩) (n + m - i) dc, .slice (some ⟨vb, voff, none⟩) m vc]).run Tryz.prog W = .ok (goInt vs.length) (W.setCells w.heap.size i vs) := fun W hWc hWf ty dc =>
  run_copy_cells W _ _ ty 158 w.heap.size i (n + m - i) dc ⟨vb, voff, none⟩ m vc vs LI.t151 hsz (by rw [hvl]; simp only [Nat.min_def]; split <;> omega)
   (fun j v hj => by rw [Addr.add_lit, hWc]; exact hOv _ v (hvs j v hj))
   (fun j hj => by rw [hWc]; exact hN _ (by omega)) (fun j hj => by rw [hWf]; exact hNf _) h1v
 have hGn : n + m ≤ G := by rw [hG]; exact grownCap_ge w _ _ _
 have hG63 : G ≤ 9223372036854775807 := by
  have := grownCap_le_maxLen w (n + m) c 158 (by unfold maxLen; omega)
  rw [← hG] at this
  unfold maxLen at this
  omega
 have hGi : ¬ (G = i) := by omega
 have hGim : ¬ (G = i + m) := by omega
 have hci : ¬ (c = i) := by omega
 have hbN : b ≠ w.heap.size := by omega
 have hdl : (cs.drop i).length = n - i := by rw [List.length_drop, hcl]
 have hcpB : ∀ (W : World), (∀ x, W.cell? x = (W1.setCells w.heap.size i vs).cell? x) → (∀ x, W.frozen? x = (W1.setCells w.heap.size i vs).frozen? x) → ∀ ty dc sc, (Builtin.copy_ #[151, 151] ty #[.slice (some ⟨w.heap.size, i + m, none⟩) (n + m - (i + m)) dc, .slice (some ⟨b, off + i, none⟩) (n - i) sc]).run Tryz.prog W = .ok (goInt (cs.drop i).length) (W.setCells w.heap.size (i + m) (cs.drop i)) := fun W hWc hWf ty dc sc =>
  run_copy_cells W _ _ ty 158 w.heap.size (i + m) (n + m - (i + m)) dc ⟨b, off + i, none⟩ (n - i) sc (cs.drop i) LI.t151 hsz (by rw [hdl]; simp only [Nat.min_def]; split <;> omega)
   (fun j v hj => by
    rw [Addr.add_lit, hWc, World.cell?_setCells_out _ _ _ _ _ (fun h _ => absurd h hbN), Nat.add_assoc]
    exact hOb _ v (hcs (i + j) v (by rwa [List.getElem?_drop] at hj)))
   (fun j hj => by rw [hWc]; exact isSome_setCells _ _ _ _ (fun t ht => hN _ (by omega)) _ (hN _ (by omega)))
   (fun j hj => by rw [hWf, World.frozen?_setCells]; exact hNf _) (fun v hv => h1c v (List.mem_of_mem_drop hv))
 subst hW1
 have hE1 : ∀ x, ((w.alloc (.cells ROW 158)).drew).cell? x = (w.drew.alloc (.cells ROW 158)).cell? x := fun x => rfl
 have hE2 : ∀ x, ((w.alloc (.cells ROW 158)).drew).frozen? x = (w.drew.alloc (.cells ROW 158)).frozen? x := fun x => rfl
 have hF1 : ∀ x, (((w.alloc (.cells ROW 158)).drew.setCells w.heap.size i vs).drew).cell? x = ((w.drew.alloc (.cells ROW 158)).setCells w.heap.size i vs).cell? x := fun x => rfl
 have hF2 : ∀ x, (((w.alloc (.cells ROW 158)).drew.setCells w.heap.size i vs).drew).frozen? x = ((w.drew.alloc (.cells ROW 158)).setCells w.heap.size i vs).frozen? x := fun x => rfl
 have hw1 : IntKind.i64.wrap ((i : Int) + (m : Int)) = (i : Int) + (m : Int) := by rw [IntKind.wrap_i64]; omega
 have hb1 : (0 : Int) ≤ (i : Int) + (m : Int) := by omega
 have hin : i ≤ n := by omega
 have htn : ((i : Int) + (m : Int)).toNat = i + m := by omega
 have hb3 : (i : Int) ≤ (n : Int) := by omega
 clear hkk hik hold hROW hG hRl
 go_enter Tryz.func155, Tryz.ntmps155
 go_wp2_with (first
  | (at_builtin; refine Lib.wpList_append_run _ rfl _ _ _ _ rfl _ _ rfl rfl _ _ (hrz _) ?_)
  | (at_builtin; refine wpList_copy_runI _ rfl _ _ 151 151 rfl _ _ rfl rfl (hcpA _ hE1 hE2 _ _) ?_)
  | (at_builtin; refine wpList_copy_runI _ rfl _ _ 151 151 rfl _ _ rfl rfl (hcpB _ (fun _ => rfl) (fun _ => rfl) _ _ _) ?_))
 go_region_law_o (refine step_copy_runI rfl _ _ 151 151 rfl (.slice (some ⟨w.heap.size, i + m, none⟩) (n + m - (i + m)) (G - (i + m))) (.slice (some ⟨b, off + i, none⟩) (n - i) (c - i)) (by simp [Act.eval, Act.put]) (by simp [Act.eval, Act.put]) (hcpB _ hF1 hF2 3 (G - (i + m)) (c - i)) ?_)
 go_wp2
 go_ret
 exact ⟨rfl, rfl⟩
end Go.Proofs.YtpajpkbipagjpaaGreatDoor.Oc
namespace Go.Proofs.YtpajpkbipagjpaaGreatDoor.Oc
open Go Go.RowKit Go.Proofs.YtpajpkbipagjpaaGreatDoor.Vm
theorem Sim.rowAt {Γ : Ctx} {st : St} {a : Act} {aL : List Act} {β : Nat → Pl} {w : World} (S : Sim Γ st a aL β w) {l e fz n : Nat} {xs : List (List Vm.Data)} {v : Value} (hf : find st.h l = some (.arr e 1 xs fz)) (hn : xs.length = n) (h1 : 1 ≤ n) (hv : RVD w (Im Γ β st.h w) β (.sl l 0 n) v) :
 ∃ b cap cur, β l = .blk b cap 1 ∧ v = .slice (some ⟨b, 0, none⟩) n cap ∧ n ≤ cap ∧ cap ≤ maxLen ∧ w.heap[b]? = some (.cells cur e (0, 0)) ∧ cur.size = cap ∧ Γ.w0.heap.size ≤ b ∧ (∀ x ∈ xs, x.length = 1) ∧
  ∀ (j : Nat) (d : Vm.Data), xs.flatten[j]? = some d → d.one = true ∧ ∃ u, cur[j]? = some u ∧ RV w (Im Γ β st.h w) d u := by
 obtain ⟨p1, p2, p3, p4⟩ := S.heap l _ hf
 rcases p4 with h | ⟨b, cap, cur, hb, hge, hh, hc1, hc2, hcs, hcells⟩
 ·have := h.2; subst this; simp at hn; omega
 ·simp only [RVD] at hv
  rcases hv with ⟨hn', _⟩ | ⟨b', c', sz', ad, hb', hcap, rfl, had⟩
  ·rw [hb] at hn'; cases hn'
  ·rw [hb] at hb'; injection hb' with e1 e2 e3; subst e1 e2 e3
   have : ad = some ⟨b, 0, none⟩ := by
    rcases had with h | h
    ·simpa using h
    ·exact absurd h.2 (by omega)
   subst this
   exact ⟨b, cap, cur, hb, by simp, by omega, hc2, hh, by simpa using hcs, hge, p3, hcells⟩
theorem flat1 {xs : List (List Vm.Data)} (h : ∀ x ∈ xs, x.length = 1) : xs.flatten.length = xs.length := by
 induction xs with
 | nil => rfl
 | cons x r ih => simp only [List.flatten_cons, List.length_append, List.length_cons]; rw [ih fun y hy => h y (by simp [hy]), h x (by simp)]; omega
theorem cell_at {w : World} {b e j : Nat} {cur : Array Value} (h : w.heap[b]? = some (.cells cur e (0, 0))) : w.cell? ⟨b, j, none⟩ = cur[j]? := by simp [World.cell?, h]
theorem frz_at {w : World} {b e j : Nat} {cur : Array Value} (h : w.heap[b]? = some (.cells cur e (0, 0))) : w.frozen? ⟨b, j, none⟩ = false := by simp [World.frozen?, h]
theorem insert_ok {st : St} {l l2 n fz2 : Nat} {xs : List (List Vm.Data)} {x : Vm.Data} {K : D → St → Prop} (hf : find st.h l = some (.arr 158 1 xs 0)) (hn : xs.length = n) (h1 : 1 ≤ n) (hn2 : n ≤ 1000000) (hf2 : find st.h l2 = some (.arr 158 1 [[x]] fz2)) (hne : l ≠ l2) (hm : st.noMark l)
 (hK : K (.sl l 0 (n + 1)) ((st.erase l).add l (.arr 158 1 ([x] :: xs) 0))) : VCcall E 155 [.sl l 0 n, .dat (.int .i64 0), .sl l2 0 1] st K := by
 intro Γ a aL β w args hΓ S hargs
 simp only [RVDs] at hargs
 obtain ⟨v1, r1, e1, hv1, v2, r2, e2, hv2, v3, r3, e3, hv3, e4⟩ := hargs
 subst e4
 have hA : args = #[v1, v2, v3] := by
  apply Array.ext'; rw [e1, e2, e3]
 subst hA
 simp only [RVD, RV] at hv2
 subst hv2
 obtain ⟨b, cap, cur, hb, rfl, hnc, hcm, hh, hcs, hge, hx1, hcells⟩ := Sim.rowAt S hf hn h1 hv1
 obtain ⟨vb, vc, cur2, hb2, rfl, hnc2, hcm2, hh2, hcs2, hge2, hx2, hcells2⟩ := Sim.rowAt S hf2 rfl (by simp) hv3
 have hvb : vb ≠ b := by
  rintro rfl
  exact hne (S.apart l l2 _ _ _ _ _ _ _ hf hf2 hb hb2)
 have hP : E.P = Γ.P := by rw [← hΓ]
 have hfl := flat1 hx1
 obtain ⟨hx1o, u, hu, hru⟩ := hcells2 0 x (by simp)
 have hblt : b < w.heap.size := (Array.getElem?_eq_some_iff.1 hh).1
 -- the old values
 let cs : List Value := cur.toList.take n
 have hcl : cs.length = n := by simp [cs, hcs]; omega
 have hcsj : ∀ j v, cs[j]? = some v → cur[j]? = some v := fun j v hj => by
  simp only [cs] at hj
  rw [List.getElem?_take] at hj
  split at hj
  ·simpa using hj
  ·cases hj
 have hcsj' : ∀ j, j < n → cs[j]? = cur[j]? := fun j hj => by
  simp only [cs]
  rw [List.getElem?_take, if_pos hj]; simp
 have h1c : ∀ v ∈ cs, v.oneCell' = true := by
  intro v hv
  obtain ⟨j, hj, e⟩ := List.mem_iff_getElem.1 hv
  have hj' : j < n := by rw [hcl] at hj; exact hj
  have hd : xs.flatten[j]? = some (xs.flatten[j]'(by omega)) := List.getElem?_eq_getElem (by omega)
  obtain ⟨ho, y, hy, hr⟩ := hcells j _ hd
  have : cs[j]? = some v := by rw [List.getElem?_eq_getElem hj, e]
  rw [hcsj j v this] at hy
  injection hy with hy
  subst hy
  exact RV.one hr ho
 have h1v : ∀ v ∈ [u], v.oneCell' = true := by
  intro v hv
  simp at hv; subst hv
  exact RV.one hru hx1o
 have hfinal : ∀ (cur' : Array Value) (cap' : Nat), n + 1 ≤ cap' → cur'.size = cap' → cur'[0]? = some u → (∀ j, j < n → cur'[1 + j]? = cs[j]?) → ∀ (j : Nat) (d : Vm.Data), ([x] :: xs).flatten[j]? = some d → d.one = true ∧ ∃ v, cur'[j]? = some v ∧ RV w (Im Γ β st.h w) d v := by
  intro cur' cap' _ _ h0 hs j d hj
  cases j with
  | zero => simp at hj; subst hj; exact ⟨hx1o, u, h0, hru⟩
  | succ j =>
    have hj' : xs.flatten[j]? = some d := by simpa using hj
    have hlt : j < n := by
     have := (List.getElem?_eq_some_iff.1 hj').1
     omega
    obtain ⟨ho, y, hy, hr⟩ := hcells j d hj'
    refine ⟨ho, y, ?_, hr⟩
    rw [show j + 1 = 1 + j by omega, hs j hlt, hcsj' j hlt, hy]
 have hxl : ∀ y ∈ [x] :: xs, y.length = 1 := by
  intro y hy
  rcases List.mem_cons.1 hy with rfl | hy
  ·rfl
  ·exact hx1 y hy
 have hcsw : ∀ j v, cs[j]? = some v → w.cell? ⟨b, 0 + j, none⟩ = some v := fun j v hj => by rw [Nat.zero_add, cell_at hh]; exact hcsj j v hj
 have hvsw : ∀ j v, [u][j]? = some v → w.cell? ⟨vb, 0 + j, none⟩ = some v := fun j v hj => by
  rw [cell_at hh2]
  cases j with
  | zero => simp at hj; subst hj; exact hu
  | succ j => simp at hj
 refine (callsIn_wide (n := 0)).2 ?_
 show Calls Tryz.prog 155 _ _ _
 by_cases hroom : n + 1 ≤ cap
 ·refine (ins_shift b 0 n cap 0 vb 0 1 vc cs [u] w (by omega) (by omega) hroom (by unfold maxLen at hcm; omega) hvb hcl rfl hcsw (fun j hj => by rw [Nat.zero_add, cell_at hh, Array.getElem?_eq_getElem (by omega)]; rfl) (fun j _ => frz_at hh) hvsw h1c h1v
   158 158 vc cap (by simp [World.shape?, hh2, hcs2]) (by simp [World.shape?, hh, hcs]) (by omega) (frz_at hh2) (frz_at hh2)).mono ?_
  rintro e w' ⟨rfl, rfl⟩
  obtain ⟨c1, g1, g2, g3, g4⟩ := setCells_at (b := b) (e := 158) (fr := (0, 0)) (cs.drop 0) (0 + (0 + 1)) w.drew cur hh (by simp [hcl]; omega)
  obtain ⟨c2, k1, k2, k3, k4⟩ := setCells_at (b := b) (e := 158) (fr := (0, 0)) [u] (0 + 0) _ c1 g1 (by simp; omega)
  have S1 := S.refill (l := l) (xs' := [x] :: xs) (w' := (w.drew.setCells b (0 + (0 + 1)) (cs.drop 0)).setCells b (0 + 0) [u]) (cur' := c2) hf hb
   (setCells_below hge _ _ _ (setCells_below hge _ _ _ S.below.drew)) (by rw [setCells_size, setCells_size]; rfl) (fun k hk => by rw [setCells_other hk, setCells_other hk]; rfl) k1 (by rw [k2, g2, hcs, Nat.mul_one]) (by simp; omega) hxl
   (hfinal c2 cap hroom (by rw [k2, g2, hcs]) (by have := k3 0 (by simp); simpa using this) fun j hj => by
    rw [k4 (1 + j) (by simp)]
    have := g3 j (by simp [hcl]; omega)
    simpa using this)
  have hf' : find (st.setB l (.arr 158 1 ([x] :: xs) 0)).h l = some (.arr 158 1 ([x] :: xs) 0) := by simp only [St.setB, find_hSet, if_true, hf, Option.map_some]
  have R := S1.rename (l := l) (l' := l) hf' hm hm
  refine ⟨_, .sl l 0 (n + 1), _, _, rfl, R.1, ?_, ?_⟩
  ·refine RVD.row (b := b) (cap := cap) (sz := 1) ?_ hroom
   rw [upd_same]; exact hb
  ·have he : (st.setB l (.arr 158 1 ([x] :: xs) 0)).erase l = st.erase l := by
    have key : ∀ (h : List (Nat × Blk)) (B : Blk), hErase l (hSet l B h) = hErase l h := by
     intro h B
     induction h with
     | nil => rfl
     | cons y r ih =>
       simp only [hSet]
       by_cases e : y.1 = l
       ·rw [if_pos e]; simp only [hErase, if_true, if_pos e]
       ·rw [if_neg e]; simp only [hErase, if_neg e, ih]
    simp only [St.erase, St.setB, key]
   rw [he]; exact hK
 ·have hcapn : cap = n := by omega
  refine (ins_grow b 0 n cap 0 vb 0 1 vc cs [u] w (by omega) (by omega) hnc (by omega) (by omega) hcl rfl hcsw hvsw h1c h1v).mono ?_
  rintro e w' ⟨rfl, rfl⟩
  have hG : n + 1 ≤ grownCap w (n + 1) cap 158 := grownCap_ge _ _ _ _
  have hG2 : grownCap w (n + 1) cap 158 ≤ maxLen := grownCap_le_maxLen _ _ _ _ (by unfold maxLen; omega)
  generalize grownCap w (n + 1) cap 158 = G at hG hG2 ⊢
  have hR : ((cs.take 0).toArray ++ Builtin.zeroCells (Value.int .u64 0).cells (n + 1 - 0) ++ Builtin.zeroCells (Value.int .u64 0).cells (G - (n + 1))).size = G := by
   simp [Builtin.zeroCells, Value.cells]; omega
  generalize (cs.take 0).toArray ++ Builtin.zeroCells (Value.int .u64 0).cells (n + 1 - 0) ++ Builtin.zeroCells (Value.int .u64 0).cells (G - (n + 1)) = ROW at hR ⊢
  have S2 := (S.drop l hm).row l 158 1 0 G [] ROW ⟨hm.1, noMark_erase l l _ hm.2⟩ (by decide) (Nat.zero_le _) (fun y hy => by cases hy) (Nat.zero_le _) hG2 (by omega) (fun j d hj => by simp at hj)
  have hnew : (w.alloc (.cells ROW 158)).heap[w.heap.size]? = some (.cells ROW 158 (0, 0)) := World.alloc_heap_new w _
  have hsz : (w.alloc (.cells ROW 158)).heap.size = w.heap.size + 1 := World.size_alloc _ _
  obtain ⟨c1, g1, g2, g3, g4⟩ := setCells_at (b := w.heap.size) (e := 158) (fr := (0, 0)) [u] 0 (w.alloc (.cells ROW 158)).drew ROW hnew (by simp; omega)
  obtain ⟨c2, k1, k2, k3, k4⟩ := setCells_at (b := w.heap.size) (e := 158) (fr := (0, 0)) (cs.drop 0) (0 + 1) ((w.alloc (.cells ROW 158)).drew.setCells w.heap.size 0 [u]).drew c1 g1 (by simp [hcl]; omega)
  have hge' : Γ.w0.heap.size ≤ w.heap.size := S.below.size
  have K1 : Keeps w (Im Γ β st.h w) w (Im Γ β (st.erase l).h w) := Im.drop Γ st β w l
  have K2 := Im.alloc (S.drop l hm) l (.arr 158 1 [] 0) (.cells ROW 158) G 1
  have S3 := S2.refill (l := l) (xs := []) (xs' := [x] :: xs) (w' := ((w.alloc (.cells ROW 158)).drew.setCells w.heap.size 0 [u]).drew.setCells w.heap.size (0 + 1) (cs.drop 0)) (cur' := c2) (by show find ((l, _) :: _) l = _; rw [find_cons, if_pos rfl]) (upd_same _ _ _)
   (setCells_below hge' _ _ _ (setCells_below hge' _ _ _ S2.below.drew).drew) (by rw [setCells_size]; show ((w.alloc (.cells ROW 158)).drew.setCells w.heap.size 0 [u]).heap.size = _; rw [setCells_size]; rfl) (fun k hk => by rw [setCells_other hk]; show ((w.alloc (.cells ROW 158)).drew.setCells w.heap.size 0 [u]).heap[k]? = _; rw [setCells_other hk]; rfl) k1 (by rw [k2, g2, hR, Nat.mul_one]) (by simp; omega) hxl
   (fun j d hj => by
    obtain ⟨ho, y, hy, hr⟩ := hfinal c2 G hG (by rw [k2, g2, hR]) (by
     rw [k4 0 (by omega)]
     have := g3 0 (by simp)
     simpa using this) (fun j hj => by
     have := k3 j (by simp [hcl]; omega)
     simpa using this) j d hj
    exact ⟨ho, y, hy, RV.keeps K2 d y (RV.keeps K1 d y hr)⟩)
  refine ⟨_, .sl l 0 (n + 1), _, _, rfl, S3, ?_, ?_⟩
  ·exact RVD.row (upd_same _ _ _) hG
  ·rw [setB_add]; exact hK
end Go.Proofs.YtpajpkbipagjpaaGreatDoor.Oc
