/- What functions of the program, of its library and of the document compute: their contracts, and laws about what they compute (X06). No condition. -/
import Derived.Test.YtpajpkbipagjpaaGreatDoorX05
import Derived.Shelf.Strconv.Itoa3
import Derived.Shelf.LaysM
import Derived.Shelf.Strconv.Itoa1
import Derived.Shelf.Strconv.Itoa2
import Derived.Lib.Walk
import Derived.Lib.ItoaMem
import Derived.WalkKit
import Derived.BigCall
import Derived.BigGuard
import Derived.Lib.AppendIntMem
import Derived.Lib.AppendZerosOnto
import Derived.Test.YtpajpkbipagjpaaGreatDoorX04
set_option linter.unusedVariables false
set_option linter.unusedSimpArgs false
namespace Go.Proofs
open Go.Shelf Go.RowKit Go.Sort Go.Lib
variable {P : Program} {ρ : Ren}
set_option maxHeartbeats 6400000 in
set_option maxRecDepth 100000 in
theorem Any.internal_strconv_FormatInt_10_cells (L : LaysM.n246 P ρ) (n : Int) (h0 : -9223372036854775808 ≤ n) (h1 : n ≤ 9223372036854775807) (w : World)
 (htab : ∀ j, j < 20 → w.cell? ⟨(ρ.g 17), j, none⟩ = some (.int .u64 ((10 ^ j : Nat) : Int))) (hg : (ρ.g 17) < w.heap.size) :
 Calls P (ρ.f 246) #[.int .i64 n, .int .i64 10] w fun e w' => e = .returned (.string ⟨(Lib.itoa n).toArray⟩) ∧ ∃ k os, w' = grow (w.drewN k) os := by
 have mixed := L.mixed
 have t2 := L.t2; have a2 := L.a2; have z2 := L.z2; have v2 := L.v2
 have t3 := L.t3; have a3 := L.a3; have z3 := L.z3; have v3 := L.v3
 have t9 := L.t9; have a9 := L.a9; have z9 := L.z9; have v9 := L.v9
 have t4 := L.t4; have a4 := L.a4; have z4 := L.z4; have v4 := L.v4
 have t171 := L.t171; have a171 := L.a171; have z171 := L.z171; have v171 := L.v171
 have t0 := L.t0; have a0 := L.a0; have z0 := L.z0; have v0 := L.v0
 have t53 := L.t53; have a53 := L.a53; have z53 := L.z53; have v53 := L.v53
 have t37 := L.t37; have a37 := L.a37; have z37 := L.z37; have v37 := L.v37
 have t5 := L.t5; have a5 := L.a5; have z5 := L.z5; have v5 := L.v5
 have t173 := L.t173; have a173 := L.a173; have z173 := L.z173; have v173 := L.v173
 have e283 : ∀ args w, (callFunc (ρ.f 283) args).run P w = .ok (.enter (ρ.f 283) args) w := enters_of L.f283 (by kernel_rfl) rfl
 have e284 : ∀ args w, (callFunc (ρ.f 284) args).run P w = .ok (.enter (ρ.f 284) args) w := enters_of L.f284 (by kernel_rfl) rfl
 have e285 : ∀ args w, (callFunc (ρ.f 285) args).run P w = .ok (.enter (ρ.f 285) args) w := enters_of L.f285 (by kernel_rfl) rfl
 by_cases hs : 0 ≤ n ∧ n < 100
 ·-- 0 .. 99: two constants
  obtain ⟨i, rfl⟩ : ∃ i : Nat, n = i := ⟨n.toNat, by omega⟩
  have hi : i < 100 := by omega
  go_enter L.f246, Body.n246_ntmps ρ
  go_wp2_with (go_at_fn (ρ.f 283); refine (Any.internal_strconv_small { L with } i hi _).mono ?_; rintro e w' ⟨rfl, rfl⟩)
  go_ret
  refine ⟨?_, 0, #[], by simp [World.drewN_zero]⟩
  rw [Lib.itoa_nonneg]
  rfl
 ·by_cases hneg : n < 0
  ·obtain ⟨u, rfl⟩ : ∃ u : Nat, n = -(u : Int) := ⟨n.natAbs, by omega⟩
   have hu1 : 1 ≤ u := by omega
   have hu64 : u < 18446744073709551616 := by omega
   have hnd20 : Lib.nDigits u ≤ 20 := by have := Lib.numDigits_eq u hu1 hu64; split at this <;> omega
   have hwr : IntKind.u64.wrap (-IntKind.u64.wrap (-(u : Int))) = (u : Int) := by rw [IntKind.wrap_u64, IntKind.wrap_u64]; omega
   have hb3 : Lib.nDigits u ≤ 23 := by omega
   have hal : P.arrayLen (ρ.t 171) = 24 := by simp [Program.arrayLen, L.t171]
   have hsl1 : ∀ W, (Instr.sliceAt (ρ.t 171) (.pointer (some ⟨w.heap.size, 0, none⟩)) (some (.int .i64 1)) (some (.int .i64 (1 + (Lib.nDigits u : Int)))) none).run P W = .ok (.slice (some ⟨w.heap.size, 1, none⟩) (Lib.nDigits u) 23) W := fun W => by
    rw [run_sliceAt_array_lh W (ρ.t 171) ⟨w.heap.size, 0, none⟩ (by simp [Program.arrayLen, Program.elem, L.t171]) .i64 .i64 1 (1 + (Lib.nDigits u : Int)) (by omega) (by omega) (by rw [hal]; omega)]
    go_simp
    omega
   have hH0 := Lib.holds_zero w (ρ.t 171) (Lib.nDigits u) (by omega)
   have hfmt := Any.internal_strconv_formatBase10 { L with } w.heap.size 1 23 u (Array.replicate (Lib.nDigits u) 0) (w.alloc (.cells Lib.zeros24 (ρ.t 171))) hH0 (by rw [Array.size_replicate]; exact Lib.lt_pow_nDigits u) hu64 (by rw [Array.size_replicate]; omega)
   rw [Array.size_replicate] at hfmt
   have HH0 := Lib.hid hH0
   clear hH0 hal
   go_enter L.f246, Body.n246_ntmps ρ
   go_wp2_with (first
    | (go_at_fn (ρ.f 284); refine (Any.internal_strconv_numDigits_cells { L with } u hu1 hu64 _ (fun j hj => by rw [World.cell?_alloc_old _ _ _ (Nat.ne_of_lt hg)]; exact htab j hj)).mono ?_; rintro e w' ⟨rfl, rfl⟩))
   go_at_fn (ρ.f 285)
   refine hfmt.mono ?_
   rintro e w' ⟨rfl, k, v', dk, rfl, hF⟩
   have hc0 : ((putRow (fun (b : UInt8) => Value.int .u8 (b.toNat : Int)) (w.alloc (.cells Lib.zeros24 (ρ.t 171))) w.heap.size 1 dk).drewN k).cell? ⟨w.heap.size, 0, none⟩ = some (.int .u8 0) := by
    rw [World.cell?_drewN, cell?_putRow_other _ _ _ _ _ _ (Or.inr (Or.inl (Nat.zero_lt_one))), World.cell?_alloc_new]
    exact Lib.zeros24_at 0 (by omega)
   have hf0 : ((putRow (fun (b : UInt8) => Value.int .u8 (b.toNat : Int)) (w.alloc (.cells Lib.zeros24 (ρ.t 171))) w.heap.size 1 dk).drewN k).frozen? ⟨w.heap.size, 0, none⟩ = false := by
    rw [World.frozen?_drewN, frozen?_putRow]
    exact World.frozen?_alloc_new _ _ _ _
   have hal : P.arrayLen (ρ.t 171) = 24 := by simp [Program.arrayLen, L.t171]
   have hsl2 : ∀ W, (Instr.sliceAt (ρ.t 171) (.pointer (some ⟨w.heap.size, 0, none⟩)) none (some (.int .i64 (1 + (Lib.nDigits u : Int)))) none).run P W = .ok (.slice (some ⟨w.heap.size, 0, none⟩) (1 + Lib.nDigits u) 24) W := fun W => by
    rw [run_sliceAt_array_h W (ρ.t 171) ⟨w.heap.size, 0, none⟩ (by simp [Program.arrayLen, Program.elem, L.t171]) .i64 (1 + (Lib.nDigits u : Int)) (by omega) (by rw [hal]; omega)]
    go_simp
    omega
   clear hal
   have hcv : (convert (ρ.t 37) (ρ.t 9) (.slice (some ⟨w.heap.size, 0, none⟩) (1 + Lib.nDigits u) 24)).run P (((putRow (fun (b : UInt8) => Value.int .u8 (b.toNat : Int)) (w.alloc (.cells Lib.zeros24 (ρ.t 171))) w.heap.size 1 dk).drewN k).setCell ⟨w.heap.size, 0, none⟩ (.int .u8 45)) = .ok (.string ⟨(45 :: Lib.decDigits u).toArray⟩) (((putRow (fun (b : UInt8) => Value.int .u8 (b.toNat : Int)) (w.alloc (.cells Lib.zeros24 (ρ.t 171))) w.heap.size 1 dk).drewN k).setCell ⟨w.heap.size, 0, none⟩ (.int .u8 45)) := by
    have h := run_convert_bytes_back (P := P) (((putRow (fun (b : UInt8) => Value.int .u8 (b.toNat : Int)) (w.alloc (.cells Lib.zeros24 (ρ.t 171))) w.heap.size 1 dk).drewN k).setCell ⟨w.heap.size, 0, none⟩ (.int .u8 45)) (ρ.t 37) (ρ.t 9) (ρ.t 5) ⟨w.heap.size, 0, none⟩ 24 (45 :: Lib.decDigits u) L.t37 L.t5 L.t9 (fun j hj => by
     rw [Lib.add_plain]
     cases j with
     | zero => exact World.cell?_setCell_same _ _ _ hc0
     | succ i =>
       have hi : i < (Lib.decDigits u).length := by simpa using hj
       rw [World.cell?_setCell_other _ _ _ _ (by simp), List.getElem_cons_succ, Lib.row_is_numeral hF i hi, World.cell?_drewN, show 0 + (i + 1) = 1 + i by omega]
       exact cell?_putRow (fun (b : UInt8) => Value.int .u8 (b.toNat : Int)) _ w.heap.size 1 _ dk HH0.out (by rw [hF.size, Array.size_replicate]) i (by rw [hF.size]; rw [Lib.decDigits_length] at hi; exact hi))
    rw [List.length_cons, Lib.decDigits_length, Nat.add_comm] at h
    exact h
   go_wp2
   go_ret
   obtain ⟨os, eo⟩ := Lib.fin_neg w (.cells Lib.zeros24 (ρ.t 171)) dk k (.int .u8 45)
   refine ⟨?_, k, os, eo⟩
   rw [Lib.itoa_neg u hu1]
   rfl
  ·obtain ⟨u, rfl⟩ : ∃ u : Nat, n = u := ⟨n.toNat, by omega⟩
   have hu1 : 1 ≤ u := by omega
   have hu64 : u < 18446744073709551616 := by omega
   have hnd20 : Lib.nDigits u ≤ 20 := by have := Lib.numDigits_eq u hu1 hu64; split at this <;> omega
   have hb3 : Lib.nDigits u ≤ 23 := by omega
   have hal : P.arrayLen (ρ.t 171) = 24 := by simp [Program.arrayLen, L.t171]
   have hsl1 : ∀ W, (Instr.sliceAt (ρ.t 171) (.pointer (some ⟨w.heap.size, 0, none⟩)) (some (.int .i64 1)) (some (.int .i64 (1 + (Lib.nDigits u : Int)))) none).run P W = .ok (.slice (some ⟨w.heap.size, 1, none⟩) (Lib.nDigits u) 23) W := fun W => by
    rw [run_sliceAt_array_lh W (ρ.t 171) ⟨w.heap.size, 0, none⟩ (by simp [Program.arrayLen, Program.elem, L.t171]) .i64 .i64 1 (1 + (Lib.nDigits u : Int)) (by omega) (by omega) (by rw [hal]; omega)]
    go_simp
    omega
   have hH0 := Lib.holds_zero w (ρ.t 171) (Lib.nDigits u) (by omega)
   have hfmt := Any.internal_strconv_formatBase10 { L with } w.heap.size 1 23 u (Array.replicate (Lib.nDigits u) 0) (w.alloc (.cells Lib.zeros24 (ρ.t 171))) hH0 (by rw [Array.size_replicate]; exact Lib.lt_pow_nDigits u) hu64 (by rw [Array.size_replicate]; omega)
   rw [Array.size_replicate] at hfmt
   have HH0 := Lib.hid hH0
   clear hH0 hal
   go_enter L.f246, Body.n246_ntmps ρ
   go_wp2_with (first
    | (go_at_fn (ρ.f 284); refine (Any.internal_strconv_numDigits_cells { L with } u hu1 hu64 _ (fun j hj => by rw [World.cell?_alloc_old _ _ _ (Nat.ne_of_lt hg)]; exact htab j hj)).mono ?_; rintro e w' ⟨rfl, rfl⟩))
   go_at_fn (ρ.f 285)
   refine hfmt.mono ?_
   rintro e w' ⟨rfl, k, v', dk, rfl, hF⟩
   have hcv : (convert (ρ.t 37) (ρ.t 9) (.slice (some ⟨w.heap.size, 1, none⟩) (Lib.nDigits u) 23)).run P ((putRow (fun (b : UInt8) => Value.int .u8 (b.toNat : Int)) (w.alloc (.cells Lib.zeros24 (ρ.t 171))) w.heap.size 1 dk).drewN k) = .ok (.string ⟨(Lib.decDigits u).toArray⟩) ((putRow (fun (b : UInt8) => Value.int .u8 (b.toNat : Int)) (w.alloc (.cells Lib.zeros24 (ρ.t 171))) w.heap.size 1 dk).drewN k) := by
    have h := run_convert_bytes_back (P := P) ((putRow (fun (b : UInt8) => Value.int .u8 (b.toNat : Int)) (w.alloc (.cells Lib.zeros24 (ρ.t 171))) w.heap.size 1 dk).drewN k) (ρ.t 37) (ρ.t 9) (ρ.t 5) ⟨w.heap.size, 1, none⟩ 23 (Lib.decDigits u) L.t37 L.t5 L.t9 (fun j hj => by
     rw [Lib.row_is_numeral hF j hj, Lib.add_plain, World.cell?_drewN]
     exact cell?_putRow (fun (b : UInt8) => Value.int .u8 (b.toNat : Int)) _ w.heap.size 1 _ dk HH0.out (by rw [hF.size, Array.size_replicate]) j (by rw [hF.size]; rw [Lib.decDigits_length] at hj; exact hj))
    rw [Lib.decDigits_length] at h
    exact h
   go_wp2
   go_ret
   obtain ⟨os, eo⟩ := Lib.fin_pos w (.cells Lib.zeros24 (ρ.t 171)) dk k
   refine ⟨?_, k, os, eo⟩
   rw [Lib.itoa_nonneg]
   rfl
set_option maxRecDepth 100000 in
theorem Any.internal_strconv_Itoa_cells (L : LaysM.n243 P ρ) (n : Int) (h0 : -9223372036854775808 ≤ n) (h1 : n ≤ 9223372036854775807) (w : World)
 (htab : ∀ j, j < 20 → w.cell? ⟨(ρ.g 17), j, none⟩ = some (.int .u64 ((10 ^ j : Nat) : Int))) (hg : (ρ.g 17) < w.heap.size) :
 Calls P (ρ.f 243) #[.int .i64 n] w fun e w' => e = .returned (.string ⟨(Lib.itoa n).toArray⟩) ∧ ∃ k os, w' = grow (w.drewN k) os := by
 have mixed := L.mixed
 have t3 := L.t3; have a3 := L.a3; have z3 := L.z3; have v3 := L.v3
 have t9 := L.t9; have a9 := L.a9; have z9 := L.z9; have v9 := L.v9
 have t2 := L.t2; have a2 := L.a2; have z2 := L.z2; have v2 := L.v2
 have e246 : ∀ args w, (callFunc (ρ.f 246) args).run P w = .ok (.enter (ρ.f 246) args) w := enters_of L.f246 (by kernel_rfl) rfl
 go_enter L.f243, Body.n243_ntmps ρ
 go_wp2_with (go_at_fn (ρ.f 246); refine (Any.internal_strconv_FormatInt_10_cells { L with } n h0 h1 _ htab hg).mono ?_; rintro e w' ⟨rfl, k, os, rfl⟩)
 go_ret
 exact ⟨rfl, k, os, rfl⟩
set_option maxRecDepth 100000 in
theorem Any.strconv_Itoa_cells (L : LaysM.n171 P ρ) (n : Int) (h0 : -9223372036854775808 ≤ n) (h1 : n ≤ 9223372036854775807) (w : World)
 (htab : ∀ j, j < 20 → w.cell? ⟨(ρ.g 17), j, none⟩ = some (.int .u64 ((10 ^ j : Nat) : Int))) (hg : (ρ.g 17) < w.heap.size) :
 Calls P (ρ.f 171) #[.int .i64 n] w fun e w' => e = .returned (.string ⟨(Lib.itoa n).toArray⟩) ∧ ∃ k os, w' = grow (w.drewN k) os := by
 have mixed := L.mixed
 have t3 := L.t3; have a3 := L.a3; have z3 := L.z3; have v3 := L.v3
 have t9 := L.t9; have a9 := L.a9; have z9 := L.z9; have v9 := L.v9
 have e243 : ∀ args w, (callFunc (ρ.f 243) args).run P w = .ok (.enter (ρ.f 243) args) w := enters_of L.f243 (by kernel_rfl) rfl
 go_enter L.f171, Body.n171_ntmps ρ
 go_wp2_with (go_at_fn (ρ.f 243); refine (Any.internal_strconv_Itoa_cells { L with } n h0 h1 _ htab hg).mono ?_; rintro e w' ⟨rfl, k, os, rfl⟩)
 go_ret
 exact ⟨rfl, k, os, rfl⟩
end Go.Proofs
namespace Go.Proofs.YtpajpkbipagjpaaGreatDoor.Oc
open Go Go.RowKit Go.Proofs.YtpajpkbipagjpaaGreatDoor.Vm Go.Proofs.YtpajpkbipagjpaaGreatDoor.Tr Go.IntWalk Go.Sort
set_option maxRecDepth 100000
set_option maxHeartbeats 4000000
theorem pow_cells {w : World} {J : Cset} (hG : Glob E w J) : ∀ j, j < 20 → w.cell? ⟨5, j, none⟩ = some (.int .u64 ((10 ^ j : Nat) : Int)) ∧ J 5 j := by
 have h : RC w J powD 5 0 := hG 5 powD rfl
 have key : ∀ (l : List Nat) (o : Nat), RC w J (l.map fun j => Vm.Data.int .u64 ((10 ^ j : Nat) : Int)) 5 o → ∀ i j, l[i]? = some j → w.cell? ⟨5, o + i, none⟩ = some (.int .u64 ((10 ^ j : Nat) : Int)) ∧ J 5 (o + i) := by
  intro l
  induction l with
  | nil => intro o _ i j hj; simp at hj
  | cons x l ih =>
    intro o hr i j hj
    simp only [List.map_cons, RC, RV] at hr
    obtain ⟨⟨v, h1, h2, _, h3⟩, hr⟩ := hr
    cases i with
    | zero =>
      simp only [List.getElem?_cons_zero, Option.some.injEq] at hj; subst hj
      exact ⟨by rw [Nat.add_zero, h1, h3], h2⟩
    | succ i =>
      rw [show o + (i + 1) = o + 1 + i by omega]
      exact ih (o + 1) hr i j (by simpa using hj)
 intro j hj
 have := key (List.range 20) 0 h j j (by simp [hj])
 simpa using this
theorem err_cells {w : World} {J : Cset} (hG : Glob E w J) (g : Nat) (hg : g = 3 ∨ g = 4) : ∃ ev, w.cell? ⟨g, 0, none⟩ = some ev ∧ ∃ te pe, ev = .iface te pe := by
 have h : RC w J [errD] g 0 := by rcases hg with rfl | rfl <;> exact hG _ [errD] rfl
 simp only [RC, errD, RV] at h
 obtain ⟨⟨v, h1, _, _, u, h3, _⟩, _⟩ := h
 exact ⟨v, h1, _, u, h3⟩
def fmtUA (u : Nat) : List Vm.Data := [.int .u64 u, .int .i64 10]
theorem fmtU_inj (x y : Nat) (h : fmtUA x = fmtUA y) : x = y := by simpa [fmtUA, Int.natCast_inj] using h
noncomputable def fmtUF : PFn := PFn.of fmtUA (fun u => u < 18446744073709551616) (fun u => [.str (Lib.decDigits u)])
@[go_sem] theorem fmtU_pre (u : Nat) : fmtUF.pre [.int .u64 (u : Int), .int .i64 10] = (u < 18446744073709551616) := PFn.of_pre fmtU_inj u
@[go_sem] theorem fmtU_res (u : Nat) : fmtUF.res [.int .u64 (u : Int), .int .i64 10] = [.str (Lib.decDigits u)] := PFn.of_res fmtU_inj u
theorem fmtU_ok : Pure E 206 fmtUF := by
 refine Pure.of_calls fmtU_inj ?_
 intro w J args u hJ hG hargs hu
 obtain ⟨v, v2, rfl, h1, h2⟩ := args2 hargs
 simp only [RV] at h1 h2
 subst h1 h2
 have hp := pow_cells hG
 refine (fmtUint u hu w (fun j hj => (hp j hj).1) (hJ _ _ (hp 0 (by decide)).2)).mono ?_
 rintro e w' ⟨rfl, k, os, rfl⟩
 exact ⟨_, rfl, Lib.below_grow _ _ (Nat.le_refl _) _ _, by simp only [retD, RVD, RV]⟩
def puN (s : List UInt8) : Lib.NumEnd Nat := if s = [] then Lib.NumEnd.syntax else Lib.parseUintM 9223372036854775807 0 s
def puD : Lib.NumEnd Nat → List Vm.Data
 | .ok n => [.int .u64 n, .nili]
 | Lib.NumEnd.syntax => [.int .u64 0, .iface 291 (.int .i64 2)]
 | .range => [.int .u64 9223372036854775807, .iface 291 (.int .i64 1)]
def puNum : Lib.NumEnd Nat → Nat
 | .ok n => n
 | Lib.NumEnd.syntax => 0
 | .range => 9223372036854775807
def puErr : Lib.NumEnd Nat → Vm.Data
 | .ok n => .nili
 | Lib.NumEnd.syntax => .iface 291 (.int .i64 2)
 | .range => .iface 291 (.int .i64 1)
def parseIA (s : List UInt8) : List Vm.Data := [.str s, .int .i64 10, .int .i64 63]
theorem parseI_inj (x y : List UInt8) (h : parseIA x = parseIA y) : x = y := by simpa [parseIA] using h
noncomputable def parseIF : PFn := PFn.of parseIA (fun s => s.length ≤ 1000000) (fun s => [.int .u64 (puNum (puN s)), puErr (puN s)])
@[go_sem] theorem parseI_pre (s : List UInt8) : parseIF.pre [.str s, .int .i64 10, .int .i64 63] = (s.length ≤ 1000000) := PFn.of_pre parseI_inj s
@[go_sem] theorem parseI_res (s : List UInt8) : parseIF.res [.str s, .int .i64 10, .int .i64 63] = [.int .u64 (puNum (puN s)), puErr (puN s)] := PFn.of_res parseI_inj s
theorem parseI_ok : Pure E 196 parseIF := by
 refine Pure.of_calls parseI_inj ?_
 intro w J args s hJ hG hargs hs
 obtain ⟨v, v2, v3, rfl, h1, h2, h3⟩ := args3 hargs
 simp only [RV] at h1 h2 h3
 subst h1 h2 h3
 have fin : ∀ (r : Lib.NumEnd Nat) (w' : World), r = puN s → RVD w' (Fresh J w w') (fun _ => .nil) (retD [.int .u64 (puNum (puN s)), puErr (puN s)]) (Lib.uintTupleM 291 9223372036854775807 r) := by
  rintro r w' rfl
  cases puN s <;> simp [retD, RVD, RVDs, RV, puNum, puErr, Lib.uintTupleM]
 by_cases he : s = []
 ·subst he
  refine (Any.internal_strconv_ParseUint_10_empty63 Tryz.lays287 w).mono ?_
  rintro e w' ⟨rfl, rfl⟩
  exact ⟨_, rfl, Below.refl _ _, fin Lib.NumEnd.syntax _ (by simp [puN])⟩
 ·refine (Any.internal_strconv_ParseUint_10_b63 Tryz.lays287 ⟨s.toArray⟩ (by simpa [ByteArray.size] using he) (by simp [ByteArray.size]; omega) w).mono ?_
  rintro e w' ⟨rfl, rfl⟩
  exact ⟨_, rfl, Lib.bytesWorld_below _ _ _, fin _ _ (by simp [puN, he])⟩
def pub : List UInt8 := [80, 97, 114, 115, 101, 85, 105, 110, 116]
def toErrA (x : List UInt8 × Bool) : List Vm.Data := [.str pub, .str x.1, .int .i64 10, .int .i64 63, .iface 291 (.int .i64 (if x.2 = true then 2 else 1))]
theorem toErr_inj (x y : List UInt8 × Bool) (h : toErrA x = toErrA y) : x = y := by
 obtain ⟨x1, x2⟩ := x; obtain ⟨y1, y2⟩ := y
 cases x2 <;> cases y2 <;> simp_all [toErrA]
noncomputable def toErrF : PFn := PFn.of toErrA (fun x => x.1.length ≤ 1000000) (fun x => [.iface 293 (.ptr [])])
@[go_sem] theorem toErr_pre2 (s : List UInt8) : toErrF.pre [.str pub, .str s, .int .i64 10, .int .i64 63, .iface 291 (.int .i64 2)] = (s.length ≤ 1000000) := PFn.of_pre toErr_inj (s, true)
@[go_sem] theorem toErr_res2 (s : List UInt8) : toErrF.res [.str pub, .str s, .int .i64 10, .int .i64 63, .iface 291 (.int .i64 2)] = [.iface 293 (.ptr [])] := PFn.of_res toErr_inj (s, true)
@[go_sem] theorem toErr_pre1 (s : List UInt8) : toErrF.pre [.str pub, .str s, .int .i64 10, .int .i64 63, .iface 291 (.int .i64 1)] = (s.length ≤ 1000000) := PFn.of_pre toErr_inj (s, false)
@[go_sem] theorem toErr_res1 (s : List UInt8) : toErrF.res [.str pub, .str s, .int .i64 10, .int .i64 63, .iface 291 (.int .i64 1)] = [.iface 293 (.ptr [])] := PFn.of_res toErr_inj (s, false)
theorem toErr_ok : Pure E 197 toErrF := by
 refine Pure.of_calls toErr_inj ?_
 rintro w J args ⟨s, c⟩ hJ hG hargs hs
 obtain ⟨v, v2, v3, v4, v5, rfl, h1, h2, h3, h4, h5⟩ := args5 hargs
 simp only [RV] at h1 h2 h3 h4 h5
 obtain ⟨u, h5, h6⟩ := h5
 subst h1 h2 h3 h4 h6 h5
 have hl : (⟨s.toArray⟩ : ByteArray).size ≤ 281474976710656 := by
  have : s.length ≤ 1000000 := hs
  simp [ByteArray.size]; omega
 have fin : ∀ (w' : World) (N : Nat), RVD w' (Fresh J w w') (fun _ => .nil) (retD [.iface 293 (.ptr [])]) (.iface 293 (.pointer (some ⟨N, 0, none⟩))) := fun w' N => by
  simp only [retD, RVD, RV]
  exact ⟨_, rfl, N, 0, rfl, trivial⟩
 cases c with
 | true =>
   obtain ⟨ev, hv, hev⟩ := err_cells hG 3 (.inl rfl)
   refine (Tryz.strconv_toError_syntax ⟨pub.toArray⟩ ⟨s.toArray⟩ 10 63 ev w hl hv (.inr hev)).mono ?_
   rintro e w' ⟨N, rfl, _, _, hb⟩
   exact ⟨_, rfl, hb, fin _ _⟩
 | false =>
   obtain ⟨ev, hv, hev⟩ := err_cells hG 4 (.inr rfl)
   refine (Tryz.strconv_toError_range ⟨pub.toArray⟩ ⟨s.toArray⟩ 10 63 ev w hl hv (.inr hev)).mono ?_
   rintro e w' ⟨N, rfl, _, _, hb⟩
   exact ⟨_, rfl, hb, fin _ _⟩
def idxA (x : List UInt8 × UInt8) : List Vm.Data := [.str x.1, .str [x.2]]
theorem idx_inj (x y : List UInt8 × UInt8) (h : idxA x = idxA y) : x = y := by simpa [idxA, Prod.ext_iff] using h
noncomputable def idxF : PFn := PFn.of idxA (fun x => True) (fun x => [.int .i64 (Lib.indexByte x.1 x.2)])
@[go_sem] theorem idx_pre (s : List UInt8) (c : UInt8) : idxF.pre [.str s, .str [c]] = True := PFn.of_pre idx_inj (s, c)
@[go_sem] theorem idx_res (s : List UInt8) (c : UInt8) : idxF.res [.str s, .str [c]] = [.int .i64 (Lib.indexByte s c)] := PFn.of_res idx_inj (s, c)
theorem idx_ok : Pure E 237 idxF := by
 refine Pure.of_calls idx_inj ?_
 rintro w J args ⟨s, c⟩ hJ hG hargs _
 obtain ⟨v, v2, rfl, h1, h2⟩ := args2 hargs
 simp only [RV] at h1 h2
 subst h1 h2
 refine (Tryz.strings_Index_one ⟨s.toArray⟩ c w).mono ?_
 rintro e w' ⟨rfl, rfl⟩
 exact ⟨_, rfl, Below.refl _ _, by simp only [retD, RVD, RV]⟩
def joinA (x : List (List UInt8) × List UInt8) : List Vm.Data := [.lst (strsD x.1), .str x.2]
theorem join_inj (x y : List (List UInt8) × List UInt8) (h : joinA x = joinA y) : x = y := by simpa [joinA, Prod.ext_iff, strsD_inj, Vm.Data.lst.injEq] using h
noncomputable def joinF : PFn := PFn.of joinA (fun x => x.1.length ≤ 1000000 ∧ (Lib.join x.1 x.2).length ≤ 140737488355328) (fun x => [.str (Lib.join x.1 x.2)])
@[go_sem] theorem join_pre (l : List (List UInt8)) (s : List UInt8) : joinF.pre [.lst (strsD l), .str s] = (l.length ≤ 1000000 ∧ (Lib.join l s).length ≤ 140737488355328) := PFn.of_pre join_inj (l, s)
@[go_sem] theorem join_res (l : List (List UInt8)) (s : List UInt8) : joinF.res [.lst (strsD l), .str s] = [.str (Lib.join l s)] := PFn.of_res join_inj (l, s)
theorem join_ok : Pure E 157 joinF := by
 refine Pure.of_calls join_inj ?_
 rintro w J args ⟨l, s⟩ hJ hG hargs ⟨hl, hlen⟩
 obtain ⟨v, v2, rfl, h1, h2⟩ := args2 hargs
 simp only [RV] at h1 h2
 obtain ⟨a, n, c, rfl, hn, hc, hr⟩ := h1
 subst h2
 rw [strsD_len] at hn
 by_cases he : l = []
 ·subst he
  simp only [List.length_nil] at hn; subst hn
  refine (Tryz.strings_Join_none a c ⟨s.toArray⟩ w).mono ?_
  rintro e w' ⟨rfl, rfl⟩
  exact ⟨_, rfl, Below.refl _ _, by simp only [retD, RVD, RV, Lib.join_nil]⟩
 ·rcases hr with hr | ⟨b, o, sz, rfl, hsz, hE⟩
  ·exact absurd (by simpa [strsD] using hr) he
  ·have hsz1 : sz = 1 := by
    cases l with
    | nil => exact absurd rfl he
    | cons x l => simp only [strsD, List.map_cons, RE] at hE; simpa using hE.1.symm
   subst hsz1
   have hc' := RE.strs l b o hE
   have hmap : (l.map fun s : List UInt8 => (⟨s.toArray⟩ : ByteArray)).map (·.data.toList) = l := by
    rw [List.map_map]; exact (List.map_congr_left (fun x _ => by simp)).trans (List.map_id _)
   have hb : b < w.heap.size := by
    cases l with
    | nil => exact absurd rfl he
    | cons x l => exact hJ _ _ (hc' 0 x (by simp)).2
   have := Tryz.strings_Join b o c (l.map fun s => ⟨s.toArray⟩) ⟨s.toArray⟩ w (fun j x hx => by
    rw [List.getElem?_map] at hx
    cases hj : l[j]? with
    | none => rw [hj] at hx; cases hx
    | some y => rw [hj] at hx; cases hx; exact (hc' j y hj).1) hb (by rw [List.length_map]; have := hl; simp only at this; omega) (by rw [List.length_map]; omega) (by rw [hmap]; exact hlen)
   rw [List.length_map, ← hn, hmap] at this
   refine this.mono ?_
   rintro e w' ⟨rfl, hB⟩
   exact ⟨_, rfl, hB, by simp only [retD, RVD, RV]⟩
def itoaA (x : Nat) : List Vm.Data := [.int .i64 (x : Int)]
theorem itoa_inj (x y : Nat) (h : itoaA x = itoaA y) : x = y := by simpa [itoaA, Prod.ext_iff, Int.natCast_inj] using h
noncomputable def itoaF : PFn := PFn.of itoaA (fun x => x ≤ 9223372036854775807) (fun x => [.str (Lib.decDigits x)])
@[go_sem] theorem itoa_pre (n : Nat) : itoaF.pre [.int .i64 (n : Int)] = (n ≤ 9223372036854775807) := PFn.of_pre itoa_inj n
@[go_sem] theorem itoa_res (n : Nat) : itoaF.res [.int .i64 (n : Int)] = [.str (Lib.decDigits n)] := PFn.of_res itoa_inj n
theorem itoa_ok : Pure E 108 itoaF := by
 refine Pure.of_calls itoa_inj ?_
 intro w J args n hJ hG hargs hn
 obtain ⟨v, rfl, h1⟩ := args1 hargs
 simp only [RV] at h1
 subst h1
 have hp := pow_cells hG
 refine (Any.strconv_Itoa_cells Tryz.laysM171 (n : Int) (by omega) (by omega) w (fun j hj => (hp j hj).1) (hJ _ _ (hp 0 (by decide)).2)).mono ?_
 rintro e w' ⟨rfl, k, os, rfl⟩
 refine ⟨_, rfl, Lib.below_grow _ _ (Nat.le_refl _) _ _, ?_⟩
 simp only [retD, RVD, RV]
 rw [Lib.itoa_nonneg]
end Go.Proofs.YtpajpkbipagjpaaGreatDoor.Oc
namespace Go.Proofs.YtpajpkbipagjpaaGreatDoor.Oc
open Go Go.RowKit Go.Proofs.YtpajpkbipagjpaaGreatDoor.Vm Go.Proofs.YtpajpkbipagjpaaGreatDoor.Tr Go.IntWalk
set_option maxRecDepth 100000
set_option maxHeartbeats 4000000
theorem RE.u8s {w : World} {J : Cset} : ∀ (l : List UInt8) (b o : Nat), RE w J 1 (bytesD l) b o → ∀ j (h : j < l.length), w.cell? ⟨b, o + j, none⟩ = some (.int .u8 (l[j].toNat : Int)) ∧ J b (o + j)
 | [], b, o, h, j, hj => by simp at hj
 | x :: l, b, o, h, j, hj => by
   simp only [bytesD, List.map_cons, RE, RC, RV] at h
   obtain ⟨_, ⟨⟨v, h1, h2, _, h3⟩, _⟩, hr⟩ := h
   cases j with
   | zero => exact ⟨by rw [Nat.add_zero, h1, h3]; rfl, h2⟩
   | succ j =>
     have := RE.u8s l b (o + 1) hr j (by simpa using hj)
     rw [show o + (j + 1) = o + 1 + j by omega]
     exact this
def hexA (x : List UInt8) : List Vm.Data := [.lst (bytesD x)]
theorem hexA_inj (x y : List UInt8) (h : hexA x = hexA y) : x = y := by simpa [hexA, bytesD_inj, Vm.Data.lst.injEq] using h
noncomputable def hexcF : PFn := PFn.of hexA (fun x => 0 < x.length ∧ x.length ≤ 1000000) (fun x => [.str (hexS x)])
@[go_sem] theorem hexc_pre (x : List UInt8) : hexcF.pre [.lst (bytesD x)] = (0 < x.length ∧ x.length ≤ 1000000) := PFn.of_pre hexA_inj x
@[go_sem] theorem hexc_res (x : List UInt8) : hexcF.res [.lst (bytesD x)] = [.str (hexS x)] := PFn.of_res hexA_inj x
theorem hexc_ok : Pure E 101 hexcF := by
 refine Pure.of_calls hexA_inj ?_
 rintro w J args s hJ hG hargs ⟨h0, hl⟩
 obtain ⟨v, rfl, h1⟩ := args1 hargs
 simp only [RV] at h1
 obtain ⟨a, n, c, rfl, hn, hc, hr⟩ := h1
 rw [bytesD_len] at hn
 subst hn
 rcases hr with hr | ⟨b, o, sz, rfl, hsz, hE⟩
 ·have := congrArg List.length hr
  rw [bytesD_len, List.length_nil] at this
  omega
 ·have hsz1 : sz = 1 := by
   cases s with
   | nil => simp at h0
   | cons x l => simp only [bytesD, List.map_cons, RE] at hE; simpa using hE.1.symm
  subst hsz1
  have hc' := RE.u8s s b o hE
  refine (hex_calls s b o c w (hJ _ _ (hc' 0 h0).2) hl fun j h => (hc' j h).1).mono ?_
  rintro e w' ⟨rfl, hB⟩
  exact ⟨_, rfl, hB, by simp only [retD, RVD, RV]⟩
end Go.Proofs.YtpajpkbipagjpaaGreatDoor.Oc
namespace Go.Proofs.YtpajpkbipagjpaaGreatDoor.Oc
open Go Go.RowKit Go.Proofs.YtpajpkbipagjpaaGreatDoor.Vm Go.Proofs.YtpajpkbipagjpaaGreatDoor.Tr Go.IntWalk
set_option maxRecDepth 100000
set_option maxHeartbeats 4000000
theorem first0 {P : Program} (a : Option Addr) (w : World) : (Builtin.firstCells 1 0 (.slice a 0 0)).run P w = .ok #[] w := by
 cases a with
 | none => exact run_firstCells_none _ _ _ _ _
 | some b => exact run_firstCells_some _ _ _ b _ _ [] rfl (fun j v h => by simp at h)
theorem info5 : ∃ i, Tryz.prog.info? 5 = some i ∧ i.zero = some (.int .u8 0) ∧ i.size = 1 ∧ i.bytes = 1 := ⟨_, rfl, rfl, rfl, rfl⟩
set_option maxHeartbeats 4000000 in
set_option maxRecDepth 1000000 in
theorem grow_calls (a : Option Addr) (n : Nat) (w : World) (h1 : 1 ≤ n) (h2 : n ≤ 200000000) :
 Calls Tryz.prog 322 #[.slice a 0 0, .int .i64 n] w fun e w' => ∃ cap cells, e = .returned (.slice (some ⟨w.heap.size, 0, none⟩) 0 cap) ∧ w'.heap[w.heap.size]? = some (.cells cells 5 (0, 0)) ∧ cells.size = cap ∧ cap ≤ maxLen ∧ Below w.heap.size w w' := by
 obtain ⟨i0, hi, hz0, hz1, hz2⟩ := info5
 have happ := Lib.run_append_grow_zeros (P := Tryz.prog) w 22 3 22 5 i0 (.int .u8 0) .i64 .i64 Tryz.underlying22 Tryz.underlying3 hi hz0 a 0 0 [] (by rw [hz1]; exact first0 a w.drew) n (by omega) (by omega) (by omega) (by omega) (by rw [hz2]; omega) (by rw [hz2, Nat.zero_add, nextslicecap_zero h1]; omega)
 rw [Nat.zero_add] at happ
 generalize hcap : grownCap w n 0 5 = cap2 at happ
 have hcapge : n ≤ cap2 := by rw [← hcap]; exact grownCap_ge w _ 0 5
 have hcaple : cap2 ≤ maxLen := by rw [← hcap]; exact grownCap_le_maxLen w _ 0 5 (by unfold maxLen; omega)
 generalize hZ : ((([] : List Value).toArray ++ Builtin.zeroCells (Value.int .u8 0).cells n) ++ Builtin.zeroCells (Value.int .u8 0).cells (cap2 - n)) = Z at happ
 have hZs : Z.size = cap2 := by rw [← hZ]; simp [size_zeroCells, Value.cells]; omega
 clear hcap hZ
 go_enter Tryz.func322, Tryz.ntmps322
 go_wp2_with (at_builtin; refine Lib.wpList_append_run _ rfl _ _ _ _ rfl _ _ rfl rfl _ _ happ ?_)
 go_ret
 exact ⟨cap2, Z, rfl, heap_alloc_new w _, hZs, hcaple, ⟨rfl, rfl, rfl, by simp, fun k hk => Below.heap_alloc w _ k hk⟩⟩
theorem VCcall.grow {n : Int} {st : St} {K : D → St → Prop} (l : Nat) (h1 : 1 ≤ n) (h2 : n ≤ 200000000) (hm : st.noMark l) (hK : K (.sl l 0 0) (st.add l (.arr 5 1 [] 0))) : VCcall E 322 [.nilsl, .dat (.int .i64 n)] st K := by
 intro Γ a aa β w args hΓ S hargs
 obtain ⟨m, rfl⟩ := Int.eq_ofNat_of_zero_le (show 0 ≤ n by omega)
 simp only [RVDs, RVD, RV] at hargs
 obtain ⟨v1, r1, e1, ⟨p, rfl⟩, v2, r2, rfl, rfl, rfl⟩ := hargs
 obtain rfl : args = #[.slice p 0 0, .int .i64 m] := Array.ext' e1
 refine (callsIn_wide.2 (grow_calls p m w (by omega) (by omega))).mono fun e w' he => ?_
 obtain ⟨cap, cells, rfl, hh, hs, hc, hb⟩ := he
 have hR : RowOK w w' (FreshO (Im Γ β st.h w) w w' (.blk w.heap.size cap 1)) (.blk w.heap.size cap 1) 5 1 [] := by
  refine And.intro (by decide) (And.intro (by intro x hx; simp at hx) (Or.inr ?_))
  exact Exists.intro _ (Exists.intro _ (Exists.intro _ (And.intro rfl (And.intro (Nat.le_refl _) (And.intro hh (And.intro (Nat.zero_le _) (And.intro hc (And.intro (by rw [hs, Nat.mul_one]) (by intro j d hd; simp at hd)))))))))
 obtain ⟨S3, K3⟩ := S.adopt hb hm hR
 refine ⟨_, _, _, _, rfl, S3, ?_, hK⟩
 simp only [RVD]
 exact .inr ⟨_, _, _, _, upd_same _ _ _, Nat.zero_le _, rfl, .inl (by rw [Nat.zero_mul])⟩
end Go.Proofs.YtpajpkbipagjpaaGreatDoor.Oc
namespace Go.Proofs.YtpajpkbipagjpaaGreatDoor.Tr
open Go Go.RowKit Go.Proofs.YtpajpkbipagjpaaGreatDoor.Vm
section
variable {P : Program} {t : TypeId} {n : Nat} {ds : List Vm.Data}
theorem CT_bool (h : P.underlying t = some .bool) (c : CT P n t ds) : ∃ b, ds = [.bool b] := by
 cases n with
 | zero => exact c.elim
 | succ n => rw [CT, h] at c; exact c
theorem CT_int {k : IntKind} (h : P.underlying t = some (.int k)) (c : CT P n t ds) : ∃ i, ds = [.int k i] ∧ (Lit.int k i).wf = true := by
 cases n with
 | zero => exact c.elim
 | succ n => rw [CT, h] at c; exact c
theorem CT_str (h : P.underlying t = some .string) (c : CT P n t ds) : ∃ s, ds = [.str s] ∧ s.length ≤ maxLen := by
 cases n with
 | zero => exact c.elim
 | succ n => rw [CT, h] at c; exact c
theorem CT_slice {e : TypeId} (h : P.underlying t = some (.slice e)) (c : CT P n t ds) : ∃ m xs, n = m + 1 ∧ ds = [.lst xs] ∧ xs.length ≤ maxLen ∧ ∀ x ∈ xs, CT P m e x := by
 cases n with
 | zero => exact c.elim
 | succ n =>
   rw [CT, h] at c
   obtain ⟨xs, h1, h2, h3⟩ := c
   exact ⟨n, xs, rfl, h1, h2, h3⟩
theorem CT_struct {fs : Array Field} (h : P.underlying t = some (.struct fs)) (c : CT P n t ds) : ∃ m, n = m + 1 ∧ ds.length = P.cellsOf t ∧ ∀ f ∈ fs.toList, CT P m f.type ((ds.drop f.offset).take (P.cellsOf f.type)) := by
 cases n with
 | zero => exact c.elim
 | succ n =>
   rw [CT, h] at c
   exact ⟨n, rfl, c⟩
theorem bytes_rows {e : TypeId} (he : P.underlying e = some (.int .u8)) : ∀ (xs : List (List Vm.Data)), (∀ x ∈ xs, CT P n e x) → ∃ l : List UInt8, xs = bytesD l
 | [], _ => ⟨[], rfl⟩
 | x :: xs, h => by
   obtain ⟨i, rfl, hi⟩ := CT_int he (h x (by simp))
   obtain ⟨l, rfl⟩ := bytes_rows he xs fun y hy => h y (by simp [hy])
   obtain ⟨m, hm, _⟩ := bytes_of [i] (by simpa using hi)
   have : ∃ b : UInt8, m = [b] := by
    cases m with
    | nil => simp [bytesD] at hm
    | cons b m => cases m with
      | nil => exact ⟨b, rfl⟩
      | cons => simp [bytesD] at hm
   obtain ⟨b, rfl⟩ := this
   refine ⟨b :: l, ?_⟩
   simp only [List.map_cons, List.map_nil, bytesD, List.cons.injEq, and_true] at hm ⊢
   exact hm
theorem CT_bytes {e : TypeId} (h : P.underlying t = some (.slice e)) (he : P.underlying e = some (.int .u8)) (c : CT P n t ds) : ∃ l : List UInt8, ds = [.lst (bytesD l)] := by
 obtain ⟨m, xs, _, rfl, _, hx⟩ := CT_slice h c
 obtain ⟨l, rfl⟩ := bytes_rows he xs hx
 exact ⟨l, rfl⟩
theorem bk_bytes (s : List UInt8) : bkE (bytesD s) = s.length := by
 induction s with
 | nil => rfl
 | cons b s ih =>
   have : bytesD (b :: s) = [.int .u8 (b.toNat : Int)] :: bytesD s := rfl
   rw [this, bkE, ih, List.length_cons]
   simp only [bkC, bk]; omega
end
section
variable {H : Type} {enc : TypeId × Value → H} {P : Program} {w : World} {S : List TypeId} {B : DataW H → Nat} {BA : List (DataW H) → Nat}
theorem told_agg (hB : Bulk B BA) (hS : closedT P S = true) {t : TypeId} {v : Value} {d : DataW H} {ps : List MemPlace} {cs : Array Value} (ht : t ∈ S) (hv : v = .agg cs) (h : DataW.Trod enc P w 0 (fun _ => true) true t v d ps) :
 ∃ n ds, CT P n t ds ∧ RV w (All w) (.agg ds) v ∧ bkC ds ≤ B d := by
 subst hv
 obtain ⟨fuel, hf⟩ := h
 obtain ⟨ds, h1, h2, _, h4⟩ := trod_told hB hS fuel t _ _ ht hf
 exact ⟨fuel, ds, h1, by simp only [RV]; exact ⟨cs, rfl, by simpa [Value.cells] using h2⟩, h4⟩
theorem told_one (hB : Bulk B BA) (hS : closedT P S = true) {t : TypeId} {v : Value} {d : DataW H} {ps : List MemPlace} (ht : t ∈ S) (hv : v.cells = #[v]) (h : DataW.Trod enc P w 0 (fun _ => true) true t v d ps) :
 ∃ n d', CT P n t [d'] ∧ RV w (All w) d' v ∧ bk d' ≤ B d := by
 obtain ⟨fuel, hf⟩ := h
 obtain ⟨ds, h1, h2, _, h4⟩ := trod_told hB hS fuel t _ _ ht hf
 rw [hv] at h2
 cases ds with
 | nil => simp [RVs] at h2
 | cons d1 r =>
   simp only [RVs] at h2
   obtain ⟨u, r', e, q1, q2⟩ := h2
   injection e with e1 e2
   subst e1 e2
   cases r with
   | cons => simp [RVs] at q2
   | nil => exact ⟨fuel, d1, h1, q1, by simpa [bkC] using h4⟩
end
end Go.Proofs.YtpajpkbipagjpaaGreatDoor.Tr
namespace Go.Proofs.YtpajpkbipagjpaaGreatDoor.Tr
open Go Go.RowKit Go.Proofs.YtpajpkbipagjpaaGreatDoor.Vm
structure Rd where
 kind : Int
 text : List UInt8
 print : Bool
 deriving Inhabited, DecidableEq
def Rd.zero : Rd := ⟨0, [], false⟩
theorem rd_eta (r : Rd) : Rd.mk r.kind r.text r.print = r := rfl
def rdC (r : Rd) : List Vm.Data := [.int .i64 r.kind, .str r.text, .bool r.print]
def rdsD (l : List Rd) : List (List Vm.Data) := l.map rdC
theorem rdC_eq (r : Rd) : rdC r = [.int .i64 r.kind, .str r.text, .bool r.print] := rfl
theorem rdsD_cons (r : Rd) (l : List Rd) : rdsD (r :: l) = rdC r :: rdsD l := rfl
theorem rdsD_len (l : List Rd) : (rdsD l).length = l.length := by simp [rdsD]
theorem rdsD_at {l : List Rd} {k : Nat} (h : k < l.length) : (rdsD l).getD k [] = [.int .i64 (l.getD k Rd.zero).kind, .str (l.getD k Rd.zero).text, .bool (l.getD k Rd.zero).print] := by
 rw [rdsD, List.getD_eq_getElem?_getD, List.getElem?_map, List.getElem?_eq_getElem h, List.getD_eq_getElem?_getD, List.getElem?_eq_getElem h]
 rfl
theorem rdC_inj {a b : Rd} (h : rdC a = rdC b) : a = b := by
 cases a; cases b
 simp only [rdC, List.cons.injEq, Vm.Data.int.injEq, Vm.Data.str.injEq, Vm.Data.bool.injEq, true_and, and_true] at h
 obtain ⟨rfl, rfl, rfl⟩ := h; rfl
theorem rdsD_inj : ∀ {a b : List Rd}, rdsD a = rdsD b ↔ a = b := by
 intro a
 induction a with
 | nil => intro b; cases b <;> simp [rdsD]
 | cons x a ih =>
   intro b
   cases b with
   | nil => simp [rdsD]
   | cons y b =>
     rw [rdsD_cons, rdsD_cons]
     constructor
     ·intro h
      injection h with h1 h2
      rw [rdC_inj h1, ih.1 h2]
     ·intro h; injection h with h1 h2; rw [h1, h2]
@[reducible] def SR : Sig := ⟨Rd, fun t => .agg (rdC t), fun _ _ h => by injection h with h; exact rdC_inj h⟩
@[reducible] def SRs : Sig := ⟨List Rd, fun l => .lst (rdsD l), fun _ _ h => by injection h with h; exact rdsD_inj.1 h⟩
theorem SR_dec {k : Int} {s : List UInt8} {b : Bool} : SR.dec (.agg [.int .i64 k, .str s, .bool b]) = some ⟨k, s, b⟩ := SR.dec_enc ⟨k, s, b⟩
noncomputable def decR (xs : List (List Vm.Data)) : Option (List Rd) := by
 classical exact if h : ∃ l, rdsD l = xs then some (Classical.choose h) else none
theorem decR_rds {l : List Rd} : decR (rdsD l) = some l := by
 have h : ∃ m, rdsD m = rdsD l := ⟨l, rfl⟩
 unfold decR
 rw [dif_pos h]
 exact congrArg some (rdsD_inj.1 (Classical.choose_spec h))
theorem decR_some {xs : List (List Vm.Data)} {l : List Rd} (h : decR xs = some l) : rdsD l = xs := by
 unfold decR at h
 split at h
 ·rename_i h'
  simp only [Option.some.injEq] at h
  rw [← h]; exact Classical.choose_spec h'
 ·cases h
theorem SRs_dec {xs : List (List Vm.Data)} : SRs.dec (.lst xs) = decR xs := by
 cases hx : decR xs with
 | some l =>
   obtain rfl := decR_some hx
   exact SRs.dec_enc l
 | none =>
   cases hy : SRs.dec (.lst xs) with
   | none => rfl
   | some m =>
     exfalso
     have this : Vm.Data.lst (rdsD m) = .lst xs := Sig.dec_some hy
     injection this with this
     have e := @decR_rds m
     rw [this, hx] at e; cases e
noncomputable def apR {β : Type} (z : β) (ss : List Sig) (f : Fun (SRs :: ss) β) (o : Option (List Rd)) (ds : List Vm.Data) : β :=
 match o with
 | some l => ap z ss (f l) ds
 | none => z
structure Im where
 hash : Int
 null : Bool
 dig : List UInt8
 deriving Inhabited, DecidableEq
section
variable {β : Type} {z : β} {ss : List Sig} {ds : List Vm.Data}
theorem ap_SR {f : Fun (SR :: ss) β} {k : Int} {s : List UInt8} {b : Bool} : ap z (SR :: ss) f (.agg [.int .i64 k, .str s, .bool b] :: ds) = ap z ss (f ⟨k, s, b⟩) ds := by rw [ap_cons, SR_dec, apO_some]
theorem ap_SRs {f : Fun (SRs :: ss) β} {xs : List (List Vm.Data)} : ap z (SRs :: ss) f (.lst xs :: ds) = apR z ss f (decR xs) ds := by
 rw [ap_cons, SRs_dec]
 cases decR xs <;> rfl
theorem apR_some {f : Fun (SRs :: ss) β} {l : List Rd} : apR z ss f (some l) ds = ap z ss (f l) ds := rfl
end
attribute [go_sem] rd_eta rdC_eq ap_SR ap_SRs apR_some decR_rds rdsD_len
end Go.Proofs.YtpajpkbipagjpaaGreatDoor.Tr
namespace Go.Proofs.YtpajpkbipagjpaaGreatDoor.Oc
open Go Go.RowKit Go.Proofs.YtpajpkbipagjpaaGreatDoor.Vm Go.Proofs.YtpajpkbipagjpaaGreatDoor.Tr Go.IntWalk
set_option maxRecDepth 100000
set_option maxHeartbeats 4000000
def c8 (b : List UInt8) (k : Nat) : Nat := (b.getD k 0).toNat
def ch8 (b : List UInt8) : Nat :=
 if b.length = 0 then 0
 else if c8 b 0 < 128 then 1
 else if 194 ≤ c8 b 0 ∧ c8 b 0 ≤ 223 then (if 2 ≤ b.length ∧ 128 ≤ c8 b 1 ∧ c8 b 1 ≤ 191 then 2 else 0)
 else if 224 ≤ c8 b 0 ∧ c8 b 0 ≤ 239 then (if 3 ≤ b.length ∧ (if c8 b 0 = 224 then 160 else 128) ≤ c8 b 1 ∧ c8 b 1 ≤ (if c8 b 0 = 237 then 159 else 191) ∧ 128 ≤ c8 b 2 ∧ c8 b 2 ≤ 191 then 3 else 0)
 else if 240 ≤ c8 b 0 ∧ c8 b 0 ≤ 244 then (if 4 ≤ b.length ∧ (if c8 b 0 = 240 then 144 else 128) ≤ c8 b 1 ∧ c8 b 1 ≤ (if c8 b 0 = 244 then 143 else 191) ∧ 128 ≤ c8 b 2 ∧ c8 b 2 ≤ 191 ∧ 128 ≤ c8 b 3 ∧ c8 b 3 ≤ 191 then 4 else 0)
 else 0
theorem ch8_le (b : List UInt8) : ch8 b ≤ b.length ∧ ch8 b ≤ 4 := by
 unfold ch8
 (repeat' split) <;> omega
def vld : Nat → List UInt8 → Bool
 | 0, b => decide (b.length = 0)
 | f + 1, b => if b.length = 0 then true else if ch8 b = 0 then false else vld f (b.drop (ch8 b))
def validB (b : List UInt8) : Bool := vld b.length b
theorem vld_more : ∀ (f g : Nat) (b : List UInt8), b.length ≤ f → b.length ≤ g → vld f b = vld g b
 | 0, 0, b, h1, h2 => rfl
 | 0, g + 1, b, h1, h2 => by
   rw [vld, vld, if_pos (show b.length = 0 by omega)]; exact decide_eq_true (by omega)
 | f + 1, 0, b, h1, h2 => by
   rw [vld, vld, if_pos (show b.length = 0 by omega)]; exact (decide_eq_true (by omega)).symm
 | f + 1, g + 1, b, h1, h2 => by
   rw [vld, vld]
   split
   ·rfl
   ·split
    ·rfl
    ·exact vld_more f g _ (by rw [List.length_drop]; omega) (by rw [List.length_drop]; omega)
theorem validB_nil {b : List UInt8} (h : b.length = 0) : validB b = true := by
 unfold validB; rw [h, vld]; exact decide_eq_true h
theorem validB_bad {b : List UInt8} (h : ¬ b.length = 0) (hc : ch8 b = 0) : validB b = false := by
 unfold validB
 obtain ⟨n, hn⟩ : ∃ n, b.length = n + 1 := ⟨b.length - 1, by omega⟩
 rw [hn, vld, if_neg h, if_pos hc]
theorem validB_step {b : List UInt8} {k : Nat} (hk : 0 < k) (hc : ch8 b = k) : validB (b.drop k) = validB b := by
 have hl := (ch8_le b).1
 unfold validB
 obtain ⟨n, hn⟩ : ∃ n, b.length = n + 1 := ⟨b.length - 1, by omega⟩
 rw [hn, vld, if_neg (show ¬ b.length = 0 by omega), if_neg (show ¬ ch8 b = 0 by omega), hc]
 exact vld_more _ _ _ (Nat.le_refl _) (by rw [List.length_drop]; omega)
theorem validB_asc : ∀ (k : Nat) (b : List UInt8), k ≤ b.length → (∀ x ∈ b.take k, x.toNat < 128) → validB (b.drop k) = validB b
 | 0, b, _, _ => rfl
 | k + 1, b, h, ha => by
   have h1 : ch8 b = 1 := by
    unfold ch8
    rw [if_neg (by omega), if_pos]
    unfold c8
    match b, h with
    | x :: r, _ => exact ha x (by simp)
   rw [show k + 1 = 1 + k by omega, ← List.drop_drop, validB_asc k (b.drop 1) (by rw [List.length_drop]; omega) ?_]
   ·exact validB_step (by omega) h1
   ·intro x hx
    refine ha x ?_
    match b, h with
    | y :: r, _ => simp only [List.drop_succ_cons, List.drop_zero] at hx; simp only [List.take_succ_cons, List.mem_cons]; exact .inr hx
end Go.Proofs.YtpajpkbipagjpaaGreatDoor.Oc
namespace Go.Proofs.YtpajpkbipagjpaaGreatDoor.Oc
open Go Go.RowKit Go.Proofs.YtpajpkbipagjpaaGreatDoor.Vm Go.Proofs.YtpajpkbipagjpaaGreatDoor.Tr Go.IntWalk
set_option maxRecDepth 100000
set_option maxHeartbeats 4000000
@[go_sem] noncomputable def bclO : OFn := OF [SY] (fun (b : List UInt8) => b.length ≤ 100000000) 5 1 (fun (b : List UInt8) => bytesD b) (fun (b : List UInt8) => [])
@[go_sem] noncomputable def bclF : PFn := bclO.shut
theorem bcl_own : Own E 88 bclO := Own.of_sig (rs := [.tmp 2]) (n := 8) Tryz.func88 rfl rfl rfl (Nat.le_of_ble_eq_true rfl) (by
 intro (b : List UInt8) hds
 refine st0 ?_
 refine rg sound_nil [0] trivial ?_
 refine rB sound_nil [0, 4] trivial fun K' hK => ?_
 repeat' first | (refine lf hK trivial ?_; clear hK K') | with_reducible apply And.intro | refine sA trivial (fun _ => ?_) fun _ => ?_ | refine sAb trivial (fun _ => ?_) fun _ => ?_ | refine sAl trivial (fun g => ?_) fun g => ?_ | exact sd | exact sde trivial | exact sdp trivial | refine stk trivial ?_ | fail
 all_goals
  refine cn ?_ ?_
  ·intro h; try exact nd h
   all_goals
    refine rg sound_nil [2] trivial ?_
    exact fz trivial
  ·intro h; try exact nd h
   all_goals
    refine rg sound_nil [2] trivial ?_
    exact fz trivial)
theorem bcl_ok : Pure E 88 bclF := bcl_own.pure
@[go_sem] noncomputable def nclO : OFn := OF [SL] (fun (l : List T) => l.length ≤ 100000000) 25 5 (fun (l : List T) => nodesD l) (fun (l : List T) => [])
theorem ncl_own : Own E 159 nclO := Own.of_sig (rs := [.tmp 2]) (n := 8) Tryz.func159 rfl rfl rfl (Nat.le_of_ble_eq_true rfl) (by
 intro (l : List T) hds
 refine st0 ?_
 refine rg sound_nil [0] trivial ?_
 refine rB sound_nil [0, 4] trivial fun K' hK => ?_
 repeat' first | (refine lf hK trivial ?_; clear hK K') | with_reducible apply And.intro | refine sA trivial (fun _ => ?_) fun _ => ?_ | refine sAb trivial (fun _ => ?_) fun _ => ?_ | refine sAl trivial (fun g => ?_) fun g => ?_ | exact sd | exact sde trivial | exact sdp trivial | refine stk trivial ?_ | fail
 all_goals
  refine cn ?_ ?_
  ·intro h; try exact nd h
   all_goals
    refine rg sound_nil [2] trivial ?_
    exact fz trivial
  ·intro h; try exact nd h
   all_goals
    refine rg sound_nil [2] trivial ?_
    exact fz trivial)
end Go.Proofs.YtpajpkbipagjpaaGreatDoor.Oc
