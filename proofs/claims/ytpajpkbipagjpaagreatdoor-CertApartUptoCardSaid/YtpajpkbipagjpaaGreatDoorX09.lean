/- What functions of the program, of its library and of the document compute: their contracts, and laws about what they compute (X09). No condition. -/
import Derived.Test.YtpajpkbipagjpaaGreatDoorX08
import Derived.Test.YtpajpkbipagjpaaGreatDoorX06
import Derived.Test.YtpajpkbipagjpaaGreatDoorX07
set_option linter.unusedVariables false
set_option linter.unusedSimpArgs false
namespace Go.Proofs.YtpajpkbipagjpaaGreatDoor.Oc
open Go Go.RowKit Go.Proofs.YtpajpkbipagjpaaGreatDoor.Vm Go.Proofs.YtpajpkbipagjpaaGreatDoor.Tr Go.IntWalk
set_option maxRecDepth 100000
set_option maxHeartbeats 4000000
def puE : Lib.NumEnd Nat → Vm.Data
 | .ok n => .nili
 | _ => .iface 293 (.ptr [])
theorem puF : (∀ n, puE (.ok n) = .nili) ∧ puE Lib.NumEnd.syntax = .iface 293 (.ptr []) ∧ puE Lib.NumEnd.range = .iface 293 (.ptr []) ∧ (∀ n, puNum (.ok n) = n) ∧ puNum Lib.NumEnd.syntax = 0 ∧ puNum Lib.NumEnd.range = 9223372036854775807 ∧
 (∀ n, puErr (.ok n) = .nili) ∧ puErr Lib.NumEnd.syntax = .iface 291 (.int .i64 2) ∧ puErr Lib.NumEnd.range = .iface 291 (.int .i64 1) ∧ [80, 97, 114, 115, 101, 85, 105, 110, 116] = pub := ⟨fun _ => rfl, rfl, rfl, fun _ => rfl, rfl, rfl, fun _ => rfl, rfl, rfl, rfl⟩
noncomputable def ΦP1 : Fns := tab [(206, fmtUF), (196, parseIF), (197, toErrF)]
theorem ΦP1_ok : Sound E ΦP1 := sound_cons (by kernel_rfl) fmtU_ok (sound_cons (by kernel_rfl) parseI_ok (sound_cons (by kernel_rfl) toErr_ok (sound_nil)))
@[go_sem] theorem ΦP1_r : ΦP1 206 = some fmtUF ∧ ΦP1 196 = some parseIF ∧ ΦP1 197 = some toErrF := ⟨rfl, rfl, rfl⟩
theorem dec_len (n : Nat) (h : n ≤ 9223372036854775807) : (Lib.decDigits n).length ≤ 20 := by
 rw [Lib.decDigits_length]
 rcases Nat.eq_zero_or_pos n with rfl | h1
 ·decide +kernel
 ·have := Lib.numDigits_eq n h1 (by omega); split at this <;> omega
def textS (l : List Nat) : List UInt8 := Lib.join (l.map Lib.decDigits) [46]
theorem joinTail_len (s : List UInt8) : ∀ l : List (List UInt8), (∀ x ∈ l, x.length ≤ 20) → (Lib.joinTail [46] l).length ≤ 21 * l.length := by
 intro l
 induction l with
 | nil => intro _; simp [Lib.joinTail]
 | cons x l ih =>
   intro h
   have h1 := ih fun y hy => h y (by simp [hy])
   have h2 := h x (by simp)
   rw [show Lib.joinTail [46] (x :: l) = 46 :: (x ++ Lib.joinTail [46] l) by simp [Lib.joinTail]]
   simp only [List.length_append, List.length_cons]
   omega
theorem textS_len (l : List Nat) (h : mx l ≤ 9223372036854775807) : (textS l).length ≤ 21 * l.length := by
 have hl := (mx_all l _).1 h
 cases l with
 | nil => simp [textS, Lib.join]
 | cons x l =>
   unfold textS
   rw [List.map_cons, Lib.join_cons, List.length_append]
   have h1 := joinTail_len [46] (l.map Lib.decDigits) (fun y hy => by
    obtain ⟨n, hn, rfl⟩ := List.mem_map.1 hy
    exact dec_len n (hl n (by simp [hn])))
   have h2 := dec_len x (hl x (by simp))
   simp only [List.length_map, List.length_cons] at h1 ⊢
   omega
theorem strsD_snoc (l : List (List UInt8)) (s : List UInt8) : strsD l ++ [[.str s]] = strsD (l ++ [s]) := by simp [strsD]
theorem map_take_succ (l : List Nat) (k : Nat) (h : k < l.length) : (l.take (k + 1)).map Lib.decDigits = (l.take k).map Lib.decDigits ++ [Lib.decDigits (l.getD k 0)] := by
 rw [List.take_add_one, List.getElem?_eq_getElem h, List.getD_eq_getElem?_getD, List.getElem?_eq_getElem h]
 simp only [List.map_append, Option.toList_some, List.map_cons, List.map_nil, Option.getD_some]
theorem mx_ge (l : List Nat) (k : Nat) (h : k < l.length) : l.getD k 0 ≤ mx l := by
 have := (mx_all l (mx l)).1 (Nat.le_refl _) (l.getD k 0) (by rw [List.getD_eq_getElem?_getD, List.getElem?_eq_getElem h]; exact List.getElem_mem h)
 exact this
theorem take_strs (l : List Nat) (k : Nat) (h : k ≤ l.length) : (strsD ((l.take k).map Lib.decDigits)).take k = strsD ((l.take k).map Lib.decDigits) := List.take_of_length_le (by rw [strsD_len, List.length_map, List.length_take]; omega)
noncomputable def fmtPF : PFn := PFn.of fmtUA (fun u => u < 18446744073709551616) (fun u => [.str (Lib.decDigits u)])
@[go_sem] theorem fmtP_pre (u : Nat) : fmtPF.pre [.int .u64 (u : Int), .int .i64 10] = (u < 18446744073709551616) := PFn.of_pre fmtU_inj u
@[go_sem] theorem fmtP_res (u : Nat) : fmtPF.res [.int .u64 (u : Int), .int .i64 10] = [.str (Lib.decDigits u)] := PFn.of_res fmtU_inj u
theorem fmtP_ok : Pure E 156 fmtPF := by
 refine Pure.of_body (rs := [.tmp 4]) (n := 8) Tryz.func156 rfl rfl rfl fun ds hds => ?_
 obtain ⟨u, rfl, hds⟩ := hds
 rw [show fmtPF.res (fmtUA u) = [.str (Lib.decDigits u)] from fmtP_res u]
 refine ⟨Nat.le_of_ble_eq_true rfl, ?_⟩
 show VC E none _ (pureSt 8 [.int .u64 (u : Int), .int .i64 10]) _
 refine st0 ?_
 refine rg ΦP1_ok [0, 1] trivial ?_
 refine rg ΦP1_ok [4] trivial ?_
 exact fz trivial
noncomputable def parseUF : PFn := PFn.of parseIA (fun s => s.length ≤ 1000000) (fun s => [.int .u64 (puNum (puN s)), puE (puN s)])
@[go_sem] theorem parseU_pre (s : List UInt8) : parseUF.pre [.str s, .int .i64 10, .int .i64 63] = (s.length ≤ 1000000) := PFn.of_pre parseI_inj s
@[go_sem] theorem parseU_res (s : List UInt8) : parseUF.res [.str s, .int .i64 10, .int .i64 63] = [.int .u64 (puNum (puN s)), puE (puN s)] := PFn.of_res parseI_inj s
theorem parseU_ok : Pure E 148 parseUF := by
 refine Pure.of_body (rs := [.tmp 6, .tmp 7]) (n := 26) Tryz.func148 rfl rfl rfl fun ds hds => ?_
 obtain ⟨s, rfl, hds⟩ := hds
 rw [show parseUF.res (parseIA s) = [.int .u64 (puNum (puN s)), puE (puN s)] from parseU_res s]
 refine ⟨Nat.le_of_ble_eq_true rfl, ?_⟩
 show VC E none _ (pureSt 26 [.str s, .int .i64 10, .int .i64 63]) _
 rcases hh : puN s with n | _ | _
 all_goals
  refine st0 ?_
  refine rg ΦP1_ok [0, 1, 2] (And.intro hh puF) ?_
  refine rg ΦP1_ok [0, 1, 2, 8, 9] (And.intro hh puF) ?_
  refine rg ΦP1_ok [0, 1, 2, 8, 9, 18] (And.intro hh puF) ?_
  refine cn ?_ ?_
  ·intro h; try exact nd h
   all_goals
    refine rg ΦP1_ok [6, 7] (And.intro hh puF) ?_
    exact fz (And.intro hh puF)
  ·intro h; try exact nd h
   all_goals
    refine rg ΦP1_ok [6, 7] (And.intro hh puF) ?_
    exact fz (And.intro hh puF)
end Go.Proofs.YtpajpkbipagjpaaGreatDoor.Oc
namespace Go.Proofs.YtpajpkbipagjpaaGreatDoor.Oc
open Go Go.RowKit Go.Proofs.YtpajpkbipagjpaaGreatDoor.Vm Go.Proofs.YtpajpkbipagjpaaGreatDoor.Tr Go.IntWalk
set_option maxRecDepth 100000
set_option maxHeartbeats 4000000
noncomputable def ΦTX : Fns := tab [(156, fmtPF), (149, checkF), (157, joinF)]
theorem ΦTX_ok : Sound E ΦTX := sound_cons (by kernel_rfl) fmtP_ok (sound_cons (by kernel_rfl) check_ok (sound_cons (by kernel_rfl) join_ok (sound_nil)))
@[go_sem] theorem ΦTX_r : ΦTX 156 = some fmtPF ∧ ΦTX 149 = some checkF ∧ ΦTX 157 = some joinF := ⟨rfl, rfl, rfl⟩
theorem txE : (∀ (l : List (List UInt8)) (s : List UInt8), strsD l ++ [[.str s]] = strsD (l ++ [s])) ∧ (∀ (l : List Nat) (k : Nat), k ≤ l.length → (strsD ((l.take k).map Lib.decDigits)).take k = strsD ((l.take k).map Lib.decDigits)) ∧
 (∀ (l : List Nat) (k : Nat), k < l.length → (l.take k).map Lib.decDigits ++ [Lib.decDigits (l.getD k 0)] = (l.take (k + 1)).map Lib.decDigits) ∧ (∀ l : List Nat, (l.take 0).map Lib.decDigits = []) ∧ strsD [] = [] ∧ ∀ (l : List Nat) (k : Nat), k ≤ l.length → (strsD ((l.take k).map Lib.decDigits)).length = k :=
 ⟨strsD_snoc, take_strs, fun l k h => (map_take_succ l k h).symm, fun _ => rfl, rfl, fun l k h => by rw [strsD_len, List.length_map, List.length_take]; omega⟩
@[go_sem] noncomputable def textF : PFn := PF [SN] (fun (l : List Nat) => l.length ≤ 4611686018427387904) (fun (l : List Nat) => [.str (if may l then textS l else []), .int .i64 (if may l then 0 else 140)])
theorem text_ok : Pure E 113 textF := Pure.of_sig (rs := [.tmp 2, .tmp 3]) (n := 27) Tryz.func113 rfl rfl rfl (Nat.le_of_ble_eq_true rfl) (by
 intro (l : List Nat) hds
 refine st0 ?_
 refine rg ΦTX_ok [0] txE ?_
 refine rg ΦTX_ok [0, 4] txE ?_
 refine rg ΦTX_ok [0, 4, 11] txE ?_
 refine cn ?_ ?_
 ·intro h; try exact nd h
  all_goals
   have hm : may l = false := may_not (by assumption)
   have hy := And.intro hm trivial
   refine rg ΦTX_ok [2, 3] txE ?_
   exact fz hy
 ·intro h; try exact nd h
  all_goals
   have hm : may l = true := may_is (by assumption)
   have hml := of_decide_eq_true hm
   refine rg ΦTX_ok [0, 5] txE ?_
   refine rg ΦTX_ok [5, 13, 14, 15] txE ?_
   refine nx ?_
   refine nlt 5 1 9 1 ?_
   refine nx ?_
   refine VC.loopP (ι := Nat) [13, 14] (fun i => [(15, .dat (.int .i64 (i : Int))), (5, .sl 1 0 i)]) (fun i => [(1, .arr 9 1 (strsD ((l.take i).map Lib.decDigits)) 0)]) (fun i => i ≤ l.length) (fun i => l.length - i) 0 (by omega) (ete txE) ?_
   rintro i hp; try dsimp only at hp
   refine st0 ?_
   refine rg ΦTX_ok [5, 13, 14, 15, 16] txE ?_
   refine cn ?_ ?_
   ·intro h; try exact nd h
    all_goals
     refine rg ΦTX_ok [5, 7, 13, 14, 15] txE ?_
     have hgk := Nat.le_trans (mx_ge l i (by omega)) hml.2.2.2.2.1
     refine rgL ΦTX_ok txE ?_
     refine rgL ΦTX_ok txE ?_
     refine nx ?_
     exact ⟨i + 1, by omega, ete txE, by omega⟩
   ·intro h; try exact nd h
    all_goals
     obtain rfl : i = l.length := by omega
     rw [List.take_length]
     have htl := textS_len l hml.2.2.2.2.1
     have hy := And.intro hm (And.intro (show Lib.join (l.map Lib.decDigits) [46] = textS l from rfl) (And.intro (show (strsD (l.map Lib.decDigits)).take l.length = strsD (l.map Lib.decDigits) from List.take_of_length_le (by rw [strsD_len, List.length_map]; omega)) (show (strsD (l.map Lib.decDigits)).length = l.length by rw [strsD_len, List.length_map])))
     refine rg ΦTX_ok [2, 3] hy ?_
     exact fz hy)
end Go.Proofs.YtpajpkbipagjpaaGreatDoor.Oc
namespace Go.Proofs.YtpajpkbipagjpaaGreatDoor.Oc
open Go Go.RowKit Go.Proofs.YtpajpkbipagjpaaGreatDoor.Vm Go.Proofs.YtpajpkbipagjpaaGreatDoor.Tr Go.IntWalk
set_option maxRecDepth 100000
set_option maxHeartbeats 4000000
def wordP (w : List UInt8) : Option Nat := match puN w with
 | .ok n => some n
 | _ => none
def progA : List UInt8 → List UInt8 → List Nat → Option (List Nat)
 | [], w, out => match wordP w with
   | some n => some (out ++ [n])
   | none => none
 | c :: r, w, out => if c = 46 then (match wordP w with
   | some n => progA r [] (out ++ [n])
   | none => none) else progA r (w ++ [c]) out
def parseP (s : List UInt8) : Option (List Nat) := match progA s [] [] with
 | some l => if may l = true ∧ textS l = s then some l else none
 | none => none
theorem idx_neg : ∀ (r w : List UInt8) (out : List Nat), Lib.indexByte r 46 < 0 → progA r w out = (match wordP (w ++ r) with
 | some n => some (out ++ [n])
 | none => none)
 | [], w, out, _ => by simp [progA]
 | c :: r, w, out, h => by
   unfold Lib.indexByte at h
   by_cases hc : c = 46
   ·subst hc; simp at h
   ·have hc' : (c == 46) = false := by simpa using hc
    rw [hc'] at h
    simp only [Bool.false_eq_true, if_false] at h
    have hr : Lib.indexByte r 46 < 0 := by
     by_cases h1 : (Lib.indexByte r 46 == -1) = true
     ·have := eq_of_beq h1; omega
     ·rw [if_neg h1] at h; omega
    rw [progA, if_neg hc, idx_neg r (w ++ [c]) out hr]
    simp
theorem idx_pos : ∀ (r w : List UInt8) (out : List Nat), ¬ Lib.indexByte r 46 < 0 → ∃ i : Nat, Lib.indexByte r 46 = (i : Int) ∧ i < r.length ∧ progA r w out = (match wordP (w ++ r.take i) with
 | some n => progA (r.drop (i + 1)) [] (out ++ [n])
 | none => none)
 | [], w, out, h => by simp [Lib.indexByte] at h
 | c :: r, w, out, h => by
   unfold Lib.indexByte at h
   by_cases hc : c = 46
   ·subst hc
    refine ⟨0, by simp [Lib.indexByte], by simp, ?_⟩
    rw [progA, if_pos rfl]; simp
   ·have hc' : (c == 46) = false := by simpa using hc
    rw [hc'] at h
    simp only [Bool.false_eq_true, if_false] at h
    have h1 : ¬ (Lib.indexByte r 46 == -1) = true := fun h1 => by rw [if_pos h1] at h; exact h (by decide)
    rw [if_neg h1] at h
    have h2 : ¬ Lib.indexByte r 46 < 0 := by
     intro h3
     have := idxlow r
     have : Lib.indexByte r 46 = -1 := by omega
     exact h1 (by rw [this]; rfl)
    obtain ⟨i, e, hi, hp⟩ := idx_pos r (w ++ [c]) out h2
    refine ⟨i + 1, ?_, by simp; omega, ?_⟩
    ·rw [show Lib.indexByte (c :: r) 46 = if c == 46 then 0 else if Lib.indexByte r 46 == -1 then -1 else Lib.indexByte r 46 + 1 from rfl, hc', if_neg (by decide), if_neg h1, e]; rfl
    ·rw [progA, if_neg hc, hp]; simp
where idxlow : ∀ (r : List UInt8), -1 ≤ Lib.indexByte r 46
 | [] => by simp [Lib.indexByte]
 | c :: r => by
   have := idxlow r
   unfold Lib.indexByte
   split
   ·omega
   ·split <;> omega
theorem take_rest (r : List UInt8) (i : Nat) : (r.drop ((i : Int) + 1).toNat).take ((r.length : Int) - ((i : Int) + 1)).toNat = r.drop (i + 1) := by
 rw [show ((i : Int) + 1).toNat = i + 1 by omega]
 exact List.take_of_length_le (by rw [List.length_drop]; omega)
theorem take_rest2 (r : List UInt8) (i : Nat) (h : i < r.length) (hr : r.length ≤ 100000) : (r.drop (IntKind.i64.wrap ((i : Int) + ((1 : Nat) : Int))).toNat).take ((r.length : Int) - IntKind.i64.wrap ((i : Int) + ((1 : Nat) : Int))).toNat = r.drop (i + 1) := by
 rw [i64_in _ (by omega)]
 exact take_rest r i
theorem wordP_some {w : List UInt8} {n : Nat} (h : puN w = .ok n) : wordP w = some n := by unfold wordP; rw [h]
theorem wordP_none {w : List UInt8} (h : ∀ n, puN w ≠ .ok n) : wordP w = none := by
 unfold wordP; cases e : puN w with
 | ok n => exact absurd e (h n)
 | _ => rfl
theorem wordP_syntax {w : List UInt8} (h : puN w = Lib.NumEnd.syntax) : wordP w = none := wordP_none fun n e => by rw [h] at e; cases e
theorem wordP_range {w : List UInt8} (h : puN w = .range) : wordP w = none := wordP_none fun n e => by rw [h] at e; cases e
theorem parseP_none {s : List UInt8} (h : progA s [] [] = none) : parseP s = none := by unfold parseP; rw [h]
theorem parseP_bad {s : List UInt8} {l : List Nat} (h : progA s [] [] = some l) (h2 : ¬ (may l = true ∧ textS l = s)) : parseP s = none := by unfold parseP; rw [h]; exact if_neg h2
theorem parseP_yes {s : List UInt8} {l : List Nat} (h : progA s [] [] = some l) (h2 : may l = true ∧ textS l = s) : parseP s = some l := by unfold parseP; rw [h]; exact if_pos h2
theorem spE : (∀ (r : List UInt8) (i : Nat), (r.drop ((i : Int) + 1).toNat).take ((r.length : Int) - ((i : Int) + 1)).toNat = r.drop (i + 1)) ∧ ∀ i : Int, i + 0 = i := ⟨take_rest, Int.add_zero⟩
noncomputable def ΦPA : Fns := tab [(237, idxF), (148, parseUF), (113, textF)]
theorem ΦPA_ok : Sound E ΦPA := sound_cons (by kernel_rfl) idx_ok (sound_cons (by kernel_rfl) parseU_ok (sound_cons (by kernel_rfl) text_ok (sound_nil)))
@[go_sem] theorem ΦPA_r : ΦPA 237 = some idxF ∧ ΦPA 148 = some parseUF ∧ ΦPA 113 = some textF ∧ ΦPA 147 = none ∧ ΦPA 195 = none ∧ ΦPA 235 = none := ⟨rfl, rfl, rfl, rfl, rfl, rfl⟩
@[go_sem] theorem ΦPA_c : callable Tryz.prog 147 = true ∧ callable Tryz.prog 195 = true ∧ callable Tryz.prog 235 = true := ⟨by kernel_rfl, by kernel_rfl, by kernel_rfl⟩
@[go_sem] noncomputable def parseF : PFn := PF [SS] (fun (s : List UInt8) => s.length ≤ 100000) (fun (s : List UInt8) => [.lst (numsD ((parseP s).getD [])), .int .i64 (if (parseP s).isSome then 0 else 140)])
theorem parse_ok : Pure E 104 parseF := Pure.of_sig (rs := [.cell 2 151, .cell 3 27]) (n := 37) Tryz.func104 rfl rfl rfl (Nat.le_of_ble_eq_true rfl) (by
 intro (s : List UInt8) hds
 refine st0 ?_
 refine rg ΦPA_ok [0, 2, 3, 5] spE ?_
 refine rg ΦPA_ok [0, 2, 3, 4, 5] spE ?_
 refine rB ΦPA_ok [0, 2, 3, 4, 5, 11] spE fun K' hK => ?_
 repeat' first | with_reducible apply And.intro | exact sd | exact sde spE | exact sdp spE | refine stk spE ?_ | fail
 refine ec (rs := [.tmp 4]) (n := 8) Tryz.func147 rfl rfl rfl ?_
 refine rg ΦPA_ok [0, 1] trivial ?_
 refine rB ΦPA_ok [4] trivial fun K' hK => ?_
 repeat' first | with_reducible apply And.intro | exact sd | exact sde trivial | exact sdp trivial | refine stk trivial ?_ | fail
 refine ec (rs := [.tmp 6]) (n := 8) Tryz.func195 rfl rfl rfl ?_
 refine rg ΦPA_ok [3, 4, 5] trivial ?_
 refine rg ΦPA_ok [6] trivial ?_
 refine nx ?_
 refine rt trivial ?_
 repeat' first | (refine lf hK trivial ?_; clear hK K') | with_reducible apply And.intro | exact sd | exact sde trivial | exact sdp trivial | refine stk trivial ?_ | fail
 all_goals
  refine nx ?_
  refine rt spE ?_
  repeat' first | (refine lf hK spE ?_; clear hK K') | with_reducible apply And.intro | exact sd | exact sde spE | exact sdp spE | refine stk spE ?_ | fail
  all_goals
   refine nx ?_
   refine nlc 3 0 7 158 1 ?_
   refine nx ?_
   refine re (rs := []) (n := 52) 8 9 Tryz.func235 rfl rfl rfl fun A B hA hB => ?_
   refine rg ΦPA_ok [0, 1, 2, 3, 11] spE ?_
   refine cn ?_ ?_
   ·exact fun h => nd h
   intro h
   refine nx ?_
   refine VC.loopS (ι := List UInt8 × List Nat) [0, 1, 2, 3] (fun i => []) (fun i => [(4, .cells [.dat (.str i.1)] false), (3, .cells [.sl 7 0 i.2.length] false), (7, .arr 158 1 (numsD i.2) 0)]) (fun i => i.1.length + i.2.length ≤ s.length ∧ progA i.1 [] i.2 = progA s [] []) (fun i => i.1.length) (s, []) ⟨Nat.le_refl _, rfl⟩ ?_ ?_
   ·refine Ent.to rfl rfl rfl ?_ ?_
    ·simp -implicitDefEqProofs only [go_sem]; (try simp only [D.dat.injEq, Vm.Data.int.injEq, true_and, and_true, and_self, eq_self]); (try omega); (try ((repeat' apply And.intro) <;> first | omega | rfl))
    ·apply all_at
     ·simp -implicitDefEqProofs only [go_sem]; exact rfl
     ·(repeat' (first | exact all_nil | (refine all_cons ?_ ?_))) <;> (simp -implicitDefEqProofs only [go_sem]; (try rfl); skip)
   rintro ⟨r, out⟩ hp; (try dsimp only at hp); obtain ⟨hrl, hpr⟩ := hp
   refine st0 ?_
   refine rg ΦPA_ok [0, 1, 2, 3, 7] spE ?_
   refine rg ΦPA_ok [0, 1, 2, 3, 7, 33] spE ?_
   refine cn ?_ ?_
   ·intro h; try exact nd h
    all_goals
     refine rBL ΦPA_ok  spE fun K' hK => ?_
     repeat' first | with_reducible apply And.intro | exact sd | exact sde spE | exact sdp spE | refine stk spE ?_ | fail
     refine yd hA ?_
     refine rgL ΦPA_ok spE ?_
     refine nx ?_
     refine yb hB ?_
     rcases hpu : puN r with n | _ | _
     all_goals
      refine rg ΦPA_ok [2, 3, 4, 6, 7] (And.intro hpu (And.intro puF spE)) ?_
      refine rg ΦPA_ok [2, 3, 4, 6, 19] (And.intro hpu (And.intro puF spE)) ?_
      refine cn ?_ ?_
      ·intro h; try exact nd h
       all_goals
        have hy := parseP_none (s := s) (by rw [← hpr]; (first | rw [idx_neg r [] out (by assumption), List.nil_append] | rw [hpi, List.nil_append]); (first | rw [wordP_syntax hpu] | rw [wordP_range hpu]))
        refine rg ΦPA_ok [2, 3] (And.intro hpu (And.intro puF spE)) ?_
        refine nx ?_
        refine rt spE ?_
        repeat' first | (refine lfL hK spE ?_; clear hK K') | with_reducible apply And.intro | exact sd | exact sde spE | exact sdp spE | refine stk spE ?_ | fail
        all_goals
         refine nx ?_
         refine rt (And.intro hpu (And.intro puF spE)) ?_
         refine yc ?_
         refine nx ?_
         refine pureK_r (pureS_one (l := 8) (by simp -implicitDefEqProofs only [go_sem]) ?_)
         exact fz hy
      ·intro h; try exact nd h
       all_goals
        refine rgL ΦPA_ok (And.intro hpu (And.intro puF spE)) ?_
        refine nx ?_
        refine rt spE ?_
        repeat' first | (refine lfL hK spE ?_; clear hK K') | with_reducible apply And.intro | exact sd | exact sde spE | exact sdp spE | refine stk spE ?_ | fail
        all_goals
         refine nx ?_
         refine rt (And.intro hpu (And.intro puF spE)) ?_
         refine ya ?_
         have hP : progA s [] [] = some (out ++ [n]) := by rw [← hpr, idx_neg r [] out (by assumption), List.nil_append, wordP_some hpu]
         have hL : (out ++ [n]).length ≤ s.length + 1 := by simp; omega
         simp only [numsD_take_len, numsD_snoc, show out.length + 1 = (out ++ [n]).length by simp]
         generalize out ++ [n] = L at *
         refine rg ΦPA_ok [0, 2, 3, 4, 8, 9] (And.intro hpu (And.intro puF spE)) ?_
         refine rB ΦPA_ok [2, 3, 4, 35] (And.intro hpu (And.intro puF spE)) fun K' hK => ?_
         repeat' first | (refine lf hK (And.intro hpu (And.intro puF spE)) ?_; clear hK K') | with_reducible apply And.intro | refine sA (And.intro hpu (And.intro puF spE)) (fun _ => ?_) fun _ => ?_ | refine sAb (And.intro hpu (And.intro puF spE)) (fun _ => ?_) fun _ => ?_ | refine sAl (And.intro hpu (And.intro puF spE)) (fun g => ?_) fun g => ?_ | exact sd | exact sde (And.intro hpu (And.intro puF spE)) | exact sdp (And.intro hpu (And.intro puF spE)) | refine stk (And.intro hpu (And.intro puF spE)) ?_ | fail
         all_goals
          refine cn ?_ ?_
          ·intro h; try exact nd h
           all_goals
            have hy := parseP_bad hP (by rintro ⟨h1, h2⟩; simp_all; done)
            refine rg ΦPA_ok [2, 3] (And.intro hpu (And.intro puF spE)) ?_
            refine nx ?_
            refine pureK_r (pureS_one (l := 8) (by simp -implicitDefEqProofs only [go_sem]) ?_)
            exact fz hy
          ·intro h; try exact nd h
           all_goals
            have hy := parseP_yes hP (by simp_all; done)
            refine rg ΦPA_ok [2, 3] (And.intro hpu (And.intro puF spE)) ?_
            refine nx ?_
            refine pureK_r (pureS_one (l := 8) (by simp -implicitDefEqProofs only [go_sem]) ?_)
            exact fz hy
   ·intro h; try exact nd h
    all_goals
     obtain ⟨i, hi, hil, hpi⟩ := idx_pos r [] out (by assumption)
     simp only [hi]
     refine rg ΦPA_ok [0, 1, 2, 3, 7, 8] spE ?_
     refine rB ΦPA_ok [0, 1, 2, 3, 7, 42] spE fun K' hK => ?_
     repeat' first | with_reducible apply And.intro | exact sd | exact sde spE | exact sdp spE | refine stk spE ?_ | fail
     refine yd hA ?_
     refine rgL ΦPA_ok spE ?_
     refine nx ?_
     refine yb hB ?_
     rcases hpu : puN (r.take i) with n | _ | _
     all_goals
      refine rg ΦPA_ok [2, 3, 4, 6, 7] (And.intro hpu (And.intro puF spE)) ?_
      refine rg ΦPA_ok [2, 3, 4, 6, 19] (And.intro hpu (And.intro puF spE)) ?_
      refine cn ?_ ?_
      ·intro h; try exact nd h
       all_goals
        have hy := parseP_none (s := s) (by rw [← hpr]; (first | rw [idx_neg r [] out (by assumption), List.nil_append] | rw [hpi, List.nil_append]); (first | rw [wordP_syntax hpu] | rw [wordP_range hpu]))
        refine rg ΦPA_ok [2, 3] (And.intro hpu (And.intro puF spE)) ?_
        refine nx ?_
        refine rt spE ?_
        repeat' first | (refine lf hK spE ?_; clear hK K') | with_reducible apply And.intro | exact sd | exact sde spE | exact sdp spE | refine stk spE ?_ | fail
        all_goals
         refine cn ?_ ?_
         ·intro h; try exact nd h
          all_goals
           refine nx ?_
           refine rt (And.intro hpu (And.intro puF spE)) ?_
           refine yc ?_
           refine nx ?_
           refine pureK_r (pureS_one (l := 8) (by simp -implicitDefEqProofs only [go_sem]) ?_)
           exact fz hy
         ·exact fun h => nd h
      ·intro h; try exact nd h
       all_goals
        refine rgL ΦPA_ok (And.intro hpu (And.intro puF spE)) ?_
        refine nx ?_
        refine rt spE ?_
        repeat' first | (refine lf hK spE ?_; clear hK K') | with_reducible apply And.intro | exact sd | exact sde spE | exact sdp spE | refine stk spE ?_ | fail
        all_goals
         refine cn ?_ ?_
         ·exact fun h => nd h
         intro h
         refine rgL ΦPA_ok spE ?_
         refine nx ?_
         refine ⟨(r.drop (i + 1), out ++ [n]), ⟨by simp only [List.length_drop, List.length_append, List.length_cons, List.length_nil]; omega, ?_⟩, Ent.to rfl rfl rfl ?_ ?_, by simp only [List.length_drop]; omega⟩
         ·dsimp only; rw [← hpr, hpi, List.nil_append, wordP_some hpu]
         ·simp -implicitDefEqProofs only [go_sem]; (try simp (disch := omega) only [i64_in, tmodn, tdivn]); (try simp only [D.dat.injEq, Vm.Data.int.injEq, true_and, and_true, and_self, eq_self]); (try omega); (try ((repeat' apply And.intro) <;> first | omega | rfl))
         ·apply all_at
          ·simp -implicitDefEqProofs only [go_sem]; first | done | exact rfl
          ·(repeat' (first | exact all_nil | (refine all_cons ?_ ?_))) <;> (simp -implicitDefEqProofs only [go_sem]; (try rfl); try first | rfl | (simp only [numsD_snoc]; done) | (simp; done) | (simp [numsD_snoc]; done) | (rw [take_rest2 r i hil (by omega)]; done) | (simp only [Int.natCast_one, take_rest]; done)))
end Go.Proofs.YtpajpkbipagjpaaGreatDoor.Oc
namespace Go.Proofs.YtpajpkbipagjpaaGreatDoor.Oc
open Go Go.RowKit Go.Proofs.YtpajpkbipagjpaaGreatDoor.Vm Go.Proofs.YtpajpkbipagjpaaGreatDoor.Tr Go.IntWalk
set_option maxRecDepth 100000
set_option maxHeartbeats 4000000
theorem knownP_len : knownP.length = 26 := by decide +kernel
theorem knownP_le : ∀ x ∈ knownP, x.1.length ≤ 100 ∧ x.2.length ≤ 100 := by decide +kernel
def kn (k : Nat) : List UInt8 := (knownP.getD k ([], [])).1
def kt (k : Nat) : List UInt8 := (knownP.getD k ([], [])).2
theorem kt_len (k : Nat) : (kt k).length ≤ 100 := by
 unfold kt
 rw [List.getD_eq_getElem?_getD]
 rcases Nat.lt_or_ge k knownP.length with h | h
 ·rw [List.getElem?_eq_getElem h]; exact (knownP_le _ (List.getElem_mem h)).2
 ·rw [List.getElem?_eq_none h]; simp
theorem knownCs_len : (knownCs knownP).length = 52 := by decide +kernel
theorem knownCs_take : (knownCs knownP).take 52 = knownCs knownP := List.take_of_length_le (by rw [knownCs_len]; exact Nat.le_refl _)
theorem knownCs_drop : ∀ (l : List (List UInt8 × List UInt8)) (k : Nat), (knownCs l).drop (k * 2) = knownCs (l.drop k)
 | l, 0 => by simp
 | [], k + 1 => by simp [knownCs]
 | x :: l, k + 1 => by
   rw [show (k + 1) * 2 = k * 2 + 2 by omega, List.drop_succ_cons, ← knownCs_drop l k]
   simp [knownCs]
theorem known_at {k : Nat} (h : k < 26) : ((knownCs knownP).drop (k * 2)).take 2 = [.str (kn k), .str (kt k)] := by
 rw [knownCs_drop]
 have hk : k < knownP.length := by rw [knownP_len]; exact h
 rw [List.drop_eq_getElem_cons hk]
 simp only [kn, kt, List.getD_eq_getElem?_getD, List.getElem?_eq_getElem hk, Option.getD_some, knownCs, List.flatMap_cons, List.cons_append, List.nil_append, List.take_succ_cons, List.take_zero]
theorem parseP_may {s : List UInt8} {l : List Nat} (h : parseP s = some l) : may l = true := by
 unfold parseP at h
 split at h
 ·split at h
  ·rename_i hm; injection h with h; subst h; exact hm.1
  ·cases h
 ·cases h
theorem parseP_len (s : List UInt8) : ((parseP s).getD []).length ≤ 20 := by
 cases h : parseP s with
 | none => simp
 | some l =>
   have := of_decide_eq_true (parseP_may h)
   simp only [Option.getD_some]; exact this.2.1
def namedP : List (List UInt8 × List UInt8) → List UInt8 → List UInt8
 | [], _ => []
 | x :: r, name => if x.1 = name then encO ((parseP x.2).getD []) else namedP r name
def nameP : List (List UInt8 × List UInt8) → List UInt8 → List UInt8
 | [], _ => []
 | x :: r, s => if x.2 = s then x.1 else nameP r s
theorem drop_known {k : Nat} (h : k < 26) : knownP.drop k = (kn k, kt k) :: knownP.drop (k + 1) := by
 have hk : k < knownP.length := by rw [knownP_len]; exact h
 rw [List.drop_eq_getElem_cons hk]
 simp only [kn, kt, List.getD_eq_getElem?_getD, List.getElem?_eq_getElem hk, Option.getD_some, List.flatMap_cons, List.cons_append, List.nil_append, List.take_succ_cons, List.take_zero]
theorem namedP_hit {k : Nat} {name : List UInt8} (h : k < 26) (h' : kn k = name) : namedP (knownP.drop k) name = encO ((parseP (kt k)).getD []) := by rw [drop_known h]; simp only [namedP, if_pos h']
theorem namedP_next {k : Nat} {name : List UInt8} (h : k < 26) (h' : ¬ kn k = name) : namedP (knownP.drop (k + 1)) name = namedP (knownP.drop k) name := by rw [drop_known h]; simp only [namedP, if_neg h']
def theText (b : List UInt8) : List UInt8 := if may ((readS b).getD []) = true then textS ((readS b).getD []) else []
def nameOf (b : List UInt8) : List UInt8 := if (readS b).isSome = true then nameP knownP (theText b) else []
theorem knE : (∀ k : Nat, k < 26 → ((knownCs knownP).drop (k * 2)).take 2 = [.str (kn k), .str (kt k)]) ∧ (knownCs knownP).length = 52 ∧ (knownCs knownP).take 52 = knownCs knownP := ⟨fun _ h => known_at h, knownCs_len, knownCs_take⟩
theorem named_hit {k : Nat} {name : List UInt8} (h : k < 26) (hc : namedP (knownP.drop k) name = namedP knownP name) (h' : kn k = name) : encO ((parseP (kt k)).getD []) = namedP knownP name := by rw [← hc, namedP_hit h h']
theorem named_end {k : Nat} {name : List UInt8} (h : 26 ≤ k) (hc : namedP (knownP.drop k) name = namedP knownP name) : namedP knownP name = [] := by rw [← hc, List.drop_of_length_le (by rw [knownP_len]; omega)]; rfl
noncomputable def ΦNA : Fns := tab [(104, parseF)]
theorem ΦNA_ok : Sound E ΦNA := sound_cons (by kernel_rfl) parse_ok (sound_nil)
@[go_sem] theorem ΦNA_r : ΦNA 104 = some parseF ∧ ΦNA 105 = none := ⟨rfl, rfl⟩
@[go_sem] theorem ΦNA_c : callable Tryz.prog 105 = true := by kernel_rfl
@[go_sem] noncomputable def namedO : OFn := OF [SS] (fun (s : List UInt8) => True) 5 1 (fun (s : List UInt8) => bytesD (namedP knownP s)) (fun (s : List UInt8) => [])
@[go_sem] noncomputable def namedF : PFn := namedO.shut
theorem named_own : Own E 55 namedO := Own.of_sig (rs := [.tmp 2]) (n := 30) Tryz.func55 rfl rfl rfl (Nat.le_of_ble_eq_true rfl) (by
 intro (s : List UInt8) hds
 refine st0 ?_
 refine rg ΦNA_ok [0] knE ?_
 refine rg ΦNA_ok [0, 9, 10] knE ?_
 refine nx ?_
 refine VC.loopP (ι := Nat) [0, 9] (fun i => [(10, .dat (.int .i64 (i : Int)))]) (fun _ => []) (fun i => i ≤ 26 ∧ namedP (knownP.drop i) s = namedP knownP s) (fun i => 26 - i) 0 (⟨Nat.zero_le _, rfl⟩) (et) ?_
 rintro i hp; try dsimp only at hp
 refine st0 ?_
 refine rg ΦNA_ok [0, 9, 10, 11] knE ?_
 refine cn ?_ ?_
 ·intro h; try exact nd h
  all_goals
   have hkt := kt_len i
   refine rg ΦNA_ok [0, 4, 9, 10] knE ?_
   refine rg ΦNA_ok [0, 4, 9, 10, 16] knE ?_
   refine cn ?_ ?_
   ·intro h; try exact nd h
    all_goals
     refine rg ΦNA_ok [5] knE ?_
     have hpl := parseP_len (kt i)
     refine rB ΦNA_ok [7] knE fun K' hK => ?_
     repeat' first | with_reducible apply And.intro | exact sd | exact sde knE | exact sdp knE | refine stk knE ?_ | fail
     refine oc bytes_own 2 knE ?_
     repeat' first | (refine lf hK knE ?_; clear hK K') | with_reducible apply And.intro | exact sd | exact sde knE | exact sdp knE | refine stk knE ?_ | fail
     have hy := named_hit (by omega) hp.2 (by assumption)
     refine rg ΦNA_ok [2] knE ?_
     exact fz hy
   ·intro h; try exact nd h
    all_goals
     refine rgL ΦNA_ok knE ?_
     refine nx ?_
     exact ⟨i + 1, ⟨by omega, by rw [namedP_next (by omega) (by assumption)]; exact hp.2⟩, et, by omega⟩
 ·intro h; try exact nd h
  all_goals
   have hy := named_end (by omega) hp.2
   refine rg ΦNA_ok [2] knE ?_
   exact fz hy)
theorem named_ok : Pure E 55 namedF := named_own.pure
end Go.Proofs.YtpajpkbipagjpaaGreatDoor.Oc
namespace Go.Proofs.YtpajpkbipagjpaaGreatDoor.Oc
open Go Go.RowKit Go.Proofs.YtpajpkbipagjpaaGreatDoor.Vm Go.Proofs.YtpajpkbipagjpaaGreatDoor.Tr Go.IntWalk
set_option maxRecDepth 100000
set_option maxHeartbeats 4000000
end Go.Proofs.YtpajpkbipagjpaaGreatDoor.Oc
namespace Go.Proofs.YtpajpkbipagjpaaGreatDoor.Oc
open Go Go.RowKit Go.Proofs.YtpajpkbipagjpaaGreatDoor.Vm Go.Proofs.YtpajpkbipagjpaaGreatDoor.Tr Go.IntWalk
set_option maxRecDepth 100000
set_option maxHeartbeats 4000000
theorem namedP_len : ∀ (l : List (List UInt8 × List UInt8)) (s : List UInt8), (namedP l s).length ≤ 200
 | [], s => by simp [namedP]
 | x :: r, s => by
   unfold namedP
   split
   ·exact encO_len _
   ·exact namedP_len r s
def namedB (s : List UInt8) : List UInt8 := namedP knownP s
theorem namedB_len (s : List UInt8) : (namedB s).length ≤ 200 := namedP_len _ s
noncomputable def ΦCN : Fns := tab [(55, namedF), (61, cprimF)]
theorem ΦCN_ok : Sound E ΦCN := sound_cons (by kernel_rfl) named_ok (sound_cons (by kernel_rfl) cprim_ok (sound_nil))
@[go_sem] theorem ΦCN_r : ΦCN 55 = some namedF ∧ ΦCN 61 = some cprimF := ⟨rfl, rfl⟩
@[go_sem] noncomputable def cnamedF : PFn := PF [SS] (fun (s : List UInt8) => True) (fun (s : List UInt8) => [nodeD (primT 6 (namedB s))])
theorem cnamed_ok : Pure E 59 cnamedF := Pure.of_sig (rs := [.cell 2 25]) (n := 6) Tryz.func59 rfl rfl rfl (Nat.le_of_ble_eq_true rfl) (by
 intro (s : List UInt8) hds
 have hl := namedB_len s
 refine st0 ?_
 refine rg ΦCN_ok [0, 2] (show namedP knownP s = namedB s from rfl) ?_
 refine rg ΦCN_ok [2] (show namedP knownP s = namedB s from rfl) ?_
 exact fz (show namedP knownP s = namedB s from rfl))
end Go.Proofs.YtpajpkbipagjpaaGreatDoor.Oc
namespace Go.Proofs.YtpajpkbipagjpaaGreatDoor.Oc
open Go Go.RowKit Go.Proofs.YtpajpkbipagjpaaGreatDoor.Vm Go.Proofs.YtpajpkbipagjpaaGreatDoor.Tr Go.IntWalk
set_option maxRecDepth 100000
set_option maxHeartbeats 4000000
def hashT (q : Int) (nl : Bool) : T := if sizeH q = 0 then T.zero else seqT (primT 6 (namedB (nameH q)) :: if nl then [primT 5 []] else [])
theorem zeroE : T.zero.cls = 0 ∧ T.zero.tag = 0 ∧ T.zero.cons = false ∧ T.zero.bytes = [] ∧ T.zero.kids = [] ∧ bytesD [] = [] ∧ nodesD [] = [] := ⟨rfl, rfl, rfl, rfl, rfl, rfl, nodesD_nil⟩
theorem hashT_no {q : Int} (nl : Bool) (h : sizeH q = 0) : hashT q nl = T.zero := if_pos h
theorem hashT_yes {q : Int} (nl : Bool) (h : ¬ sizeH q = 0) : hashT q nl = seqT (primT 6 (namedB (nameH q)) :: if nl then [primT 5 []] else []) := if_neg h
noncomputable def ΦHA : Fns := tab [(58, sizeF), (60, mnameF), (59, cnamedF), (61, cprimF), (62, cseqF)]
theorem ΦHA_ok : Sound E ΦHA := sound_cons (by kernel_rfl) size_ok (sound_cons (by kernel_rfl) mname_ok (sound_cons (by kernel_rfl) cnamed_ok (sound_cons (by kernel_rfl) cprim_ok (sound_cons (by kernel_rfl) cseq_ok (sound_nil)))))
@[go_sem] theorem ΦHA_r : ΦHA 58 = some sizeF ∧ ΦHA 60 = some mnameF ∧ ΦHA 59 = some cnamedF ∧ ΦHA 61 = some cprimF ∧ ΦHA 62 = some cseqF := ⟨rfl, rfl, rfl, rfl, rfl⟩
@[go_sem] noncomputable def halgF : PFn := PF [SI .i64, SB] (fun (q : Int) (nl : Bool) => True) (fun (q : Int) (nl : Bool) => [nodeD (hashT q nl), .int .i64 (if sizeH q = 0 then 200 else 0)])
theorem halg_ok : Pure E 11 halgF := Pure.of_sig (rs := [.cell 4 25, .tmp 5]) (n := 22) Tryz.func11 rfl rfl rfl (Nat.le_of_ble_eq_true rfl) (by
 intro (q : Int) (nl : Bool) hds
 have hl := namedB_len (nameH q)
 refine st0 ?_
 refine rg ΦHA_ok [0, 1, 4] szE ?_
 refine rg ΦHA_ok [0, 1, 4, 9] szE ?_
 refine cn ?_ ?_
 ·intro h; try exact nd h
  all_goals
   have hz : sizeH q = 0 := by assumption
   have hy := And.intro (hashT_no nl hz) (And.intro hz zeroE)
   refine rg ΦHA_ok [4, 5] szE ?_
   exact fz hy
 ·intro h; try exact nd h
  all_goals
   have hz : ¬ sizeH q = 0 := by assumption
   have hy := And.intro (hashT_yes nl hz) hz
   refine rg ΦHA_ok [1, 4, 6] szE ?_
   refine rg ΦHA_ok [4, 6, 15] szE ?_
   refine cn ?_ ?_
   ·intro h; try exact nd h
    all_goals
     refine rgL ΦHA_ok szE ?_
     first | subst (by assumption : nl = true) | subst (by assumption : nl = false)
     simp only [if_true, Bool.false_eq_true, if_false] at hy
     refine rg ΦHA_ok [4, 5] szE ?_
     exact fz hy
   ·intro h; try exact nd h
    all_goals
     first | subst (by assumption : nl = true) | subst (by assumption : nl = false)
     simp only [if_true, Bool.false_eq_true, if_false] at hy
     refine rg ΦHA_ok [4, 5] szE ?_
     exact fz hy)
end Go.Proofs.YtpajpkbipagjpaaGreatDoor.Oc
namespace Go.Proofs.YtpajpkbipagjpaaGreatDoor.Oc
open Go Go.RowKit Go.Proofs.YtpajpkbipagjpaaGreatDoor.Vm Go.Proofs.YtpajpkbipagjpaaGreatDoor.Tr Go.IntWalk
set_option maxRecDepth 100000
set_option maxHeartbeats 4000000
def byI (n : Int) : UInt8 := UInt8.ofNat (n % 256).toNat
def intR : Nat → Int → List UInt8 → List UInt8
 | 0, _, out => out
 | f + 1, n, out => if n / 128 = 0 ∨ n / 128 = -1 then out else intR f (n / 256) (byI (n / 256) :: out)
def intB (n : Int) : List UInt8 := intR 8 n [byI n]
def inB (k : Nat) : Int := [9223372036854775808, 36028797018963968, 140737488355328, 549755813888, 2147483648, 8388608, 32768, 128, 1].getD k 1
theorem inB_le {k : Nat} {m : Int} (hk : k ≤ 8) (h0 : -(inB k) ≤ m) (h1 : m < inB k) (h : ¬ (m / 128 = 0 ∨ m / 128 = -1)) : k < 8 ∧ -(inB (k + 1)) ≤ m / 256 ∧ m / 256 < inB (k + 1) := by
 have : k = 0 ∨ k = 1 ∨ k = 2 ∨ k = 3 ∨ k = 4 ∨ k = 5 ∨ k = 6 ∨ k = 7 ∨ k = 8 := by omega
 rcases this with rfl | rfl | rfl | rfl | rfl | rfl | rfl | rfl | rfl <;> simp [inB] at h0 h1 ⊢ <;> omega
theorem inB_in {k : Nat} {m : Int} (hk : k ≤ 8) (h0 : -(inB k) ≤ m) (h1 : m < inB k) : -9223372036854775808 ≤ m ∧ m < 9223372036854775808 := by
 have : k = 0 ∨ k = 1 ∨ k = 2 ∨ k = 3 ∨ k = 4 ∨ k = 5 ∨ k = 6 ∨ k = 7 ∨ k = 8 := by omega
 rcases this with rfl | rfl | rfl | rfl | rfl | rfl | rfl | rfl | rfl <;> simp [inB] at h0 h1 <;> omega
theorem intR_stop {f : Nat} {m : Int} {out : List UInt8} (h : m / 128 = 0 ∨ m / 128 = -1) : intR f m out = out := by
 cases f with
 | zero => rfl
 | succ f => rw [intR, if_pos h]
theorem intR_step {k : Nat} {m : Int} {out : List UInt8} (hk : k < 8) (h : ¬ (m / 128 = 0 ∨ m / 128 = -1)) : intR (8 - (k + 1)) (m / 256) (byI (m / 256) :: out) = intR (8 - k) m out := by
 rw [show 8 - k = (8 - (k + 1)) + 1 by omega, intR, if_neg h]
theorem intR_len : ∀ (f : Nat) (m : Int) (out : List UInt8), (intR f m out).length ≤ f + out.length
 | 0, _, out => by simp [intR]
 | f + 1, m, out => by
   rw [intR]
   split
   ·omega
   ·have := intR_len f (m / 256) (byI (m / 256) :: out); simp only [List.length_cons] at this; omega
theorem intB_len (n : Int) : (intB n).length ≤ 9 := intR_len 8 n _
theorem wrap8 (n : Int) : IntKind.u8.wrap n = ((byI n).toNat : Int) := by
 rw [IntKind.wrap_u8]; unfold byI; rw [UInt8.toNat_ofNat']; omega
theorem shrI (m : Int) : m.fdiv (2 ^ min (7 : Int).toNat 64) = m / 128 ∧ m.fdiv (2 ^ min (8 : Int).toNat 64) = m / 256 := ⟨Int.fdiv_eq_ediv_of_nonneg _ (by decide), Int.fdiv_eq_ediv_of_nonneg _ (by decide)⟩
theorem byI_cons (x : UInt8) (l : List UInt8) : [Vm.Data.int .u8 (x.toNat : Int)] :: bytesD l = bytesD (x :: l) := rfl
theorem inE : (∀ n : Int, IntKind.u8.wrap n = ((byI n).toNat : Int)) ∧ (∀ m : Int, m.fdiv (2 ^ min (7 : Int).toNat 64) = m / 128) ∧ (∀ m : Int, m.fdiv (2 ^ min (8 : Int).toNat 64) = m / 256) ∧ (∀ m : Int, m.fdiv 128 = m / 128) ∧ (∀ m : Int, m.fdiv 256 = m / 256) ∧
 (∀ x : UInt8, [[Vm.Data.int .u8 (x.toNat : Int)]] = bytesD [x]) ∧ ∀ (x : UInt8) (l : List UInt8), [Vm.Data.int .u8 (x.toNat : Int)] :: bytesD l = bytesD (x :: l) :=
 ⟨wrap8, fun m => (shrI m).1, fun m => (shrI m).2, fun m => Int.fdiv_eq_ediv_of_nonneg _ (by decide), fun m => Int.fdiv_eq_ediv_of_nonneg _ (by decide), fun _ => rfl, byI_cons⟩
noncomputable def ΦTI : Fns := tab [(109, primF)]
theorem ΦTI_ok : Sound E ΦTI := sound_cons (by kernel_rfl) prim_ok (sound_nil)
@[go_sem] theorem ΦTI_r : ΦTI 109 = some primF := rfl
@[go_sem] noncomputable def tintF : PFn := PF [SI .i64] (fun (n : Int) => -9223372036854775808 ≤ n ∧ n < 9223372036854775808) (fun (n : Int) => [nodeD (primT 2 (intB n))])
theorem tint_ok : Pure E 67 tintF := Pure.of_sig (rs := [.cell 2 25]) (n := 24) Tryz.func67 rfl rfl rfl (Nat.le_of_ble_eq_true rfl) (by
 intro (n : Int) hds
 obtain ⟨hn0, hn1⟩ := hds
 have hbl := intB_len n
 refine st0 ?_
 refine rg ΦTI_ok [0, 2] inE ?_
 refine rg ΦTI_ok [0, 2, 3] inE ?_
 refine nx ?_
 refine VC.loopP (ι := Nat × Int × List UInt8) [2] (fun i => [(0, .dat (.int .i64 i.2.1)), (3, .sl 2 0 i.2.2.length)]) (fun i => [(1, .cells [.dat (.int .i64 0), .dat (.int .i64 0), .dat (.bool false), .nilsl, .nilsl] false), (2, .arr 5 1 (bytesD i.2.2) 0)]) (fun i => i.1 ≤ 8 ∧ -(inB i.1) ≤ i.2.1 ∧ i.2.1 < inB i.1 ∧ i.2.2.length = i.1 + 1 ∧ intR (8 - i.1) i.2.1 i.2.2 = intB n) (fun i => 8 - i.1) (0, n, [byI n]) ⟨Nat.zero_le _, by simp [inB]; omega, by simp [inB]; omega, rfl, rfl⟩ ?_ ?_
 ·refine Ent.to rfl rfl rfl ?_ ?_
  ·simp -implicitDefEqProofs only [go_sem, inE]; (try simp only [D.dat.injEq, Vm.Data.int.injEq, true_and, and_true, and_self, eq_self]); (try omega); (try ((repeat' apply And.intro) <;> first | omega | rfl))
  ·(repeat' (first | exact all_nil | (refine all_cons ?_ ?_))) <;> (simp -implicitDefEqProofs only [go_sem]; (try rfl); (try simp only [inE]); try rfl)
 rintro ⟨k, m, out⟩ hp; (try dsimp only at hp); obtain ⟨hk, h0, h1, hl, hc⟩ := hp
 have hi := inB_in hk h0 h1
 refine st0 ?_
 refine rB ΦTI_ok [0, 2, 3, 14] inE fun K' hK => ?_
 repeat' first | (refine lf hK inE ?_; clear hK K') | with_reducible apply And.intro | refine sA inE (fun _ => ?_) fun _ => ?_ | refine sAb inE (fun _ => ?_) fun _ => ?_ | refine sAl inE (fun g => ?_) fun g => ?_ | exact sd | exact sde inE | exact sdp inE | refine stk inE ?_ | fail
 all_goals
  refine cn ?_ ?_
  ·intro h; try exact nd h
   all_goals
    have hz : ¬ (m / 128 = 0 ∨ m / 128 = -1) := by simp only [Bool.not_eq_eq_eq_not, Bool.not_true, Bool.not_false, decide_eq_false_iff_not, decide_eq_true_eq] at *; omega
    refine rg ΦTI_ok [0, 2, 3] inE ?_
    refine rgL ΦTI_ok inE ?_
    refine nx ?_
    have hb := inB_le hk h0 h1 hz
    refine ⟨(k + 1, m / 256, byI (m / 256) :: out), ⟨by omega, hb.2.1, hb.2.2, by simp only [List.length_cons]; omega, ?_⟩, ?_, by dsimp only; omega⟩
    ·dsimp only; rw [intR_step hb.1 hz]; exact hc
    ·refine (Ent.move 3 3 2 (by simp -implicitDefEqProofs only [go_sem]; try decide) (by simp -implicitDefEqProofs only [go_sem]; try decide) (by simp -implicitDefEqProofs only [go_sem]; exact rfl) (by simp -implicitDefEqProofs only [go_sem]; exact rfl)).trans (Ent.to rfl rfl rfl ?_ ?_)
     ·simp -implicitDefEqProofs only [go_sem]; (try simp only [List.length_cons, Nat.add_comm 1]); (try simp only [D.dat.injEq, Vm.Data.int.injEq, true_and, and_true, and_self, eq_self]); (try omega); (try ((repeat' apply And.intro) <;> first | omega | rfl))
     ·(repeat' (first | exact all_nil | (refine all_cons ?_ ?_))) <;> (simp -implicitDefEqProofs only [go_sem]; (try rfl); try rfl)
  ·intro h; try exact nd h
   all_goals
    have hz : m / 128 = 0 ∨ m / 128 = -1 := by simp only [Bool.not_eq_eq_eq_not, Bool.not_true, Bool.not_false, decide_eq_false_iff_not, decide_eq_true_eq] at *; omega
    have hy := (intR_stop (f := 8 - k) (out := out) hz).symm.trans hc
    have ho : out.length ≤ 9 := by omega
    refine rg ΦTI_ok [2] inE ?_
    exact fz hy)
end Go.Proofs.YtpajpkbipagjpaaGreatDoor.Oc
