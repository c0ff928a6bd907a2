/- What functions of the program, of its library and of the document compute: their contracts, and laws about what they compute (X11). No condition. -/
import Derived.Test.YtpajpkbipagjpaaGreatDoorX10
import Derived.Test.YtpajpkbipagjpaaGreatDoorX05
import Derived.Test.YtpajpkbipagjpaaGreatDoorX06
set_option linter.unusedVariables false
set_option linter.unusedSimpArgs false
namespace Go.Proofs.YtpajpkbipagjpaaGreatDoor.Oc
open Go Go.RowKit Go.Proofs.YtpajpkbipagjpaaGreatDoor.Vm Go.Proofs.YtpajpkbipagjpaaGreatDoor.Tr Go.IntWalk
set_option maxRecDepth 100000
set_option maxHeartbeats 4000000
def firstB (t : T) : List UInt8 := (t.kids.getD 0 T.zero).bytes
def rdH (t : T) : Int := namedH (nameOf (firstB t))
def rdN (t : T) : Bool := decide ((1 : Int) < (t.kids.length : Int))
def rdOk (t : T) : Bool := decide (¬ sizeH (rdH t) = 0 ∧ hashT (rdH t) (rdN t) = t)
theorem rdH_nil {t : T} (h : (t.kids.length : Int) = 0) : namedH (nameOf []) = rdH t := by
 unfold rdH firstB; rw [List.eq_nil_of_length_eq_zero (show t.kids.length = 0 by omega)]; rfl
theorem rdNo {t : T} (h : (!decide ((if sizeH (rdH t) = 0 then 200 else 0 : Int) = 0)) = true ∨ ¬ hashT (rdH t) (rdN t) = t) : rdOk t = false := by
 apply decide_eq_false
 rintro ⟨h1, h2⟩
 rcases h with h | h
 ·rw [if_neg h1] at h; exact absurd h (by decide)
 ·exact h h2
theorem rdYes {t : T} (h : (!decide ((if sizeH (rdH t) = 0 then 200 else 0 : Int) = 0)) = false) (h2 : hashT (rdH t) (rdN t) = t) : rdOk t = true := by
 refine decide_eq_true ⟨fun h1 => ?_, h2⟩
 rw [if_pos h1] at h; exact absurd h (by decide)
theorem firstB_len (t : T) : (firstB t).length ≤ t.sz := by
 unfold firstB
 rcases Nat.eq_zero_or_pos t.kids.length with h | h
 ·rw [List.eq_nil_of_length_eq_zero h]; simp [T.zero, T.bytes]
 ·have h1 := kid_lt (t := t) (i := 0) h
  have h2 := T.sz_eq (t.kids.getD 0 T.zero)
  omega
noncomputable def ΦRH : Fns := tab [(75, onameF), (74, mnamedF), (11, halgF), (76, same0F)]
theorem ΦRH_ok : Sound E ΦRH := sound_cons (by kernel_rfl) oname_ok (sound_cons (by kernel_rfl) mnamed_ok (sound_cons (by kernel_rfl) halg_ok (sound_cons (by kernel_rfl) same0_ok (sound_nil))))
@[go_sem] theorem ΦRH_r : ΦRH 75 = some onameF ∧ ΦRH 74 = some mnamedF ∧ ΦRH 11 = some halgF ∧ ΦRH 76 = some same0F ∧ ΦRH 72 = none ∧ ΦRH 73 = none := ⟨rfl, rfl, rfl, rfl, rfl, rfl⟩
@[go_sem] theorem ΦRH_c : callable Tryz.prog 72 = true ∧ callable Tryz.prog 73 = true := ⟨by kernel_rfl, by kernel_rfl⟩
@[go_sem] noncomputable def rdhalgF : PFn := PF [ST] (fun (t : T) => t.sz ≤ 90000) (fun (t : T) => [.int .i64 (if rdOk t then rdH t else 0), .bool (if rdOk t then rdN t else false), .int .i64 (if rdOk t then 0 else 200)])
theorem rdhalg_ok : Pure E 17 rdhalgF := Pure.of_sig (rs := [.tmp 2, .tmp 3, .tmp 4]) (n := 36) Tryz.func17 rfl rfl rfl (Nat.le_of_ble_eq_true rfl) (by
 intro (t : T) hds
 have hb := firstB_len t
 have hb2 : (t.kids.getD 0 T.zero).bytes.length ≤ t.sz := hb
 have hkl := kids_len t
 refine st0 ?_
 refine rg ΦRH_ok [1] trE ?_
 refine rB ΦRH_ok [1, 5] trE fun K' hK => ?_
 repeat' first | with_reducible apply And.intro | exact sd | exact sde trE | exact sdp trE | refine stk trE ?_ | fail
 refine ec (rs := [.tmp 2]) (n := 7) Tryz.func72 rfl rfl rfl ?_
 refine rg ΦRH_ok [1] trivial ?_
 refine rg ΦRH_ok [2] trivial ?_
 refine nx ?_
 refine rt trE ?_
 repeat' first | (refine lf hK trE ?_; clear hK K') | with_reducible apply And.intro | exact sd | exact sde trE | exact sdp trE | refine stk trE ?_ | fail
 all_goals
  refine rB ΦRH_ok [1, 2] trE fun K' hK => ?_
  repeat' first | with_reducible apply And.intro | exact sd | exact sde trE | exact sdp trE | refine stk trE ?_ | fail
  refine ec (rs := [.cell 2 25]) (n := 26) Tryz.func73 rfl rfl rfl ?_
  refine rg ΦRH_ok [0, 2] trE ?_
  refine rg ΦRH_ok [0, 2, 9] trE ?_
  refine cn ?_ ?_
  ·intro h; try exact nd h
   all_goals
    refine rg ΦRH_ok [2] trE ?_
    refine nx ?_
    refine rt trE ?_
    repeat' first | (refine lf hK trE ?_; clear hK K') | with_reducible apply And.intro | exact sd | exact sde trE | exact sdp trE | refine stk trE ?_ | fail
    all_goals
     first
     | rw [rdH_nil (by assumption)]
     | rw [show namedH (nameOf (t.kids.getD 0 T.zero).bytes) = rdH t from rfl]
     refine rg ΦRH_ok [1, 2, 3] trE ?_
     rw [show decide ((1 : Int) < (t.kids.length : Int)) = rdN t from rfl]
     refine rg ΦRH_ok [1, 2, 3, 6, 7] trE ?_
     have hsz := hashT_sz (rdH t) (rdN t)
     refine rB ΦRH_ok [2, 3, 33] trE fun K' hK => ?_
     repeat' first | (refine lf hK trE ?_; clear hK K') | with_reducible apply And.intro | refine sA trE (fun _ => ?_) fun _ => ?_ | refine sAb trE (fun _ => ?_) fun _ => ?_ | refine sAl trE (fun g => ?_) fun g => ?_ | exact sd | exact sde trE | exact sdp trE | refine stk trE ?_ | fail
     all_goals
      refine cn ?_ ?_
      ·intro h; try exact nd h
       all_goals
        have hy := rdNo (by first | exact .inl (by assumption) | exact .inr (by assumption))
        refine rg ΦRH_ok [2, 3, 4] trE ?_
        exact fz hy
      ·intro h; try exact nd h
       all_goals
        have hy := rdYes (by assumption) (by assumption)
        refine rg ΦRH_ok [2, 3, 4] trE ?_
        exact fz hy
  ·intro h; try exact nd h
   all_goals
    refine rg ΦRH_ok [0, 2, 3] trE ?_
    refine rg ΦRH_ok [2, 3] trE ?_
    refine rg ΦRH_ok [2] trE ?_
    refine nx ?_
    refine rt trE ?_
    repeat' first | (refine lf hK trE ?_; clear hK K') | with_reducible apply And.intro | exact sd | exact sde trE | exact sdp trE | refine stk trE ?_ | fail
    all_goals
     first
     | rw [rdH_nil (by assumption)]
     | rw [show namedH (nameOf (t.kids.getD 0 T.zero).bytes) = rdH t from rfl]
     refine rg ΦRH_ok [1, 2, 3] trE ?_
     rw [show decide ((1 : Int) < (t.kids.length : Int)) = rdN t from rfl]
     refine rg ΦRH_ok [1, 2, 3, 6, 7] trE ?_
     have hsz := hashT_sz (rdH t) (rdN t)
     refine rB ΦRH_ok [2, 3, 33] trE fun K' hK => ?_
     repeat' first | (refine lf hK trE ?_; clear hK K') | with_reducible apply And.intro | refine sA trE (fun _ => ?_) fun _ => ?_ | refine sAb trE (fun _ => ?_) fun _ => ?_ | refine sAl trE (fun g => ?_) fun g => ?_ | exact sd | exact sde trE | exact sdp trE | refine stk trE ?_ | fail
     all_goals
      refine cn ?_ ?_
      ·intro h; try exact nd h
       all_goals
        have hy := rdNo (by first | exact .inl (by assumption) | exact .inr (by assumption))
        refine rg ΦRH_ok [2, 3, 4] trE ?_
        exact fz hy
      ·intro h; try exact nd h
       all_goals
        have hy := rdYes (by assumption) (by assumption)
        refine rg ΦRH_ok [2, 3, 4] trE ?_
        exact fz hy)
end Go.Proofs.YtpajpkbipagjpaaGreatDoor.Oc
namespace Go.Proofs.YtpajpkbipagjpaaGreatDoor.Oc
open Go Go.RowKit Go.Proofs.YtpajpkbipagjpaaGreatDoor.Vm Go.Proofs.YtpajpkbipagjpaaGreatDoor.Tr Go.IntWalk
set_option maxRecDepth 100000
set_option maxHeartbeats 4000000
def goodB (t : T) : Bool := decide (t.cls = 0) && ((t.cons && (decide (t.bytes = []) && decide (t.tag = 16 ∨ t.tag = 17))) || (!t.cons && (decide (t.kids = []) && (decide (t.tag = 5 ∧ t.bytes = []) || (decide (t.tag = 6) && oidB t.bytes)))))
theorem goodB_ok {t : T} (h : goodB t = true) : goodN t := by
 unfold goodB at h
 simp only [Bool.and_eq_true, Bool.or_eq_true, decide_eq_true_eq, Bool.not_eq_eq_eq_not, Bool.not_true] at h
 exact h
def smallB (t : T) : Bool := t.all.all goodB && (decide (dep t ≤ 24) && (decide (t.all.length ≤ 4000) && (decide (t.sz ≤ 100) && t.all.all fun x => !(decide (x.cls = 0 ∧ x.tag = 17)))))
theorem smallB_ok {t : T} (h : smallB t = true) : smallT t := by
 unfold smallB at h
 simp only [Bool.and_eq_true, List.all_eq_true, decide_eq_true_eq, Bool.not_eq_eq_eq_not, Bool.not_true, decide_eq_false_iff_not] at h
 obtain ⟨h1, h2, h3, h4, h5⟩ := h
 exact ⟨⟨fun x hx => goodB_ok (h1 x hx), h2, h3, by omega⟩, h4, fun x hx => h5 x hx⟩
theorem dec_rfl {α : Type} [DecidableEq α] (a : α) : decide (a = a) = true := decide_eq_true rfl
theorem enc_pos (t : T) : 0 < (encT t).length := by rw [encT_len]; omega
noncomputable def ΦTD : Fns := tab [(37, encodeF), (101, hexcF)]
theorem ΦTD_ok : Sound E ΦTD := sound_cons (by kernel_rfl) encode_ok (sound_cons (by kernel_rfl) hexc_ok (sound_nil))
@[go_sem] theorem ΦTD_r : ΦTD 37 = some encodeF ∧ ΦTD 101 = some hexcF := ⟨rfl, rfl⟩
@[go_sem] noncomputable def told1F : PFn := PF [ST, SI .i64, SS] (fun (t : T) (e : Int) (s : List UInt8) => e = 0 ∧ smallT t ∧ hexS (encT t) = s) (fun (t : T) (e : Int) (s : List UInt8) => [.bool true])
theorem told1_ok : Pure E 39 told1F := Pure.of_sig (rs := [.tmp 6]) (n := 26) Tryz.func39 rfl rfl rfl (Nat.le_of_ble_eq_true rfl) (by
 intro (t : T) (e : Int) (s : List UInt8) hds
 obtain ⟨rfl, hs, rfl⟩ := hds
 have hen := enc_le (t := t) (by have := hs.2.1; omega)
 have hep := enc_pos t
 have hs1 := hs.2.1
 have hE := And.intro hs (dec_rfl (hexS (encT t)))
 refine st0 ?_
 refine rg ΦTD_ok [1, 2, 3] hE ?_
 refine rg ΦTD_ok [1, 2, 7, 8] hE ?_
 refine rB ΦTD_ok [6] hE fun K' hK => ?_
 repeat' first | (refine lf hK hE ?_; clear hK K') | with_reducible apply And.intro | refine sA hE (fun _ => ?_) fun _ => ?_ | refine sAb hE (fun _ => ?_) fun _ => ?_ | refine sAl hE (fun g => ?_) fun g => ?_ | exact sd | exact sde hE | exact sdp hE | refine stk hE ?_ | fail
 all_goals
  exact fz hE)
def ahx1 : List UInt8 := [51, 48, 48, 100, 48, 54, 48, 57, 54, 48, 56, 54, 52, 56, 48, 49, 54, 53, 48, 51, 48, 52, 48, 50, 48, 49, 48, 53, 48, 48]
def ahx2 : List UInt8 := [51, 48, 48, 98, 48, 54, 48, 57, 54, 48, 56, 54, 52, 56, 48, 49, 54, 53, 48, 51, 48, 52, 48, 50, 48, 49]
def ahx3 : List UInt8 := [51, 48, 48, 100, 48, 54, 48, 57, 50, 97, 56, 54, 52, 56, 56, 54, 102, 55, 48, 100, 48, 49, 48, 49, 48, 98, 48, 53, 48, 48]
theorem al1 : smallT (hashT 2 true) ∧ hexS (encT (hashT 2 true)) = ahx1 ∧ sizeH 2 = 32 := ⟨smallB_ok (by decide +kernel), by decide +kernel, rfl⟩
theorem al2 : smallT (hashT 2 false) ∧ hexS (encT (hashT 2 false)) = ahx2 := ⟨smallB_ok (by decide +kernel), by decide +kernel⟩
theorem al3 : smallT (signT 1 2) ∧ hexS (encT (signT 1 2)) = ahx3 ∧ signE 1 2 = 0 := ⟨smallB_ok (by decide +kernel), by decide +kernel, by decide +kernel⟩
noncomputable def ΦAL : Fns := tab [(11, halgF), (13, salgF), (39, told1F)]
theorem ΦAL_ok : Sound E ΦAL := sound_cons (by kernel_rfl) halg_ok (sound_cons (by kernel_rfl) salg_ok (sound_cons (by kernel_rfl) told1_ok (sound_nil)))
@[go_sem] theorem ΦAL_r : ΦAL 11 = some halgF ∧ ΦAL 13 = some salgF ∧ ΦAL 39 = some told1F := ⟨rfl, rfl, rfl⟩
@[go_sem] noncomputable def aliveF : PFn := PF [] (True) ([.bool true])
theorem alive_ok : Pure E 30 aliveF := Pure.of_sig (rs := [.tmp 0]) (n := 32) Tryz.func30 rfl rfl rfl (Nat.le_of_ble_eq_true rfl) (by
 intro hds
 have hE := And.intro al1 (And.intro al2 al3)
 unfold ahx1 ahx2 ahx3 at hE
 refine st0 ?_
 refine rg ΦAL_ok [] hE ?_
 refine rg ΦAL_ok [1, 2] hE ?_
 refine rg ΦAL_ok [1, 2, 3, 4] hE ?_
 refine rg ΦAL_ok [1, 2, 3, 4, 5, 6] hE ?_
 refine rB ΦAL_ok [0] hE fun K' hK => ?_
 repeat' first | (refine lf hK hE ?_; clear hK K') | with_reducible apply And.intro | refine sA hE (fun _ => ?_) fun _ => ?_ | refine sAb hE (fun _ => ?_) fun _ => ?_ | refine sAl hE (fun g => ?_) fun g => ?_ | exact sd | exact sde hE | exact sdp hE | refine stk hE ?_ | fail
 all_goals
  exact fz hE)
end Go.Proofs.YtpajpkbipagjpaaGreatDoor.Oc
namespace Go.Proofs.YtpajpkbipagjpaaGreatDoor.Oc
open Go Go.RowKit Go.Proofs.YtpajpkbipagjpaaGreatDoor.Vm Go.Proofs.YtpajpkbipagjpaaGreatDoor.Tr Go.IntWalk
set_option maxRecDepth 100000
set_option maxHeartbeats 4000000
def c8 (b : List UInt8) (k : Nat) : Nat := (b.getD k 0).toNat
def ch8 (b : List UInt8) : Nat :=
 if b.length = 0 then 0
 else if c8 b 0 < 128 then 1
 else if 194 ≤ c8 b 0 ∧ c8 b 0 ≤ 223 then (if 2 ≤ b.length ∧ 128 ≤ c8 b 1 ∧ c8 b 1 ≤ 191 then 2 else 0)
 else if 224 ≤ c8 b 0 ∧ c8 b 0 ≤ 239 then (if 3 ≤ b.length ∧ (if c8 b 0 = 224 then 160 else 128) ≤ c8 b 1 ∧ c8 b 1 ≤ (if c8 b 0 = 237 then 159 else 191) ∧ 128 ≤ c8 b 2 ∧ c8 b 2 ≤ 191 then 3 else 0)
 else if 240 ≤ c8 b 0 ∧ c8 b 0 ≤ 244 then (if 4 ≤ b.length ∧ (if c8 b 0 = 240 then 144 else 128) ≤ c8 b 1 ∧ c8 b 1 ≤ (if c8 b 0 = 244 then 143 else 191) ∧ 128 ≤ c8 b 2 ∧ c8 b 2 ≤ 191 ∧ 128 ≤ c8 b 3 ∧ c8 b 3 ≤ 191 then 4 else 0)
 else 0
theorem ch8_le (b : List UInt8) : ch8 b ≤ b.length ∧ ch8 b ≤ 4 := by
 unfold ch8
 (repeat' split) <;> omega
def vld : Nat → List UInt8 → Bool
 | 0, b => decide (b.length = 0)
 | f + 1, b => if b.length = 0 then true else if ch8 b = 0 then false else vld f (b.drop (ch8 b))
def validB (b : List UInt8) : Bool := vld b.length b
theorem vld_more : ∀ (f g : Nat) (b : List UInt8), b.length ≤ f → b.length ≤ g → vld f b = vld g b
 | 0, 0, b, h1, h2 => rfl
 | 0, g + 1, b, h1, h2 => by
   rw [vld, vld, if_pos (show b.length = 0 by omega)]; exact decide_eq_true (by omega)
 | f + 1, 0, b, h1, h2 => by
   rw [vld, vld, if_pos (show b.length = 0 by omega)]; exact (decide_eq_true (by omega)).symm
 | f + 1, g + 1, b, h1, h2 => by
   rw [vld, vld]
   split
   ·rfl
   ·split
    ·rfl
    ·exact vld_more f g _ (by rw [List.length_drop]; omega) (by rw [List.length_drop]; omega)
theorem validB_nil {b : List UInt8} (h : b.length = 0) : validB b = true := by
 unfold validB; rw [h, vld]; exact decide_eq_true h
theorem validB_bad {b : List UInt8} (h : ¬ b.length = 0) (hc : ch8 b = 0) : validB b = false := by
 unfold validB
 obtain ⟨n, hn⟩ : ∃ n, b.length = n + 1 := ⟨b.length - 1, by omega⟩
 rw [hn, vld, if_neg h, if_pos hc]
theorem validB_step {b : List UInt8} {k : Nat} (hk : 0 < k) (hc : ch8 b = k) : validB (b.drop k) = validB b := by
 have hl := (ch8_le b).1
 unfold validB
 obtain ⟨n, hn⟩ : ∃ n, b.length = n + 1 := ⟨b.length - 1, by omega⟩
 rw [hn, vld, if_neg (show ¬ b.length = 0 by omega), if_neg (show ¬ ch8 b = 0 by omega), hc]
 exact vld_more _ _ _ (Nat.le_refl _) (by rw [List.length_drop]; omega)
theorem validB_asc : ∀ (k : Nat) (b : List UInt8), k ≤ b.length → (∀ x ∈ b.take k, x.toNat < 128) → validB (b.drop k) = validB b
 | 0, b, _, _ => rfl
 | k + 1, b, h, ha => by
   have h1 : ch8 b = 1 := by
    unfold ch8
    rw [if_neg (by omega), if_pos]
    unfold c8
    match b, h with
    | x :: r, _ => exact ha x (by simp)
   rw [show k + 1 = 1 + k by omega, ← List.drop_drop, validB_asc k (b.drop 1) (by rw [List.length_drop]; omega) ?_]
   ·exact validB_step (by omega) h1
   ·intro x hx
    refine ha x ?_
    match b, h with
    | y :: r, _ => simp only [List.drop_succ_cons, List.drop_zero] at hx; simp only [List.take_succ_cons, List.mem_cons]; exact .inr hx
end Go.Proofs.YtpajpkbipagjpaaGreatDoor.Oc
namespace Go.Proofs.YtpajpkbipagjpaaGreatDoor.Oc
open Go Go.RowKit Go.Proofs.YtpajpkbipagjpaaGreatDoor.Vm Go.Proofs.YtpajpkbipagjpaaGreatDoor.Tr Go.IntWalk
set_option maxRecDepth 100000
set_option maxHeartbeats 4000000
def rdI (t : T) : Nat → Nat → Option Nat
 | 0, _ => none
 | f + 1, i => if signT ((1 + i / 4 : Nat) : Int) ((1 + i % 4 : Nat) : Int) = t then some i else rdI t f (i + 1)
def rdSW (t : T) : Int := match rdI t 8 0 with
 | some i => ((1 + i / 4 : Nat) : Int)
 | none => 0
def rdSH (t : T) : Int := match rdI t 8 0 with
 | some i => ((1 + i % 4 : Nat) : Int)
 | none => 0
def rdSE (t : T) : Int := match rdI t 8 0 with
 | some _ => 0
 | none => 200
def rdAt (t : T) (w h : Nat) : Prop := rdI t (8 - (4 * w + h - 5)) (4 * w + h - 5) = rdI t 8 0
theorem rdAt_next {t : T} {w h : Nat} (hw : 1 ≤ w ∧ w ≤ 2) (hh : 1 ≤ h ∧ h ≤ 4) (hp : rdAt t w h) (hn : ¬ signT (w : Int) (h : Int) = t) : rdAt t w (h + 1) := by
 unfold rdAt at hp ⊢
 rw [← hp, show 8 - (4 * w + h - 5) = (8 - (4 * w + (h + 1) - 5)) + 1 by omega, rdI, show 1 + (4 * w + h - 5) / 4 = w by omega, show 1 + (4 * w + h - 5) % 4 = h by omega, if_neg hn, show 4 * w + (h + 1) - 5 = 4 * w + h - 5 + 1 by omega]
theorem rdAt_hit {t : T} {w h : Nat} (hw : 1 ≤ w ∧ w ≤ 2) (hh : 1 ≤ h ∧ h ≤ 4) (hp : rdAt t w h) (hn : signT (w : Int) (h : Int) = t) : rdSW t = w ∧ rdSH t = h ∧ rdSE t = 0 := by
 have e : rdI t 8 0 = some (4 * w + h - 5) := by
  unfold rdAt at hp
  rw [← hp, show 8 - (4 * w + h - 5) = (8 - (4 * w + (h + 1) - 5)) + 1 by omega, rdI, show 1 + (4 * w + h - 5) / 4 = w by omega, show 1 + (4 * w + h - 5) % 4 = h by omega, if_pos hn]
 unfold rdSW rdSH rdSE
 rw [e]
 exact ⟨congrArg Int.ofNat (show 1 + (4 * w + h - 5) / 4 = w by omega), congrArg Int.ofNat (show 1 + (4 * w + h - 5) % 4 = h by omega), rfl⟩
theorem rdAt_end {t : T} (hp : rdAt t 3 1) : rdSW t = 0 ∧ rdSH t = 0 ∧ rdSE t = 200 := by
 have e : rdI t 8 0 = none := by unfold rdAt at hp; rw [← hp]; rfl
 unfold rdSW rdSH rdSE
 rw [e]; exact ⟨rfl, rfl, rfl⟩
theorem rdAt_fin {t : T} {w : Nat} (h : w = 3) (hp : rdAt t w 1) : rdSW t = 0 ∧ rdSH t = 0 ∧ rdSE t = 200 := by subst h; exact rdAt_end hp
theorem rdAt_row {t : T} {w : Nat} (h : rdAt t w 5) : rdAt t (w + 1) 1 := h
theorem signT_sz (w q : Int) : (signT w q).sz ≤ 2000 := by
 have h1 := namedB_len (rsaN q)
 have h2 := namedB_len [112, 115, 115]
 have h3 := namedB_len [109, 103, 102, 49]
 have h4 := hashT_sz q true
 have h5 := intB_len (sizeH q)
 unfold signT
 split
 ·decide
 ·split
  ·simp only [sz_seq, T.szs_cons, sz_prim, T.szs_nil, List.length_nil]; omega
  ·split
   ·simp only [sz_seq, sz_in, T.szs_cons, sz_prim, T.szs_nil]; omega
   ·decide
noncomputable def ΦRG : Fns := tab [(13, salgF), (76, same0F)]
theorem ΦRG_ok : Sound E ΦRG := sound_cons (by kernel_rfl) salg_ok (sound_cons (by kernel_rfl) same0_ok (sound_nil))
@[go_sem] theorem ΦRG_r : ΦRG 13 = some salgF ∧ ΦRG 76 = some same0F ∧ ΦRG 77 = none ∧ ΦRG 115 = none := ⟨rfl, rfl, rfl, rfl⟩
@[go_sem] theorem ΦRG_c : callable Tryz.prog 77 = true ∧ callable Tryz.prog 115 = true := ⟨by kernel_rfl, by kernel_rfl⟩
@[go_sem] noncomputable def rdsalgF : PFn := PF [ST] (fun (t : T) => t.sz ≤ 90000) (fun (t : T) => [.int .i64 (rdSW t), .int .i64 (rdSH t), .int .i64 (rdSE t)])
theorem rdsalg_ok : Pure E 19 rdsalgF := Pure.of_sig (rs := [.tmp 2, .tmp 3, .tmp 4]) (n := 29) Tryz.func19 rfl rfl rfl (Nat.le_of_ble_eq_true rfl) (by
 intro (t : T) hds
 refine st0 ?_
 refine rg ΦRG_ok [1, 8, 9] trE ?_
 refine rg ΦRG_ok [1, 5, 6, 7, 8, 9] trE ?_
 refine rB ΦRG_ok [1, 5, 6, 7, 8, 9, 12] trE fun K' hK => ?_
 repeat' first | with_reducible apply And.intro | exact sd | exact sde trE | exact sdp trE | refine stk trE ?_ | fail
 refine ec (rs := [.tmp 0]) (n := 1) Tryz.func77 rfl rfl rfl ?_
 refine rg ΦRG_ok [] trivial ?_
 refine rg ΦRG_ok [0] trivial ?_
 refine nx ?_
 refine rt trE ?_
 repeat' first | (refine lf hK trE ?_; clear hK K') | with_reducible apply And.intro | exact sd | exact sde trE | exact sdp trE | refine stk trE ?_ | fail
 all_goals
  refine nx ?_
  refine nft 12 ?_
  refine nx ?_
  refine re (rs := []) (n := 17) 8 9 Tryz.func115 rfl rfl rfl fun A B hA hB => ?_
  refine rg ΦRG_ok [0, 2] trE ?_
  refine nx ?_
  refine VC.loopS (ι := Nat) [0] (fun i => [(2, .dat (.int .i64 (i : Int)))]) (fun i => []) (fun i => (1 ≤ i ∧ i ≤ 3) ∧ rdAt t i 1) (fun i => 3 - i) 1 ⟨by omega, rfl⟩ ?_ ?_
  ·refine Ent.to rfl rfl rfl ?_ ?_
   ·simp -implicitDefEqProofs only [go_sem]; (try simp only [D.dat.injEq, Vm.Data.int.injEq, true_and, and_true, and_self, eq_self]); (try omega); (try ((repeat' apply And.intro) <;> first | omega | rfl))
   ·apply all_at
    ·(repeat' (first | exact all_nil | (refine all_cons ?_ ?_))) <;> (simp -implicitDefEqProofs only [go_sem]; (try rfl); skip)
    ·(repeat' (first | exact all_nil | (refine all_cons ?_ ?_))) <;> (simp -implicitDefEqProofs only [go_sem]; (try rfl); skip)
  intro w hpw; (try dsimp only at hpw)
  refine st0 ?_
  refine rg ΦRG_ok [0, 2, 5] trE ?_
  refine cn ?_ ?_
  ·intro h; try exact nd h
   all_goals
    refine rg ΦRG_ok [0, 2, 3] trE ?_
    refine nx ?_
    refine VC.loopS (ι := Nat) [0, 2] (fun i => [(3, .dat (.int .i64 (i : Int)))]) (fun i => []) (fun i => (1 ≤ i ∧ i ≤ 5) ∧ rdAt t w i) (fun i => 5 - i) 1 ⟨by omega, hpw.2⟩ ?_ ?_
    ·refine Ent.to rfl rfl rfl ?_ ?_
     ·simp -implicitDefEqProofs only [go_sem]; (try simp only [D.dat.injEq, Vm.Data.int.injEq, true_and, and_true, and_self, eq_self]); (try omega); (try ((repeat' apply And.intro) <;> first | omega | rfl))
     ·apply all_at
      ·(repeat' (first | exact all_nil | (refine all_cons ?_ ?_))) <;> (simp -implicitDefEqProofs only [go_sem]; (try rfl); skip)
      ·(repeat' (first | exact all_nil | (refine all_cons ?_ ?_))) <;> (simp -implicitDefEqProofs only [go_sem]; (try rfl); skip)
    intro k hpk; (try dsimp only at hpk)
    refine st0 ?_
    refine rg ΦRG_ok [0, 2, 3, 9] trE ?_
    refine cn ?_ ?_
    ·intro h; try exact nd h
     all_goals
      refine rB ΦRG_ok [0, 2, 3, 16] trE fun K' hK => ?_
      repeat' first | with_reducible apply And.intro | exact sd | exact sde trE | exact sdp trE | refine stk trE ?_ | fail
      refine yd hA ?_
      refine rg ΦRG_ok [1, 5, 6, 7, 8, 14] trE ?_
      refine rgL ΦRG_ok trE ?_
      refine nx ?_
      refine yb hB ?_
      have hsz := signT_sz (w : Int) (k : Int)
      all_goals
       refine rg ΦRG_ok [1, 5, 6, 7, 8, 9, 10] trE ?_
       refine rg ΦRG_ok [5, 6, 7, 8, 9, 23] trE ?_
       refine cn ?_ ?_
       ·intro h; try exact nd h
        all_goals
         have hy := rdAt_hit (by omega) (by omega) hpk.2 (by assumption)
         refine rg ΦRG_ok [5, 6, 7] trE ?_
         refine nx ?_
         refine rt trE ?_
         repeat' first | (refine lf hK trE ?_; clear hK K') | with_reducible apply And.intro | exact sd | exact sde trE | exact sdp trE | refine stk trE ?_ | fail
         all_goals
          refine cn ?_ ?_
          ·intro h; try exact nd h
           all_goals
            refine nx ?_
            refine rt trE ?_
            refine yc ?_
            first
            | have hy2 := hy
            | have hy2 := rdAt_fin (by omega) hpw.2
            refine rd ΦRG_ok 6 [2, 3, 4] trE ?_
            refine nx ?_
            refine pureK_r (pureS_one (l := 8) (by simp -implicitDefEqProofs only [go_sem]) ?_)
            exact fz hy2
          ·exact fun h => nd h
       ·intro h; try exact nd h
        all_goals
         refine nx ?_
         refine rt trE ?_
         repeat' first | (refine lf hK trE ?_; clear hK K') | with_reducible apply And.intro | exact sd | exact sde trE | exact sdp trE | refine stk trE ?_ | fail
         all_goals
          refine cn ?_ ?_
          ·exact fun h => nd h
          intro h
          refine rgL ΦRG_ok trE ?_
          refine nx ?_
          refine ⟨k + 1, ⟨by omega, rdAt_next (by omega) (by omega) hpk.2 (by assumption)⟩, Ent.to rfl rfl rfl ?_ ?_, by omega⟩
          ·simp -implicitDefEqProofs only [go_sem]; (try simp (disch := omega) only [i64_in, tmodn, tdivn]); (try simp only [D.dat.injEq, Vm.Data.int.injEq, true_and, and_true, and_self, eq_self]); (try omega); (try ((repeat' apply And.intro) <;> first | omega | rfl))
          ·apply all_at
           ·(repeat' (first | exact all_nil | (refine all_cons ?_ ?_))) <;> (simp -implicitDefEqProofs only [go_sem]; (try rfl); skip)
           ·(repeat' (first | exact all_nil | (refine all_cons ?_ ?_))) <;> (simp -implicitDefEqProofs only [go_sem]; (try rfl); skip)
    ·intro h; try exact nd h
     all_goals
      refine rgL ΦRG_ok trE ?_
      refine nx ?_
      refine ⟨w + 1, ⟨by omega, rdAt_row (by rw [show 5 = k by omega]; exact hpk.2)⟩, Ent.to rfl rfl rfl ?_ ?_, by omega⟩
      ·simp -implicitDefEqProofs only [go_sem]; (try simp (disch := omega) only [i64_in, tmodn, tdivn]); (try simp only [D.dat.injEq, Vm.Data.int.injEq, true_and, and_true, and_self, eq_self]); (try omega); (try ((repeat' apply And.intro) <;> first | omega | rfl))
      ·apply all_at
       ·(repeat' (first | exact all_nil | (refine all_cons ?_ ?_))) <;> (simp -implicitDefEqProofs only [go_sem]; (try rfl); skip)
       ·(repeat' (first | exact all_nil | (refine all_cons ?_ ?_))) <;> (simp -implicitDefEqProofs only [go_sem]; (try rfl); skip)
  ·intro h; try exact nd h
   all_goals
    refine nx ?_
    refine rt trE ?_
    refine ya ?_
    first
    | have hy2 := hy
    | have hy2 := rdAt_fin (by omega) hpw.2
    refine rd ΦRG_ok 6 [2, 3, 4] trE ?_
    refine nx ?_
    refine pureK_r (pureS_one (l := 8) (by simp -implicitDefEqProofs only [go_sem]) ?_)
    exact fz hy2)
end Go.Proofs.YtpajpkbipagjpaaGreatDoor.Oc
namespace Go.Proofs.YtpajpkbipagjpaaGreatDoor.Oc
open Go Go.RowKit Go.Proofs.YtpajpkbipagjpaaGreatDoor.Vm Go.Proofs.YtpajpkbipagjpaaGreatDoor.Tr Go.IntWalk
set_option maxRecDepth 100000
set_option maxHeartbeats 4000000
end Go.Proofs.YtpajpkbipagjpaaGreatDoor.Oc
namespace Go.Proofs.YtpajpkbipagjpaaGreatDoor.Oc
open Go Go.RowKit Go.Proofs.YtpajpkbipagjpaaGreatDoor.Vm Go.Proofs.YtpajpkbipagjpaaGreatDoor.Tr Go.IntWalk
set_option maxRecDepth 100000
set_option maxHeartbeats 4000000
end Go.Proofs.YtpajpkbipagjpaaGreatDoor.Oc
namespace Go.Proofs.YtpajpkbipagjpaaGreatDoor.Oc
open Go Go.RowKit Go.Proofs.YtpajpkbipagjpaaGreatDoor.Vm Go.Proofs.YtpajpkbipagjpaaGreatDoor.Tr Go.IntWalk
set_option maxRecDepth 100000
set_option maxHeartbeats 4000000
end Go.Proofs.YtpajpkbipagjpaaGreatDoor.Oc
namespace Go.Proofs.YtpajpkbipagjpaaGreatDoor.Oc
open Go Go.RowKit Go.Proofs.YtpajpkbipagjpaaGreatDoor.Vm Go.Proofs.YtpajpkbipagjpaaGreatDoor.Tr Go.IntWalk
set_option maxRecDepth 100000
set_option maxHeartbeats 4000000
end Go.Proofs.YtpajpkbipagjpaaGreatDoor.Oc
