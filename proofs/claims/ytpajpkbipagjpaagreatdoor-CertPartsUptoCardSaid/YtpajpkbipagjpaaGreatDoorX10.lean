/- What functions of the program, of its library and of the document compute: their contracts, and laws about what they compute (X10). No condition. -/
import Derived.Test.YtpajpkbipagjpaaGreatDoorX09
import Derived.Test.YtpajpkbipagjpaaGreatDoorX08
import Derived.Test.YtpajpkbipagjpaaGreatDoorX04
import Derived.Test.YtpajpkbipagjpaaGreatDoorX03
import Derived.Lib.ValidAsc
import Derived.Lib.EndianBits
import Derived.Lib.LaidTab
import Derived.Laws.BitsAllLaws
set_option linter.unusedVariables false
set_option linter.unusedSimpArgs false
namespace Go.Proofs.YtpajpkbipagjpaaGreatDoor.Oc
open Go Go.RowKit Go.Proofs.YtpajpkbipagjpaaGreatDoor.Vm Go.Proofs.YtpajpkbipagjpaaGreatDoor.Tr Go.IntWalk
set_option maxRecDepth 100000
set_option maxHeartbeats 4000000
end Go.Proofs.YtpajpkbipagjpaaGreatDoor.Oc
namespace Go.Proofs.YtpajpkbipagjpaaGreatDoor.Oc
open Go Go.RowKit Go.Proofs.YtpajpkbipagjpaaGreatDoor.Vm Go.Proofs.YtpajpkbipagjpaaGreatDoor.Tr Go.IntWalk
set_option maxRecDepth 100000
set_option maxHeartbeats 4000000
theorem name_back {q : Int} (h : ¬ sizeH q = 0) : namedH (nameOf (namedB (nameH q))) = q := by
 have hh : q = 1 ∨ q = 2 ∨ q = 3 ∨ q = 4 := by unfold sizeH at h; (repeat' split at h) <;> omega
 rcases hh with rfl | rfl | rfl | rfl <;> decide +kernel
theorem hashT_kid {q : Int} {nl : Bool} (h : ¬ sizeH q = 0) : firstB (hashT q nl) = namedB (nameH q) := by rw [hashT_yes nl h]; rfl
theorem hashT_rdH {q : Int} {nl : Bool} (h : ¬ sizeH q = 0) : rdH (hashT q nl) = q := by unfold rdH; rw [hashT_kid h]; exact name_back h
theorem hashT_rdN {q : Int} {nl : Bool} (h : ¬ sizeH q = 0) : rdN (hashT q nl) = nl := by unfold rdN; rw [hashT_yes nl h]; cases nl <;> rfl
theorem rrI_some {t : T} : ∀ {f k i : Nat}, rrI t f k = some i → k < i ∧ i ≤ k + f ∧ (hashT (i : Int) false = t ∨ hashT (i : Int) true = t)
 | 0, k, i, h => by cases h
 | f + 1, k, i, h => by
   rw [rrI] at h
   split at h
   ·rename_i hm; injection h with h; subst h; exact ⟨by omega, by omega, hm⟩
   ·have := rrI_some h; exact ⟨by omega, by omega, this.2.2⟩
theorem rrI_none {t : T} : ∀ {f k : Nat}, rrI t f k = none → ∀ i, k < i → i ≤ k + f → ¬ (hashT (i : Int) false = t ∨ hashT (i : Int) true = t)
 | 0, k, h, i, h1, h2 => by omega
 | f + 1, k, h, i, h1, h2 => by
   rw [rrI] at h
   split at h
   ·cases h
   ·rename_i hm
    rcases Nat.lt_or_ge (k + 1) i with h3 | h3
    ·exact rrI_none h i h3 (by omega)
    ·obtain rfl : i = k + 1 := by omega
     exact hm
theorem size_in {q : Int} (h : 1 ≤ q ∧ q ≤ 4) : ¬ sizeH q = 0 := by
 have hh : q = 1 ∨ q = 2 ∨ q = 3 ∨ q = 4 := by omega
 rcases hh with rfl | rfl | rfl | rfl <;> decide
theorem in_size {q : Int} (h : ¬ sizeH q = 0) : 1 ≤ q ∧ q ≤ 4 := by unfold sizeH at h; (repeat' split at h) <;> omega
theorem rr_eq (t : T) : (if rdOk t then rdH t else 0) = rrH t ∧ (if rdOk t then rdN t else false) = rrN t ∧ (if rdOk t then (0 : Int) else 200) = rrE t := by
 unfold rrH rrN rrE
 cases e : rrI t 4 0 with
 | some i =>
   obtain ⟨h1, h2, h3⟩ := rrI_some e
   have hz : ¬ sizeH (i : Int) = 0 := size_in (by omega)
   obtain ⟨nl, hnl⟩ : ∃ nl, hashT (i : Int) nl = t := h3.elim (fun h => ⟨_, h⟩) (fun h => ⟨_, h⟩)
   have a1 : rdH t = i := by rw [← hnl]; exact hashT_rdH hz
   have a2 : rdN t = nl := by rw [← hnl]; exact hashT_rdN hz
   have a3 : rdOk t = true := decide_eq_true ⟨by rw [a1]; exact hz, by rw [a1, a2]; exact hnl⟩
   rw [a3, a1, a2]
   refine ⟨rfl, ?_, rfl⟩
   cases nl with
   | true => exact (decide_eq_true hnl).symm
   | false => exact (decide_eq_false fun h => by
    have : rdN t = true := by rw [← h]; exact hashT_rdN hz
    rw [a2] at this; cases this).symm
 | none =>
   have a3 : rdOk t = false := decide_eq_false fun ⟨h1, h2⟩ => by
    have hq := in_size h1
    have hi := rrI_none e (rdH t).toNat (by omega) (by omega)
    rw [show (((rdH t).toNat : Nat) : Int) = rdH t by omega] at hi
    apply hi
    cases hb : rdN t with
    | true => rw [hb] at h2; exact .inr h2
    | false => rw [hb] at h2; exact .inl h2
   rw [a3]; exact ⟨rfl, rfl, rfl⟩
end Go.Proofs.YtpajpkbipagjpaaGreatDoor.Oc
namespace Go.Proofs.YtpajpkbipagjpaaGreatDoor.Oc
open Go Go.RowKit Go.Proofs.YtpajpkbipagjpaaGreatDoor.Vm Go.Proofs.YtpajpkbipagjpaaGreatDoor.Tr Go.IntWalk
set_option maxRecDepth 100000
set_option maxHeartbeats 4000000
def kindN (k : Int) : List UInt8 := if k = 1 then [99, 111, 109, 109, 111, 110, 78, 97, 109, 101] else if k = 2 then [111, 114, 103, 97, 110, 105, 122, 97, 116, 105, 111, 110, 78, 97, 109, 101] else if k = 3 then [99, 111, 117, 110, 116, 114, 121, 78, 97, 109, 101] else []
def signsB : List UInt8 := [65, 66, 67, 68, 69, 70, 71, 72, 73, 74, 75, 76, 77, 78, 79, 80, 81, 82, 83, 84, 85, 86, 87, 88, 89, 90, 97, 98, 99, 100, 101, 102, 103, 104, 105, 106, 107, 108, 109, 110, 111, 112, 113, 114, 115, 116, 117, 118, 119, 120, 121, 122, 48, 49, 50, 51, 52, 53, 54, 55, 56, 57, 32, 39, 40, 41, 43, 44, 45, 46, 47, 58, 61, 63]
def prt8 (c : UInt8) : Bool := signsB.contains c
def fits2 (p : Bool) (b : List UInt8) : Bool := if p then b.all prt8 else validB b
def labelT (r : Rd) : T := primT (if r.print then 19 else 12) r.text
def partB (r : Rd) : Bool := decide (1 ≤ r.kind ∧ r.kind ≤ 3 ∧ ¬ r.text.length = 0 ∧ r.text.length ≤ 64) && (fits2 r.print r.text && decide (¬ r.kind = 3 ∨ r.print = true ∧ r.text.length = 2))
def rdnT (r : Rd) : T := setT [seqT [primT 6 (namedB (kindN r.kind)), labelT r]]
def nameOk (n : List Rd) : Bool := decide (1 ≤ n.length ∧ n.length ≤ 8) && n.all partB
def nameT (n : List Rd) : T := if nameOk n then seqT (n.map rdnT) else T.zero
def nameE (n : List Rd) : Int := if nameOk n then 0 else 200
def kid (t : T) (i : Nat) : T := t.kids.getD i T.zero
def idxK (s : List UInt8) : Int := if s = [] then 0 else if s = [99, 111, 109, 109, 111, 110, 78, 97, 109, 101] then 1 else if s = [111, 114, 103, 97, 110, 105, 122, 97, 116, 105, 111, 110, 78, 97, 109, 101] then 2 else if s = [99, 111, 117, 110, 116, 114, 121, 78, 97, 109, 101] then 3 else -1
def rdOf (x : T) : Rd := ⟨idxK (nameOf (kid (kid x 0) 0).bytes), (kid (kid x 0) 1).bytes, decide ((kid (kid x 0) 1).tag = 19)⟩
def rnN (t : T) : List Rd := t.kids.map rdOf
def rnOk (t : T) : Bool := nameOk (rnN t) && decide (nameT (rnN t) = t)
def hasT (t : T) (c g : Int) (m : Nat) : Prop := t.cls = c ∧ t.tag = g ∧ t.cons = true ∧ t.bytes = [] ∧ t.kids.length = m
def isT (t : T) (g : Int) : Prop := t.cls = 0 ∧ t.tag = g ∧ t.cons = false ∧ t.kids = []
instance (t : T) (c g : Int) (m : Nat) : Decidable (hasT t c g m) := by unfold hasT; infer_instance
instance (t : T) (g : Int) : Decidable (isT t g) := by unfold isT; infer_instance
def whichK (k : T) : Int := if primT 6 (namedB (kindN 3)) = k then 3 else if primT 6 (namedB (kindN 2)) = k then 2 else if primT 6 (namedB (kindN 1)) = k then 1 else 0
def okRd (x : T) : Prop := hasT x 0 17 1 ∧ hasT (kid x 0) 0 16 2 ∧ ¬ whichK (kid (kid x 0) 0) = 0 ∧ (isT (kid (kid x 0) 1) 12 ∨ isT (kid (kid x 0) 1) 19)
instance (x : T) : Decidable (okRd x) := by unfold okRd; infer_instance
def rrnOk (t : T) : Bool := decide (hasT t 0 16 t.kids.length ∧ ∀ x ∈ t.kids, okRd x) && nameOk (rnN t)
theorem idx_back {k : Int} (h : 1 ≤ k ∧ k ≤ 3) : idxK (nameOf (namedB (kindN k))) = k := by
 have : k = 1 ∨ k = 2 ∨ k = 3 := by omega
 rcases this with rfl | rfl | rfl <;> decide +kernel
theorem kind_diff : namedB (kindN 1) ≠ namedB (kindN 2) ∧ namedB (kindN 1) ≠ namedB (kindN 3) ∧ namedB (kindN 2) ≠ namedB (kindN 3) := by decide +kernel
theorem kind_same {k : Int} (h : 1 ≤ k ∧ k ≤ 3) : namedS (kindN k) = namedB (kindN k) := by
 have : k = 1 ∨ k = 2 ∨ k = 3 := by omega
 rcases this with rfl | rfl | rfl <;> decide +kernel
theorem primT_inj {g : Int} {a b : List UInt8} (h : primT g a = primT g b) : a = b := by unfold primT at h; injection h
theorem whichK_of {k : Int} (h : 1 ≤ k ∧ k ≤ 3) : whichK (primT 6 (namedB (kindN k))) = k := by
 obtain ⟨d1, d2, d3⟩ := kind_diff
 have : k = 1 ∨ k = 2 ∨ k = 3 := by omega
 unfold whichK
 rcases this with rfl | rfl | rfl
 ·rw [if_neg fun h => d2 (primT_inj h).symm, if_neg fun h => d1 (primT_inj h).symm, if_pos rfl]
 ·rw [if_neg fun h => d3 (primT_inj h).symm, if_pos rfl]
 ·rw [if_pos rfl]
theorem whichK_in {k : T} (h : ¬ whichK k = 0) : (1 ≤ whichK k ∧ whichK k ≤ 3) ∧ k = primT 6 (namedB (kindN (whichK k))) := by
 unfold whichK at h ⊢
 (repeat' split) <;> simp_all
theorem okRd_kind {x : T} (h : ¬ whichK (kid (kid x 0) 0) = 0) : (rdOf x).kind = whichK (kid (kid x 0) 0) := by
 obtain ⟨h1, h2⟩ := whichK_in h
 show idxK (nameOf (kid (kid x 0) 0).bytes) = _
 rw [show (kid (kid x 0) 0).bytes = namedB (kindN (whichK (kid (kid x 0) 0))) by rw [congrArg T.bytes h2]; rfl]
 exact idx_back h1
theorem kids_one {t : T} (h : t.kids.length = 1) : t.kids = [kid t 0] := by
 unfold kid
 match e : t.kids, h with
 | [x], _ => rfl
theorem kids_two {t : T} (h : t.kids.length = 2) : t.kids = [kid t 0, kid t 1] := by
 unfold kid
 match e : t.kids, h with
 | [x, y], _ => rfl
theorem okRd_eq {x : T} (h : okRd x) : x = rdnT (rdOf x) := by
 obtain ⟨⟨a1, a2, a3, a4, a5⟩, ⟨b1, b2, b3, b4, b5⟩, hw, hs⟩ := h
 have hk := okRd_kind hw
 have h2 := (whichK_in hw).2
 have hl : labelT (rdOf x) = kid (kid x 0) 1 := by
  unfold labelT
  show primT (if decide ((kid (kid x 0) 1).tag = 19) = true then 19 else 12) (kid (kid x 0) 1).bytes = _
  generalize kid (kid x 0) 1 = s at hs ⊢
  cases s with
  | mk c g b y ks =>
    unfold isT at hs
    simp only [T.cls_mk, T.tag_mk, T.cons_mk, T.kids_mk, T.bytes_mk] at hs ⊢
    rcases hs with ⟨rfl, rfl, rfl, rfl⟩ | ⟨rfl, rfl, rfl, rfl⟩ <;> rfl
 unfold rdnT
 rw [hl, hk, ← h2, show seqT [kid (kid x 0) 0, kid (kid x 0) 1] = kid x 0 by
  have e := kids_two b5
  rw [← e]
  unfold seqT
  rw [← b1, ← b2, ← b3, ← b4, T.eta]]
 unfold setT
 rw [← kids_one a5, ← a1, ← a2, ← a3, ← a4, T.eta]
theorem rdnT_ok {r : Rd} (h : 1 ≤ r.kind ∧ r.kind ≤ 3) : okRd (rdnT r) ∧ rdOf (rdnT r) = r := by
 obtain ⟨k, s, p⟩ := r
 dsimp only at h
 have e1 : kid (rdnT ⟨k, s, p⟩) 0 = seqT [primT 6 (namedB (kindN k)), labelT ⟨k, s, p⟩] := rfl
 have e2 : kid (kid (rdnT ⟨k, s, p⟩) 0) 0 = primT 6 (namedB (kindN k)) := rfl
 have e3 : kid (kid (rdnT ⟨k, s, p⟩) 0) 1 = primT (if p then 19 else 12) s := rfl
 refine ⟨⟨⟨rfl, rfl, rfl, rfl, rfl⟩, ⟨rfl, rfl, rfl, rfl, rfl⟩, ?_, ?_⟩, ?_⟩
 ·rw [e2, whichK_of h]; omega
 ·rw [e3]
  cases p
  ·exact .inl ⟨rfl, rfl, rfl, rfl⟩
  ·exact .inr ⟨rfl, rfl, rfl, rfl⟩
 ·unfold rdOf
  rw [e2, e3]
  show Rd.mk (idxK (nameOf (namedB (kindN k)))) s (decide ((if p = true then 19 else 12 : Int) = 19)) = _
  rw [idx_back h]
  cases p <;> rfl
theorem partB_kind {r : Rd} (h : partB r = true) : 1 ≤ r.kind ∧ r.kind ≤ 3 := by
 unfold partB at h
 simp only [Bool.and_eq_true, decide_eq_true_eq] at h
 exact ⟨h.1.1, h.1.2.1⟩
theorem rn_eq (t : T) : rrnOk t = rnOk t := by
 unfold rrnOk rnOk
 cases hn : nameOk (rnN t) with
 | false => simp
 | true =>
   have ht : nameT (rnN t) = seqT ((rnN t).map rdnT) := if_pos hn
   have hp : ∀ x ∈ t.kids, 1 ≤ (rdOf x).kind ∧ (rdOf x).kind ≤ 3 := by
    intro x hx
    unfold nameOk at hn
    simp only [Bool.and_eq_true, decide_eq_true_eq, List.all_eq_true] at hn
    exact partB_kind (hn.2 (rdOf x) (List.mem_map_of_mem hx))
   rw [ht, Bool.and_true, Bool.true_and]
   refine decide_eq_decide.2 ⟨fun ⟨h1, h2⟩ => ?_, fun h => ?_⟩
   ·have : (rnN t).map rdnT = t.kids := by
     unfold rnN
     rw [List.map_map]
     exact (List.map_congr_left fun x hx => (okRd_eq (h2 x hx)).symm).trans (List.map_id _)
    rw [this]
    unfold seqT
    obtain ⟨a1, a2, a3, a4, _⟩ := h1
    rw [← a1, ← a2, ← a3, ← a4, T.eta]
   ·have hk : t.kids = (rnN t).map rdnT := (congrArg T.kids h).symm
    refine ⟨?_, ?_⟩
    ·rw [← h]; exact ⟨rfl, rfl, rfl, rfl, rfl⟩
    ·intro x hx
     have hx2 := hx
     rw [hk] at hx2
     obtain ⟨r, hr, rfl⟩ := List.mem_map.1 hx2
     obtain ⟨y, hy, rfl⟩ := List.mem_map.1 hr
     exact (rdnT_ok (hp y hy)).1
def impOk (x : Im) : Bool := decide (¬ sizeH x.hash = 0 ∧ (x.dig.length : Int) = sizeH x.hash)
def impT (x : Im) : T := if impOk x then seqT [hashT x.hash x.null, primT 4 x.dig] else T.zero
def impE (x : Im) : Int := if impOk x then 0 else 200
def imOf (t : T) : Im := ⟨if rdOk (kid t 0) then rdH (kid t 0) else 0, if rdOk (kid t 0) then rdN (kid t 0) else false, (kid t 1).bytes⟩
def riOk (t : T) : Bool := impOk (imOf t) && decide (impT (imOf t) = t)
def rriOk (t : T) : Bool := decide (hasT t 0 16 2 ∧ isT (kid t 1) 4 ∧ rrE (kid t 0) = 0 ∧ ((kid t 1).bytes.length : Int) = sizeH (rrH (kid t 0)))
theorem rdOk_pos {t : T} (h : rdOk t = true) : ¬ sizeH (rdH t) = 0 ∧ hashT (rdH t) (rdN t) = t := of_decide_eq_true h
theorem size0 : sizeH 0 = 0 := rfl
theorem ri_eq (t : T) : rriOk t = riOk t := by
 obtain ⟨e1, e2, e3⟩ := rr_eq (kid t 0)
 unfold rriOk riOk
 rw [← e1, ← e3]
 cases h : rdOk (kid t 0) with
 | false =>
   have : impOk (imOf t) = false := by
    refine decide_eq_false fun h2 => h2.1 ?_
    show sizeH (if rdOk (kid t 0) then rdH (kid t 0) else 0) = 0
    rw [h]; exact size0
   rw [this, Bool.false_and]
   exact decide_eq_false fun h2 => absurd h2.2.2.1 (by decide)
 | true =>
   obtain ⟨hz, hh⟩ := rdOk_pos h
   have hi : imOf t = ⟨rdH (kid t 0), rdN (kid t 0), (kid t 1).bytes⟩ := by unfold imOf; rw [h]; rfl
   rw [hi]
   simp only [if_true, true_and]
   by_cases hl : ((kid t 1).bytes.length : Int) = sizeH (rdH (kid t 0))
   ·have ho : impOk ⟨rdH (kid t 0), rdN (kid t 0), (kid t 1).bytes⟩ = true := decide_eq_true ⟨hz, hl⟩
    rw [ho, Bool.true_and]
    unfold impT
    rw [ho, if_pos rfl]
    show _ = decide (seqT [hashT (rdH (kid t 0)) (rdN (kid t 0)), primT 4 (kid t 1).bytes] = t)
    rw [hh]
    refine decide_eq_decide.2 ⟨fun ⟨⟨a1, a2, a3, a4, a5⟩, ⟨b1, b2, b3, b4⟩, _⟩ => ?_, fun e => ?_⟩
    ·have : primT 4 (kid t 1).bytes = kid t 1 := by
      unfold primT
      rw [← b1, ← b2, ← b3, ← b4, T.eta]
     rw [this]
     unfold seqT
     rw [← kids_two a5, ← a1, ← a2, ← a3, ← a4, T.eta]
    ·have k1 : kid t 1 = primT 4 (kid t 1).bytes := by
      have := congrArg (fun u => kid u 1) e
      exact this.symm
     refine ⟨?_, ?_, hl⟩
     ·rw [← e]; exact ⟨rfl, rfl, rfl, rfl, rfl⟩
     ·rw [k1]; exact ⟨rfl, rfl, rfl, rfl⟩
   ·have ho : impOk ⟨rdH (kid t 0), rdN (kid t 0), (kid t 1).bytes⟩ = false := decide_eq_false fun h2 => hl h2.2
    rw [ho, Bool.false_and]
    exact decide_eq_false fun h2 => hl h2.2.2
end Go.Proofs.YtpajpkbipagjpaaGreatDoor.Oc
namespace Go.Proofs.YtpajpkbipagjpaaGreatDoor.Oc
open Go Go.RowKit Go.Proofs.YtpajpkbipagjpaaGreatDoor.Vm Go.Proofs.YtpajpkbipagjpaaGreatDoor.Tr Go.IntWalk
set_option maxRecDepth 100000
set_option maxHeartbeats 4000000
theorem len_b (t : T) : t.bytes = [] ↔ (t.bytes.length : Int) = 0 := by rw [← List.length_eq_zero_iff]; omega
theorem len_k (t : T) : t.kids = [] ↔ (t.kids.length : Int) = 0 := by rw [← List.length_eq_zero_iff]; omega
@[go_sem] noncomputable def rhasF : PFn := PF [ST, SI .i64, SI .i64, SI .i64] (fun (t : T) (c : Int) (g : Int) (m : Int) => 0 ≤ m) (fun (t : T) (c : Int) (g : Int) (m : Int) => [.bool (decide (hasT t c g m.toNat))])
theorem rhas_ok : Pure E 86 rhasF := Pure.of_sig (rs := [.tmp 8]) (n := 36) Tryz.func86 rfl rfl rfl (Nat.le_of_ble_eq_true rfl) (by
 intro (t : T) (c : Int) (g : Int) (m : Int) hds
 refine st0 ?_
 refine rg sound_nil [1, 2, 3, 4] trivial ?_
 refine rB sound_nil [8] trivial fun K' hK => ?_
 repeat' first | (refine lf hK trivial ?_; clear hK K') | with_reducible apply And.intro | refine sA trivial (fun _ => ?_) fun _ => ?_ | refine sAb trivial (fun _ => ?_) fun _ => ?_ | refine sAl trivial (fun g => ?_) fun g => ?_ | exact sd | exact sde trivial | exact sdp trivial | refine stk trivial ?_ | fail
 all_goals
  refine fi trivial ?_
  have hl := len_b t
  (try simp only [Bool.not_eq_eq_eq_not, Bool.not_true, Bool.not_false, decide_eq_false_iff_not, decide_eq_true_eq] at *)
  first
  | exact decide_eq_decide.2 ⟨fun h => ⟨by assumption, by assumption, by assumption, hl.2 (by assumption), by omega⟩, fun h => by have := h.2.2.2.2; omega⟩
  | (symm; refine decide_eq_false fun h => ?_; obtain ⟨h1, h2, h3, h4, h5⟩ := h; first | contradiction | exact absurd (hl.1 h4) (by assumption) | simp_all))
@[go_sem] noncomputable def risF : PFn := PF [ST, SI .i64] (fun (t : T) (g : Int) => True) (fun (t : T) (g : Int) => [.bool (decide (isT t g))])
theorem ris_ok : Pure E 87 risF := Pure.of_sig (rs := [.tmp 4]) (n := 25) Tryz.func87 rfl rfl rfl (Nat.le_of_ble_eq_true rfl) (by
 intro (t : T) (g : Int) hds
 refine st0 ?_
 refine rg sound_nil [1, 2] trivial ?_
 refine rB sound_nil [4] trivial fun K' hK => ?_
 repeat' first | (refine lf hK trivial ?_; clear hK K') | with_reducible apply And.intro | refine sA trivial (fun _ => ?_) fun _ => ?_ | refine sAb trivial (fun _ => ?_) fun _ => ?_ | refine sAl trivial (fun g => ?_) fun g => ?_ | exact sd | exact sde trivial | exact sdp trivial | refine stk trivial ?_ | fail
 all_goals
  refine fi trivial ?_
  have hl := len_k t
  (try simp only [Bool.not_eq_eq_eq_not, Bool.not_true, Bool.not_false, decide_eq_false_iff_not, decide_eq_true_eq] at *)
  first
  | exact decide_eq_decide.2 ⟨fun h => ⟨by assumption, by assumption, by assumption, hl.2 h⟩, fun h => hl.1 h.2.2.2⟩
  | (symm; refine decide_eq_false fun h => ?_; obtain ⟨h1, h2, h3, h4⟩ := h; first | contradiction | simp_all))
end Go.Proofs.YtpajpkbipagjpaaGreatDoor.Oc
namespace Go.Proofs.YtpajpkbipagjpaaGreatDoor.Oc
open Go Go.RowKit Go.Proofs.YtpajpkbipagjpaaGreatDoor.Vm Go.Proofs.YtpajpkbipagjpaaGreatDoor.Tr Go.IntWalk
set_option maxRecDepth 100000
set_option maxHeartbeats 4000000
theorem imp_no {x : Im} (h : sizeH x.hash = 0 ∨ ¬ (x.dig.length : Int) = sizeH x.hash) : impT x = T.zero ∧ impE x = 200 := by
 have : impOk x = false := decide_eq_false fun ⟨h1, h2⟩ => h.elim h1 (fun h => h h2)
 exact ⟨by unfold impT; rw [this]; rfl, by unfold impE; rw [this]; rfl⟩
theorem imp_yes {x : Im} (h : ¬ sizeH x.hash = 0) (h2 : (x.dig.length : Int) = sizeH x.hash) : impT x = seqT [hashT x.hash x.null, primT 4 x.dig] ∧ impE x = 0 := by
 have : impOk x = true := decide_eq_true ⟨h, h2⟩
 exact ⟨by unfold impT; rw [this]; rfl, by unfold impE; rw [this]; rfl⟩
theorem sz0 {q : Int} (h : (!decide ((if sizeH q = 0 then 200 else 0 : Int) = 0)) = true) : sizeH q = 0 := by
 by_cases h0 : sizeH q = 0
 ·exact h0
 ·rw [if_neg h0] at h; exact absurd h (by decide)
theorem sz1 {q : Int} (h : (!decide ((if sizeH q = 0 then 200 else 0 : Int) = 0)) = false) : ¬ sizeH q = 0 := by
 intro h0; rw [if_pos h0] at h; exact absurd h (by decide)
noncomputable def ΦBI : Fns := tab [(11, halgF), (58, sizeF), (61, cprimF), (62, cseqF)]
theorem ΦBI_ok : Sound E ΦBI := sound_cons (by kernel_rfl) halg_ok (sound_cons (by kernel_rfl) size_ok (sound_cons (by kernel_rfl) cprim_ok (sound_cons (by kernel_rfl) cseq_ok (sound_nil))))
@[go_sem] theorem ΦBI_r : ΦBI 11 = some halgF ∧ ΦBI 58 = some sizeF ∧ ΦBI 61 = some cprimF ∧ ΦBI 62 = some cseqF := ⟨rfl, rfl, rfl, rfl⟩
@[go_sem] noncomputable def bimpF : PFn := PF [SIm] (fun (x : Im) => x.dig.length ≤ 90000) (fun (x : Im) => [nodeD (impT x), .int .i64 (impE x)])
theorem bimp_ok : Pure E 23 bimpF := Pure.of_sig (rs := [.cell 2 25, .tmp 3]) (n := 32) Tryz.func23 rfl rfl rfl (Nat.le_of_ble_eq_true rfl) (by
 intro (x : Im) hds
 have hs := hashT_sz x.hash x.null
 refine st0 ?_
 refine rg ΦBI_ok [1, 2] szE ?_
 refine rg ΦBI_ok [1, 2, 4, 5] szE ?_
 refine rdB (n := 11) ΦBI_ok [1, 2, 4, 24] szE fun L hL => ?_
 repeat' first | (refine lfd hL szE ?_; clear hL L) | with_reducible apply And.intro | refine sA szE (fun _ => ?_) fun _ => ?_ | refine sAb szE (fun _ => ?_) fun _ => ?_ | refine sAl szE (fun g => ?_) fun g => ?_ | exact sd | exact sde szE | exact sdp szE | refine stk szE ?_ | fail
 all_goals
  refine cn ?_ ?_
  ·intro h; try exact absurd h (by decide)
   all_goals
    have hy := And.intro (imp_no (x := x) (by first | exact .inl (sz0 (by assumption)) | exact .inr (by assumption) | exact .inr (by simp_all))) zeroE
    refine rg ΦBI_ok [2, 3] szE ?_
    first
    | exact fz hy
  ·intro h; try exact absurd h (by decide)
   all_goals
    have hy := imp_yes (x := x) (sz1 (by assumption)) (by first | assumption | simp_all)
    refine rd ΦBI_ok 6 [2, 3] szE ?_
    first
    | exact fz hy)
noncomputable def ΦBJ : Fns := tab [(12, rhalgF), (70, rsizeF), (82, rprimF), (64, rseqF)]
theorem ΦBJ_ok : Sound E ΦBJ := sound_cons (by kernel_rfl) rhalg_ok (sound_cons (by kernel_rfl) rsize_ok (sound_cons (by kernel_rfl) rprim_ok (sound_cons (by kernel_rfl) rseq_ok (sound_nil))))
@[go_sem] theorem ΦBJ_r : ΦBJ 12 = some rhalgF ∧ ΦBJ 70 = some rsizeF ∧ ΦBJ 82 = some rprimF ∧ ΦBJ 64 = some rseqF := ⟨rfl, rfl, rfl, rfl⟩
@[go_sem] noncomputable def rbimpF : PFn := PF [SIm] (fun (x : Im) => x.dig.length ≤ 90000) (fun (x : Im) => [nodeD (impT x), .int .i64 (impE x)])
theorem rbimp_ok : Pure E 24 rbimpF := Pure.of_sig (rs := [.cell 2 25, .tmp 3]) (n := 32) Tryz.func24 rfl rfl rfl (Nat.le_of_ble_eq_true rfl) (by
 intro (x : Im) hds
 have hs := hashT_sz x.hash x.null
 refine st0 ?_
 refine rg ΦBJ_ok [1, 2] szE ?_
 refine rg ΦBJ_ok [1, 2, 4, 5] szE ?_
 refine rdB (n := 11) ΦBJ_ok [1, 2, 4, 24] szE fun L hL => ?_
 repeat' first | (refine lfd hL szE ?_; clear hL L) | with_reducible apply And.intro | refine sA szE (fun _ => ?_) fun _ => ?_ | refine sAb szE (fun _ => ?_) fun _ => ?_ | refine sAl szE (fun g => ?_) fun g => ?_ | exact sd | exact sde szE | exact sdp szE | refine stk szE ?_ | fail
 all_goals
  refine cn ?_ ?_
  ·intro h; try exact absurd h (by decide)
   all_goals
    have hy := And.intro (imp_no (x := x) (by first | exact .inl (sz0 (by assumption)) | exact .inr (by assumption) | exact .inr (by simp_all))) zeroE
    refine rg ΦBJ_ok [2, 3] szE ?_
    first
    | exact fz hy
  ·intro h; try exact absurd h (by decide)
   all_goals
    have hy := imp_yes (x := x) (sz1 (by assumption)) (by first | assumption | simp_all)
    refine rd ΦBJ_ok 6 [2, 3] szE ?_
    first
    | exact fz hy)
end Go.Proofs.YtpajpkbipagjpaaGreatDoor.Oc
namespace Go.Proofs.YtpajpkbipagjpaaGreatDoor.Oc
open Go Go.RowKit Go.Proofs.YtpajpkbipagjpaaGreatDoor.Vm Go.Proofs.YtpajpkbipagjpaaGreatDoor.Tr Go.IntWalk
set_option maxRecDepth 100000
set_option maxHeartbeats 4000000
@[reducible] def SKd : Sig := ⟨Unit, fun _ => .lst (kindsD.map fun d => [d]), fun _ _ _ => rfl⟩
theorem SKd_dec : SKd.dec (.lst (kindsD.map fun d => [d])) = some () := SKd.dec_enc ()
@[go_sem] theorem ap_SKd {β : Type} {z : β} {ss : List Sig} {ds : List Vm.Data} {f : Fun (SKd :: ss) β} : ap z (SKd :: ss) f (.lst (kindsD.map fun d => [d]) :: ds) = ap z ss (f ()) ds := by rw [ap_cons, SKd_dec, apO_some]
theorem kdL : (kindsD.map fun d => [d]).length = 4 := rfl
theorem kdA {i : Nat} (h : i < 4) : (kindsD.map fun d => [d]).getD i [] = [.str (kindsB.getD i [])] := by
 have : i = 0 ∨ i = 1 ∨ i = 2 ∨ i = 3 := by omega
 rcases this with rfl | rfl | rfl | rfl <;> rfl
theorem idx_hit {s : List UInt8} {i : Nat} (h : i < 4) (hs : s = kindsB.getD i []) : idxK s = (i : Int) := by
 subst hs
 have : i = 0 ∨ i = 1 ∨ i = 2 ∨ i = 3 := by omega
 rcases this with rfl | rfl | rfl | rfl <;> decide
theorem idx_miss {s : List UInt8} (h : ∀ j, j < 4 → ¬ s = kindsB.getD j []) : idxK s = -1 := by
 unfold idxK
 have h0 := h 0 (by decide)
 have h1 := h 1 (by decide)
 have h2 := h 2 (by decide)
 have h3 := h 3 (by decide)
 simp only [kindsB, List.getD_cons_zero, List.getD_cons_succ] at h0 h1 h2 h3
 rw [if_neg h0, if_neg h1, if_neg h2, if_neg h3]
@[go_sem] noncomputable def sindexF : PFn := PF [SKd, SS] (fun (u : Unit) (s : List UInt8) => True) (fun (u : Unit) (s : List UInt8) => [.int .i64 (idxK s)])
theorem sindex_ok : Pure E 85 sindexF := Pure.of_sig (rs := [.tmp 4]) (n := 19) Tryz.func85 rfl rfl rfl (Nat.le_of_ble_eq_true rfl) (by
 intro (u : Unit) (s : List UInt8) hds
 refine st0 ?_
 refine rg sound_nil [0, 1] kdL ?_
 refine rg sound_nil [0, 1, 7, 8] kdL ?_
 refine nx ?_
 refine VC.loopP (ι := Nat) [0, 1, 7] (fun i => [(8, .dat (.int .i64 (i : Int)))]) (fun _ => []) (fun i => i ≤ 4 ∧ ∀ j, j < i → ¬ s = kindsB.getD j []) (fun i => 4 - i) 0 (⟨by omega, fun j hj => by omega⟩) (et) ?_
 rintro i hp; try dsimp only at hp
 refine st0 ?_
 refine rg sound_nil [0, 1, 7, 8, 9] kdL ?_
 refine cn ?_ ?_
 ·intro h; try exact absurd h (by decide)
  try (exfalso; (try simp only [Bool.not_eq_eq_eq_not, Bool.not_true, Bool.not_false, decide_eq_false_iff_not, decide_eq_true_eq] at *); omega)
  all_goals
   refine rg sound_nil [0, 1, 5, 7, 8] kdL ?_
   have hka := kdA (i := i) (by omega)
   refine rg sound_nil [0, 1, 5, 7, 8, 16] (And.intro kdL hka) ?_
   refine cn ?_ ?_
   ·intro h; try exact absurd h (by decide)
    try (exfalso; (try simp only [Bool.not_eq_eq_eq_not, Bool.not_true, Bool.not_false, decide_eq_false_iff_not, decide_eq_true_eq] at *); omega)
    all_goals
     have hy := idx_hit (s := s) (i := i) (by omega) (by simp_all)
     refine rg sound_nil [4] kdL ?_
     first
     | exact fz hy
   ·intro h; try exact absurd h (by decide)
    try (exfalso; (try simp only [Bool.not_eq_eq_eq_not, Bool.not_true, Bool.not_false, decide_eq_false_iff_not, decide_eq_true_eq] at *); omega)
    all_goals
     refine rgL sound_nil kdL ?_
     refine nx ?_
     exact ⟨i + 1, ⟨by omega, fun j hj => by
      rcases Nat.lt_succ_iff_lt_or_eq.1 hj with hj | rfl
      ·exact hp.2 j hj
      ·simp_all⟩, et, by omega⟩
 ·intro h; try exact absurd h (by decide)
  try (exfalso; (try simp only [Bool.not_eq_eq_eq_not, Bool.not_true, Bool.not_false, decide_eq_false_iff_not, decide_eq_true_eq] at *); omega)
  all_goals
   have hy := idx_miss (s := s) (fun j hj => hp.2 j (by omega))
   refine rg sound_nil [4] kdL ?_
   first
   | exact fz hy)
end Go.Proofs.YtpajpkbipagjpaaGreatDoor.Oc
namespace Go.Proofs.YtpajpkbipagjpaaGreatDoor.Oc
open Go Go.RowKit Go.Proofs.YtpajpkbipagjpaaGreatDoor.Vm Go.Proofs.YtpajpkbipagjpaaGreatDoor.Tr Go.IntWalk
set_option maxRecDepth 100000
set_option maxHeartbeats 4000000
def wordN (b : List UInt8) : Nat := Lib.leNat (b.take 8)
theorem wordN_lt (b : List UInt8) : wordN b < 18446744073709551616 := by
 have h := Lib.leNat_lt (b.take 8)
 have h2 : (256 : Nat) ^ (b.take 8).length ≤ 256 ^ 8 := Nat.pow_le_pow_right (by decide) (by rw [List.length_take]; omega)
 have h3 : (256 : Nat) ^ 8 = 18446744073709551616 := by decide
 unfold wordN; omega
theorem word_asc {b : List UInt8} (h : 8 ≤ b.length) (hz : wordN b &&& 9259542123273814144 = 0) : ∀ x ∈ b.take 8, x.toNat < 128 := by
 have h8 : (b.take 8).length = 8 := by rw [List.length_take]; omega
 have := Lib.leNat_mask (b.take 8)
 rw [h8, Lib.maskN8] at this
 exact this.1 hz
theorem take8' {b : List UInt8} (h : 8 ≤ b.length) : b.take 8 = [b.getD 0 0, b.getD 1 0, b.getD 2 0, b.getD 3 0, b.getD 4 0, b.getD 5 0, b.getD 6 0, b.getD 7 0] := by
 match b, h with
 | a0 :: a1 :: a2 :: a3 :: a4 :: a5 :: a6 :: a7 :: r, _ => simp
theorem word_eq {b : List UInt8} (h : 8 ≤ b.length) : ((wordN b : Nat) : Int) = ((b.getD 0 0).toNat : Int) + ((b.getD 1 0).toNat : Int) * 256 + ((b.getD 2 0).toNat : Int) * 65536 + ((b.getD 3 0).toNat : Int) * 16777216 + ((b.getD 4 0).toNat : Int) * 4294967296 + ((b.getD 5 0).toNat : Int) * 1099511627776 + ((b.getD 6 0).toNat : Int) * 281474976710656 + ((b.getD 7 0).toNat : Int) * 72057594037927936 := by
 unfold wordN
 rw [take8' h]
 simp only [Lib.leNat]
 omega
theorem or_mask {a b m : Nat} (h : (a ||| b) &&& m = 0) : a &&& m = 0 ∧ b &&& m = 0 := by
 rw [Nat.and_or_distrib_right] at h
 exact Nat.or_eq_zero_iff.1 h
@[go_sem] noncomputable def uwordF : PFn := PF [SY] (fun (b : List UInt8) => 8 ≤ b.length ∧ b.length ≤ 4611686018427387904) (fun (b : List UInt8) => [.int .u64 (wordN b : Int)])
theorem uword_ok : Pure E 332 uwordF := Pure.of_sig (rs := [.tmp 2]) (n := 71) Tryz.func332 rfl rfl rfl (Nat.le_of_ble_eq_true rfl) (by
 intro (b : List UInt8) hds
 obtain ⟨h8, hlen⟩ := hds
 refine st0 ?_
 refine rg sound_nil [0] trivial ?_
 refine cn ?_ ?_
 ·intro h; try exact absurd h (by decide)
  all_goals
   refine rd sound_nil 23 [2] trivial ?_
   refine fi trivial ?_
   rw [word_eq h8]
   have b0 := (b.getD 0 0).toNat_lt
   have b1 := (b.getD 1 0).toNat_lt
   have b2 := (b.getD 2 0).toNat_lt
   have b3 := (b.getD 3 0).toNat_lt
   have b4 := (b.getD 4 0).toNat_lt
   have b5 := (b.getD 5 0).toNat_lt
   have b6 := (b.getD 6 0).toNat_lt
   have b7 := (b.getD 7 0).toNat_lt
   simp only [show Int.toNat 2 = 2 from rfl, show Int.toNat 3 = 3 from rfl, show Int.toNat 4 = 4 from rfl, show Int.toNat 5 = 5 from rfl, show Int.toNat 6 = 6 from rfl, show Int.toNat 7 = 7 from rfl]
   generalize (b.getD 0 0).toNat = x0 at b0 ⊢
   generalize (b.getD 1 0).toNat = x1 at b1 ⊢
   generalize (b.getD 2 0).toNat = x2 at b2 ⊢
   generalize (b.getD 3 0).toNat = x3 at b3 ⊢
   generalize (b.getD 4 0).toNat = x4 at b4 ⊢
   generalize (b.getD 5 0).toNat = x5 at b5 ⊢
   generalize (b.getD 6 0).toNat = x6 at b6 ⊢
   generalize (b.getD 7 0).toNat = x7 at b7 ⊢
   simp only [show (2 : Int) ^ min (Int.toNat 8) 64 = 256 by decide, show (2 : Int) ^ min (Int.toNat 16) 64 = 65536 by decide, show (2 : Int) ^ min (Int.toNat 24) 64 = 16777216 by decide, show (2 : Int) ^ min (Int.toNat 32) 64 = 4294967296 by decide, show (2 : Int) ^ min (Int.toNat 40) 64 = 1099511627776 by decide, show (2 : Int) ^ min (Int.toNat 48) 64 = 281474976710656 by decide, show (2 : Int) ^ min (Int.toNat 56) 64 = 72057594037927936 by decide]
   simp (disch := omega) only [u64_wrap_id, u64_or8, u64_or16, u64_or24, u64_or32, u64_or40, u64_or48, u64_or56]
 ·intro h; try exact absurd h (by decide)
  all_goals
   refine rd sound_nil 47 [2] trivial ?_
   refine fi trivial ?_
   rw [word_eq h8]
   have b0 := (b.getD 0 0).toNat_lt
   have b1 := (b.getD 1 0).toNat_lt
   have b2 := (b.getD 2 0).toNat_lt
   have b3 := (b.getD 3 0).toNat_lt
   have b4 := (b.getD 4 0).toNat_lt
   have b5 := (b.getD 5 0).toNat_lt
   have b6 := (b.getD 6 0).toNat_lt
   have b7 := (b.getD 7 0).toNat_lt
   simp only [show Int.toNat 2 = 2 from rfl, show Int.toNat 3 = 3 from rfl, show Int.toNat 4 = 4 from rfl, show Int.toNat 5 = 5 from rfl, show Int.toNat 6 = 6 from rfl, show Int.toNat 7 = 7 from rfl]
   generalize (b.getD 0 0).toNat = x0 at b0 ⊢
   generalize (b.getD 1 0).toNat = x1 at b1 ⊢
   generalize (b.getD 2 0).toNat = x2 at b2 ⊢
   generalize (b.getD 3 0).toNat = x3 at b3 ⊢
   generalize (b.getD 4 0).toNat = x4 at b4 ⊢
   generalize (b.getD 5 0).toNat = x5 at b5 ⊢
   generalize (b.getD 6 0).toNat = x6 at b6 ⊢
   generalize (b.getD 7 0).toNat = x7 at b7 ⊢
   simp only [show (2 : Int) ^ min (Int.toNat 8) 64 = 256 by decide, show (2 : Int) ^ min (Int.toNat 16) 64 = 65536 by decide, show (2 : Int) ^ min (Int.toNat 24) 64 = 16777216 by decide, show (2 : Int) ^ min (Int.toNat 32) 64 = 4294967296 by decide, show (2 : Int) ^ min (Int.toNat 40) 64 = 1099511627776 by decide, show (2 : Int) ^ min (Int.toNat 48) 64 = 281474976710656 by decide, show (2 : Int) ^ min (Int.toNat 56) 64 = 72057594037927936 by decide]
   simp (disch := omega) only [u64_wrap_id, u64_or8, u64_or16, u64_or24, u64_or32, u64_or40, u64_or48, u64_or56])
end Go.Proofs.YtpajpkbipagjpaaGreatDoor.Oc
namespace Go.Proofs.YtpajpkbipagjpaaGreatDoor.Oc
open Go Go.RowKit Go.Proofs.YtpajpkbipagjpaaGreatDoor.Vm Go.Proofs.YtpajpkbipagjpaaGreatDoor.Tr Go.IntWalk
set_option maxRecDepth 100000
set_option maxHeartbeats 4000000
theorem and_hi {n : Nat} (hn : n < 18446744073709551616) (h : bits .and .u64 (n : Int) 9259542123273814144 = 0) : n &&& 9259542123273814144 = 0 := by
 have e := u64_and_nat n 9259542123273814144 hn (by omega)
 rw [show ((9259542123273814144 : Nat) : Int) = 9259542123273814144 from rfl] at e
 rw [e] at h; omega
theorem or_nat {a b : Nat} (ha : a < 18446744073709551616) (hb : b < 18446744073709551616) : bits .or .u64 (a : Int) (b : Int) = ((a ||| b : Nat) : Int) ∧ (a ||| b) < 18446744073709551616 := by
 have h : (a ||| b) < 2 ^ 64 := Nat.or_lt_two_pow (by omega) (by omega)
 exact ⟨u64_or_nat a b ha hb, by omega⟩
theorem v1 {r : List UInt8} (h0 : 0 < (r.length : Int)) (h : ((r.getD 0 0).toNat : Int) < 128) : validB (r.drop 1) = validB r := by
 refine validB_asc 1 r (by omega) fun x hx => ?_
 match r, h0 with
 | y :: s, _ =>
   simp only [List.take_succ_cons, List.take_zero, List.mem_singleton] at hx
   subst hx
   simp only [List.getD_cons_zero] at h; omega
theorem w8 {r : List UInt8} (hl : 8 ≤ r.length) (h : wordN r &&& 9259542123273814144 = 0) : validB (r.drop 8) = validB r := validB_asc 8 r hl (word_asc hl h)
theorem w8b {r : List UInt8} (hl : 8 ≤ r.length) (h : bits .and .u64 (wordN r : Int) 9259542123273814144 = 0) : validB (r.drop 8) = validB r := w8 hl (and_hi (wordN_lt r) h)
theorem w16 {r : List UInt8} (hl : 16 ≤ r.length) (h : bits .and .u64 (bits .or .u64 (wordN r : Int) (wordN (r.drop 8) : Int)) 9259542123273814144 = 0) : validB (r.drop 16) = validB r := by
 obtain ⟨e, el⟩ := or_nat (wordN_lt r) (wordN_lt (r.drop 8))
 rw [e] at h
 obtain ⟨a, b⟩ := or_mask (and_hi el h)
 rw [show r.drop 16 = (r.drop 8).drop 8 by rw [List.drop_drop], w8 (by rw [List.length_drop]; omega) b, w8 (by omega) a]
theorem w32 {r : List UInt8} (hl : 32 ≤ r.length) (h : bits .and .u64 (bits .or .u64 (bits .or .u64 (wordN r : Int) (wordN (r.drop 8) : Int)) (bits .or .u64 (wordN (r.drop 16) : Int) (wordN (r.drop 24) : Int))) 9259542123273814144 = 0) : validB (r.drop 32) = validB r := by
 obtain ⟨e, el⟩ := or_nat (wordN_lt r) (wordN_lt (r.drop 8))
 obtain ⟨f, fl⟩ := or_nat (wordN_lt (r.drop 16)) (wordN_lt (r.drop 24))
 obtain ⟨g, gl⟩ := or_nat el fl
 rw [e, f, g] at h
 obtain ⟨ab, cd⟩ := or_mask (and_hi gl h)
 obtain ⟨a, b⟩ := or_mask ab
 obtain ⟨c, d⟩ := or_mask cd
 rw [show r.drop 32 = (r.drop 24).drop 8 by rw [List.drop_drop], w8 (by rw [List.length_drop]; omega) d, show r.drop 24 = (r.drop 16).drop 8 by rw [List.drop_drop], w8 (by rw [List.length_drop]; omega) c,
  show r.drop 16 = (r.drop 8).drop 8 by rw [List.drop_drop], w8 (by rw [List.length_drop]; omega) b, w8 (by omega) a]
theorem slE : (∀ r : List UInt8, (r.drop 1).take ((r.length : Int) - 1).toNat = r.drop 1) ∧ (∀ r : List UInt8, (r.drop (Int.toNat 2)).take ((r.length : Int) - 2).toNat = r.drop 2) ∧ (∀ r : List UInt8, (r.drop (Int.toNat 3)).take ((r.length : Int) - 3).toNat = r.drop 3) ∧ (∀ r : List UInt8, (r.drop (Int.toNat 4)).take ((r.length : Int) - 4).toNat = r.drop 4) ∧ (∀ r : List UInt8, (r.drop (Int.toNat 8)).take ((r.length : Int) - 8).toNat = r.drop 8) ∧ (∀ r : List UInt8, (r.drop (Int.toNat 16)).take ((r.length : Int) - 16).toNat = r.drop 16) ∧ (∀ r : List UInt8, (r.drop (Int.toNat 24)).take ((r.length : Int) - 24).toNat = r.drop 24) ∧ (∀ r : List UInt8, (r.drop (Int.toNat 32)).take ((r.length : Int) - 32).toNat = r.drop 32) ∧ (∀ (r : List UInt8) (k : Nat), (r.drop k).length = r.length - k) := by
 refine ⟨?_, ?_, ?_, ?_, ?_, ?_, ?_, ?_, fun r k => List.length_drop⟩
 all_goals (intro r; refine List.take_of_length_le ?_; rw [List.length_drop]; first | omega | (simp; done) | (simp; omega))
theorem fE : ∀ x : UInt8, (firstD.drop (x.toNat * 1)).take 1 = [.int .u8 ((fstU x.toNat : Nat) : Int)] := by
 intro x
 rw [Nat.mul_one]
 have hx := x.toNat_lt
 generalize x.toNat = n at hx ⊢
 unfold firstD
 rw [← List.map_drop, ← List.map_take, List.drop_eq_getElem_cons (by simpa using hx)]
 simp
theorem cls8 {r : List UInt8} (h0 : ¬ r.length = 0) (h1 : ¬ ((r.getD 0 0).toNat : Int) < 128) : (((fstU (r.getD 0 0).toNat : Nat) : Int) = 241 ∧ ch8 r = 0) ∨ (((fstU (r.getD 0 0).toNat : Nat) : Int) = 2 ∧ ch8 r = if 2 ≤ r.length ∧ 128 ≤ c8 r 1 ∧ c8 r 1 ≤ 191 then 2 else 0) ∨ (((fstU (r.getD 0 0).toNat : Nat) : Int) = 19 ∧ ch8 r = if 3 ≤ r.length ∧ 160 ≤ c8 r 1 ∧ c8 r 1 ≤ 191 ∧ 128 ≤ c8 r 2 ∧ c8 r 2 ≤ 191 then 3 else 0) ∨ (((fstU (r.getD 0 0).toNat : Nat) : Int) = 3 ∧ ch8 r = if 3 ≤ r.length ∧ 128 ≤ c8 r 1 ∧ c8 r 1 ≤ 191 ∧ 128 ≤ c8 r 2 ∧ c8 r 2 ≤ 191 then 3 else 0) ∨ (((fstU (r.getD 0 0).toNat : Nat) : Int) = 35 ∧ ch8 r = if 3 ≤ r.length ∧ 128 ≤ c8 r 1 ∧ c8 r 1 ≤ 159 ∧ 128 ≤ c8 r 2 ∧ c8 r 2 ≤ 191 then 3 else 0) ∨ (((fstU (r.getD 0 0).toNat : Nat) : Int) = 52 ∧ ch8 r = if 4 ≤ r.length ∧ 144 ≤ c8 r 1 ∧ c8 r 1 ≤ 191 ∧ 128 ≤ c8 r 2 ∧ c8 r 2 ≤ 191 ∧ 128 ≤ c8 r 3 ∧ c8 r 3 ≤ 191 then 4 else 0) ∨ (((fstU (r.getD 0 0).toNat : Nat) : Int) = 4 ∧ ch8 r = if 4 ≤ r.length ∧ 128 ≤ c8 r 1 ∧ c8 r 1 ≤ 191 ∧ 128 ≤ c8 r 2 ∧ c8 r 2 ≤ 191 ∧ 128 ≤ c8 r 3 ∧ c8 r 3 ≤ 191 then 4 else 0) ∨ (((fstU (r.getD 0 0).toNat : Nat) : Int) = 68 ∧ ch8 r = if 4 ≤ r.length ∧ 128 ≤ c8 r 1 ∧ c8 r 1 ≤ 143 ∧ 128 ≤ c8 r 2 ∧ c8 r 2 ≤ 191 ∧ 128 ≤ c8 r 3 ∧ c8 r 3 ≤ 191 then 4 else 0) := by
 have hx := (r.getD 0 0).toNat_lt
 have hc : ((r.getD 0 0).toNat < 194 ∨ 245 ≤ (r.getD 0 0).toNat) ∨ (194 ≤ (r.getD 0 0).toNat ∧ (r.getD 0 0).toNat ≤ 223) ∨ ((r.getD 0 0).toNat = 224) ∨ (225 ≤ (r.getD 0 0).toNat ∧ (r.getD 0 0).toNat ≤ 239 ∧ (r.getD 0 0).toNat ≠ 237) ∨ ((r.getD 0 0).toNat = 237) ∨ ((r.getD 0 0).toNat = 240) ∨ (241 ≤ (r.getD 0 0).toNat ∧ (r.getD 0 0).toNat ≤ 243) ∨ ((r.getD 0 0).toNat = 244) := by omega
 rcases hc with hc | hc | hc | hc | hc | hc | hc | hc
 ·refine Or.inl ?_; exact ⟨by unfold fstU; (repeat' split) <;> omega, by unfold ch8; rw [if_neg h0, if_neg (by unfold c8; omega), if_neg (by unfold c8; omega), if_neg (by unfold c8; omega), if_neg (by unfold c8; omega)]⟩
 ·refine Or.inr (Or.inl ?_); exact ⟨by unfold fstU; (repeat' split) <;> omega, by unfold ch8; rw [if_neg h0, if_neg (by unfold c8; omega), if_pos (by unfold c8; omega)]⟩
 ·refine Or.inr (Or.inr (Or.inl ?_)); exact ⟨by unfold fstU; (repeat' split) <;> omega, by unfold ch8; rw [if_neg h0, if_neg (by unfold c8; omega), if_neg (by unfold c8; omega), if_pos (by unfold c8; omega), if_pos (show c8 r 0 = 224 by unfold c8; omega), if_neg (show ¬ c8 r 0 = 237 by unfold c8; omega)]⟩
 ·refine Or.inr (Or.inr (Or.inr (Or.inl ?_))); exact ⟨by unfold fstU; (repeat' split) <;> omega, by unfold ch8; rw [if_neg h0, if_neg (by unfold c8; omega), if_neg (by unfold c8; omega), if_pos (by unfold c8; omega), if_neg (show ¬ c8 r 0 = 224 by unfold c8; omega), if_neg (show ¬ c8 r 0 = 237 by unfold c8; omega)]⟩
 ·refine Or.inr (Or.inr (Or.inr (Or.inr (Or.inl ?_)))); exact ⟨by unfold fstU; (repeat' split) <;> omega, by unfold ch8; rw [if_neg h0, if_neg (by unfold c8; omega), if_neg (by unfold c8; omega), if_pos (by unfold c8; omega), if_neg (show ¬ c8 r 0 = 224 by unfold c8; omega), if_pos (show c8 r 0 = 237 by unfold c8; omega)]⟩
 ·refine Or.inr (Or.inr (Or.inr (Or.inr (Or.inr (Or.inl ?_))))); exact ⟨by unfold fstU; (repeat' split) <;> omega, by unfold ch8; rw [if_neg h0, if_neg (by unfold c8; omega), if_neg (by unfold c8; omega), if_neg (by unfold c8; omega), if_pos (by unfold c8; omega), if_pos (show c8 r 0 = 240 by unfold c8; omega), if_neg (show ¬ c8 r 0 = 244 by unfold c8; omega)]⟩
 ·refine Or.inr (Or.inr (Or.inr (Or.inr (Or.inr (Or.inr (Or.inl ?_)))))); exact ⟨by unfold fstU; (repeat' split) <;> omega, by unfold ch8; rw [if_neg h0, if_neg (by unfold c8; omega), if_neg (by unfold c8; omega), if_neg (by unfold c8; omega), if_pos (by unfold c8; omega), if_neg (show ¬ c8 r 0 = 240 by unfold c8; omega), if_neg (show ¬ c8 r 0 = 244 by unfold c8; omega)]⟩
 ·refine Or.inr (Or.inr (Or.inr (Or.inr (Or.inr (Or.inr (Or.inr (?_))))))); exact ⟨by unfold fstU; (repeat' split) <;> omega, by unfold ch8; rw [if_neg h0, if_neg (by unfold c8; omega), if_neg (by unfold c8; omega), if_neg (by unfold c8; omega), if_pos (by unfold c8; omega), if_neg (show ¬ c8 r 0 = 240 by unfold c8; omega), if_pos (show c8 r 0 = 244 by unfold c8; omega)]⟩
theorem cls9 {r : List UInt8} (h0 : ¬ r.length = 0) (h1 : ¬ ((r.getD 0 0).toNat : Int) < 128) : ∃ v lo hi : Int, ((fstU (r.getD 0 0).toNat : Nat) : Int) = v ∧ ((acceptD.drop ((Int.fdiv v (2 ^ min (Int.toNat 4) 8)).toNat * 2)).take 2 = [.int .u8 lo, .int .u8 hi]) ∧ (0 ≤ Int.fdiv v (2 ^ min (Int.toNat 4) 8) ∧ Int.fdiv v (2 ^ min (Int.toNat 4) 8) < 16) ∧ ((bits .and .u8 v 7 = 1 ∧ ch8 r = 0) ∨ (bits .and .u8 v 7 = 2 ∧ ((¬ (2 ≤ r.length ∧ lo ≤ (c8 r 1 : Int) ∧ (c8 r 1 : Int) ≤ hi) → ch8 r = 0) ∧ ((2 ≤ r.length ∧ lo ≤ (c8 r 1 : Int) ∧ (c8 r 1 : Int) ≤ hi) → ch8 r = 2))) ∨ (bits .and .u8 v 7 = 3 ∧ ((¬ (3 ≤ r.length ∧ lo ≤ (c8 r 1 : Int) ∧ (c8 r 1 : Int) ≤ hi ∧ 128 ≤ (c8 r 2 : Int) ∧ (c8 r 2 : Int) ≤ 191) → ch8 r = 0) ∧ ((3 ≤ r.length ∧ lo ≤ (c8 r 1 : Int) ∧ (c8 r 1 : Int) ≤ hi ∧ 128 ≤ (c8 r 2 : Int) ∧ (c8 r 2 : Int) ≤ 191) → ch8 r = 3))) ∨ (bits .and .u8 v 7 = 4 ∧ ((¬ (4 ≤ r.length ∧ lo ≤ (c8 r 1 : Int) ∧ (c8 r 1 : Int) ≤ hi ∧ 128 ≤ (c8 r 2 : Int) ∧ (c8 r 2 : Int) ≤ 191 ∧ 128 ≤ (c8 r 3 : Int) ∧ (c8 r 3 : Int) ≤ 191) → ch8 r = 0) ∧ ((4 ≤ r.length ∧ lo ≤ (c8 r 1 : Int) ∧ (c8 r 1 : Int) ≤ hi ∧ 128 ≤ (c8 r 2 : Int) ∧ (c8 r 2 : Int) ≤ 191 ∧ 128 ≤ (c8 r 3 : Int) ∧ (c8 r 3 : Int) ≤ 191) → ch8 r = 4)))) := by
 rcases cls8 h0 h1 with ⟨hf, hq⟩ | ⟨hf, hq⟩ | ⟨hf, hq⟩ | ⟨hf, hq⟩ | ⟨hf, hq⟩ | ⟨hf, hq⟩ | ⟨hf, hq⟩ | ⟨hf, hq⟩
 ·exact ⟨241, 0, 0, hf, rfl, by decide, (.inl ⟨by decide, hq⟩)⟩
 ·exact ⟨2, 128, 191, hf, rfl, by decide, .inr (.inl ⟨by decide, fun h => hq.trans (if_neg (by omega)), fun h => hq.trans (if_pos (by omega))⟩)⟩
 ·exact ⟨19, 160, 191, hf, rfl, by decide, .inr (.inr (.inl ⟨by decide, fun h => hq.trans (if_neg (by omega)), fun h => hq.trans (if_pos (by omega))⟩))⟩
 ·exact ⟨3, 128, 191, hf, rfl, by decide, .inr (.inr (.inl ⟨by decide, fun h => hq.trans (if_neg (by omega)), fun h => hq.trans (if_pos (by omega))⟩))⟩
 ·exact ⟨35, 128, 159, hf, rfl, by decide, .inr (.inr (.inl ⟨by decide, fun h => hq.trans (if_neg (by omega)), fun h => hq.trans (if_pos (by omega))⟩))⟩
 ·exact ⟨52, 144, 191, hf, rfl, by decide, .inr (.inr (.inr (⟨by decide, fun h => hq.trans (if_neg (by omega)), fun h => hq.trans (if_pos (by omega))⟩)))⟩
 ·exact ⟨4, 128, 191, hf, rfl, by decide, .inr (.inr (.inr (⟨by decide, fun h => hq.trans (if_neg (by omega)), fun h => hq.trans (if_pos (by omega))⟩)))⟩
 ·exact ⟨68, 128, 143, hf, rfl, by decide, .inr (.inr (.inr (⟨by decide, fun h => hq.trans (if_neg (by omega)), fun h => hq.trans (if_pos (by omega))⟩)))⟩
noncomputable def ΦUV : Fns := tab [(332, uwordF)]
theorem ΦUV_ok : Sound E ΦUV := sound_cons (by kernel_rfl) uword_ok (sound_nil)
@[go_sem] theorem ΦUV_r : ΦUV 332 = some uwordF := rfl
@[go_sem] noncomputable def uvalidF : PFn := PF [SY] (fun (b : List UInt8) => b.length ≤ 4611686018427387904) (fun (b : List UInt8) => [.bool (validB b)])
theorem uvalid_ok : Pure E 301 uvalidF := Pure.of_sig (rs := [.tmp 2]) (n := 188) Tryz.func301 rfl rfl rfl (Nat.le_of_ble_eq_true rfl) (by
 intro (b : List UInt8) hds
 refine st0 ?_
 refine rg ΦUV_ok [0] slE ?_
 refine rg ΦUV_ok [0] slE ?_
 refine nx ?_
 refine VC.loopP (ι := List UInt8) [] (fun r => [(0, .dat (.lst (bytesD r)))]) (fun _ => []) (fun r => r.length ≤ b.length ∧ validB r = validB b) (fun r => r.length) b ⟨Nat.le_refl _, rfl⟩ ?_ ?_
 ·rcases Nat.eq_zero_or_pos b.length with hz | hz
  ·obtain rfl := List.eq_nil_of_length_eq_zero hz
   refine (Ent.frzT (t := 0) (x := .lst []) (d := .nilsl) (by simp -implicitDefEqProofs only [go_sem, Nat.reduceLT, Nat.reduceAdd, Nat.reduceEqDiff, reduceIte, Nat.reduceMul, Nat.reduceSub, reduceCtorEq, Int.reduceNe, Int.reduceEq, ne_eq, Nat.reduceLeDiff, Nat.reduceMod, Nat.reduceDiv]; exact rfl) (by simp -implicitDefEqProofs only [go_sem, Nat.reduceLT, Nat.reduceAdd, Nat.reduceEqDiff, reduceIte, Nat.reduceMul, Nat.reduceSub, reduceCtorEq, Int.reduceNe, Int.reduceEq, ne_eq, Nat.reduceLeDiff, Nat.reduceMod, Nat.reduceDiv]; exact rfl)).trans (Ent.to rfl rfl rfl ?_ ?_)
   ·simp -implicitDefEqProofs only [go_sem, Nat.reduceLT, Nat.reduceAdd, Nat.reduceEqDiff, reduceIte, Nat.reduceMul, Nat.reduceSub, reduceCtorEq, Int.reduceNe, Int.reduceEq, ne_eq, Nat.reduceLeDiff, Nat.reduceMod, Nat.reduceDiv]; (try simp only [D.dat.injEq, Vm.Data.int.injEq, true_and, and_true, and_self, eq_self]); (try omega); (try ((repeat' apply And.intro) <;> first | omega | rfl))
   ·(repeat' (first | exact all_nil | (refine all_cons ?_ ?_))) <;> (simp -implicitDefEqProofs only [go_sem, Nat.reduceLT, Nat.reduceAdd, Nat.reduceEqDiff, reduceIte, Nat.reduceMul, Nat.reduceSub, reduceCtorEq, Int.reduceNe, Int.reduceEq, ne_eq, Nat.reduceLeDiff, Nat.reduceMod, Nat.reduceDiv]; (try rfl); skip)
  ·rw [clipD_pos (by omega)]
   refine Ent.to rfl rfl rfl ?_ ?_
   ·simp -implicitDefEqProofs only [go_sem, Nat.reduceLT, Nat.reduceAdd, Nat.reduceEqDiff, reduceIte, Nat.reduceMul, Nat.reduceSub, reduceCtorEq, Int.reduceNe, Int.reduceEq, ne_eq, Nat.reduceLeDiff, Nat.reduceMod, Nat.reduceDiv]; (try simp only [D.dat.injEq, Vm.Data.int.injEq, true_and, and_true, and_self, eq_self]); (try omega); (try ((repeat' apply And.intro) <;> first | omega | rfl))
   ·(repeat' (first | exact all_nil | (refine all_cons ?_ ?_))) <;> (simp -implicitDefEqProofs only [go_sem, Nat.reduceLT, Nat.reduceAdd, Nat.reduceEqDiff, reduceIte, Nat.reduceMul, Nat.reduceSub, reduceCtorEq, Int.reduceNe, Int.reduceEq, ne_eq, Nat.reduceLeDiff, Nat.reduceMod, Nat.reduceDiv]; (try rfl); skip)
 intro r hp; try dsimp only at hp
 obtain ⟨hrl, hrv⟩ := hp
 refine st0 ?_
 refine rg ΦUV_ok [0, 15] slE ?_
 refine cn ?_ ?_
 ·intro h; try exact absurd h (by decide)
  all_goals
   refine rg ΦUV_ok [0, 3] slE ?_
   refine rg ΦUV_ok [0, 3, 20] slE ?_
   refine cn ?_ ?_
   ·intro h; try exact absurd h (by decide)
    all_goals
     have hv1 := v1 (r := r) (by assumption) (by assumption)
     refine rg ΦUV_ok [0] slE ?_
     obtain ⟨r1, er1⟩ : ∃ r1, r.drop 1 = r1 := ⟨_, rfl⟩
     have hl1 : r1.length = r.length - 1 := by rw [← er1, List.length_drop]
     rw [er1] at hv1 ⊢
     have hend : r1.length < r.length ∧ validB r1 = validB r := ⟨by omega, hv1⟩
     refine rB ΦUV_ok [0, 31] slE fun K' hK => ?_
     repeat' first | (refine lf hK slE ?_; clear hK K') | with_reducible apply And.intro | refine sA slE (fun _ => ?_) fun _ => ?_ | refine sAb slE (fun _ => ?_) fun _ => ?_ | refine sAl slE (fun g => ?_) fun g => ?_ | exact sd | exact sde slE | exact sdp slE | refine stk slE ?_ | fail
     all_goals
      refine cn ?_ ?_
      ·intro h; try exact absurd h (by decide)
       all_goals
        have hv8 := (w8b (r := r1) (by omega) (by assumption)).trans hv1
        refine rg ΦUV_ok [0] slE ?_
        obtain ⟨r8, er8⟩ : ∃ r8, r1.drop 8 = r8 := ⟨_, rfl⟩
        have hl8 : r8.length = r1.length - 8 := by rw [← er8, List.length_drop]
        rw [er8] at hv8 ⊢
        have hend : r8.length < r.length ∧ validB r8 = validB r := ⟨by omega, hv8⟩
        refine rdB (n := 13) ΦUV_ok [0, 46] slE fun L hL => ?_
        repeat' first | (refine lfd hL slE ?_; clear hL L) | with_reducible apply And.intro | refine sA slE (fun _ => ?_) fun _ => ?_ | refine sAb slE (fun _ => ?_) fun _ => ?_ | refine sAl slE (fun g => ?_) fun g => ?_ | exact sd | exact sde slE | exact sdp slE | refine stk slE ?_ | fail
        all_goals
         refine cn ?_ ?_
         ·intro h; try exact absurd h (by decide)
          all_goals
           have hv16 := (w16 (r := r8) (by omega) (by assumption)).trans hv8
           refine rg ΦUV_ok [0] slE ?_
           obtain ⟨r16, er16⟩ : ∃ r16, r8.drop 16 = r16 := ⟨_, rfl⟩
           have hl16 : r16.length = r8.length - 16 := by rw [← er16, List.length_drop]
           rw [er16] at hv16 ⊢
           have hend : r16.length < r.length ∧ validB r16 = validB r := ⟨by omega, hv16⟩
           refine nx ?_
           refine VC.loopP (ι := List UInt8) [] (fun s => [(0, .dat (.lst (bytesD s)))]) (fun _ => []) (fun s => s.length < r.length ∧ validB s = validB r) (fun s => s.length) _ hend ?_ ?_
           ·refine Ent.to rfl rfl rfl ?_ ?_
            ·simp -implicitDefEqProofs only [go_sem, Nat.reduceLT, Nat.reduceAdd, Nat.reduceEqDiff, reduceIte, Nat.reduceMul, Nat.reduceSub, reduceCtorEq, Int.reduceNe, Int.reduceEq, ne_eq, Nat.reduceLeDiff, Nat.reduceMod, Nat.reduceDiv]; (try simp only [D.dat.injEq, Vm.Data.int.injEq, true_and, and_true, and_self, eq_self]); (try omega); (try ((repeat' apply And.intro) <;> first | omega | rfl))
            ·(repeat' (first | exact all_nil | (refine all_cons ?_ ?_))) <;> (simp -implicitDefEqProofs only [go_sem, Nat.reduceLT, Nat.reduceAdd, Nat.reduceEqDiff, reduceIte, Nat.reduceMul, Nat.reduceSub, reduceCtorEq, Int.reduceNe, Int.reduceEq, ne_eq, Nat.reduceLeDiff, Nat.reduceMod, Nat.reduceDiv]; (try rfl); skip)
           intro s hs; try dsimp only at hs
           refine st0 ?_
           have hend := hs
           refine rdB (n := 21) ΦUV_ok [0, 69] slE fun L hL => ?_
           repeat' first | (refine lfd hL slE ?_; clear hL L) | with_reducible apply And.intro | refine sA slE (fun _ => ?_) fun _ => ?_ | refine sAb slE (fun _ => ?_) fun _ => ?_ | refine sAl slE (fun g => ?_) fun g => ?_ | exact sd | exact sde slE | exact sdp slE | refine stk slE ?_ | fail
           all_goals
            refine cn ?_ ?_
            ·intro h; try exact absurd h (by decide)
             all_goals
              have hv32 := (w32 (r := s) (by omega) (by assumption)).trans hs.2
              have hnx : ((s.drop 32).length < r.length ∧ validB (s.drop 32) = validB r) ∧ (s.drop 32).length < s.length := ⟨⟨by rw [List.length_drop]; omega, hv32⟩, by rw [List.length_drop]; omega⟩
              refine rgL ΦUV_ok slE ?_
              refine nx ?_
              refine ⟨_, hnx.1, ?_, hnx.2⟩
              refine Ent.to rfl rfl rfl ?_ ?_
              ·simp -implicitDefEqProofs only [go_sem, Nat.reduceLT, Nat.reduceAdd, Nat.reduceEqDiff, reduceIte, Nat.reduceMul, Nat.reduceSub, reduceCtorEq, Int.reduceNe, Int.reduceEq, ne_eq, Nat.reduceLeDiff, Nat.reduceMod, Nat.reduceDiv]; (try simp only [D.dat.injEq, Vm.Data.int.injEq, true_and, and_true, and_self, eq_self]); (try omega); (try ((repeat' apply And.intro) <;> first | omega | rfl))
              ·(repeat' (first | exact all_nil | (refine all_cons ?_ ?_))) <;> (simp -implicitDefEqProofs only [go_sem, Nat.reduceLT, Nat.reduceAdd, Nat.reduceEqDiff, reduceIte, Nat.reduceMul, Nat.reduceSub, reduceCtorEq, Int.reduceNe, Int.reduceEq, ne_eq, Nat.reduceLeDiff, Nat.reduceMod, Nat.reduceDiv]; (try rfl); skip)
            ·intro h; try exact absurd h (by decide)
             all_goals
              refine nx ?_
              refine ⟨_, ⟨Nat.le_trans (Nat.le_of_lt hend.1) hrl, hend.2.trans hrv⟩, ?_, hend.1⟩
              refine Ent.to rfl rfl rfl ?_ ?_
              ·simp -implicitDefEqProofs only [go_sem, Nat.reduceLT, Nat.reduceAdd, Nat.reduceEqDiff, reduceIte, Nat.reduceMul, Nat.reduceSub, reduceCtorEq, Int.reduceNe, Int.reduceEq, ne_eq, Nat.reduceLeDiff, Nat.reduceMod, Nat.reduceDiv]; (try simp only [D.dat.injEq, Vm.Data.int.injEq, true_and, and_true, and_self, eq_self]); (try omega); (try ((repeat' apply And.intro) <;> first | omega | rfl))
              ·(repeat' (first | exact all_nil | (refine all_cons ?_ ?_))) <;> (simp -implicitDefEqProofs only [go_sem, Nat.reduceLT, Nat.reduceAdd, Nat.reduceEqDiff, reduceIte, Nat.reduceMul, Nat.reduceSub, reduceCtorEq, Int.reduceNe, Int.reduceEq, ne_eq, Nat.reduceLeDiff, Nat.reduceMod, Nat.reduceDiv]; (try rfl); skip)
         ·intro h; try exact absurd h (by decide)
          all_goals
           refine nx ?_
           refine ⟨_, ⟨Nat.le_trans (Nat.le_of_lt hend.1) hrl, hend.2.trans hrv⟩, ?_, hend.1⟩
           refine Ent.to rfl rfl rfl ?_ ?_
           ·simp -implicitDefEqProofs only [go_sem, Nat.reduceLT, Nat.reduceAdd, Nat.reduceEqDiff, reduceIte, Nat.reduceMul, Nat.reduceSub, reduceCtorEq, Int.reduceNe, Int.reduceEq, ne_eq, Nat.reduceLeDiff, Nat.reduceMod, Nat.reduceDiv]; (try simp only [D.dat.injEq, Vm.Data.int.injEq, true_and, and_true, and_self, eq_self]); (try omega); (try ((repeat' apply And.intro) <;> first | omega | rfl))
           ·(repeat' (first | exact all_nil | (refine all_cons ?_ ?_))) <;> (simp -implicitDefEqProofs only [go_sem, Nat.reduceLT, Nat.reduceAdd, Nat.reduceEqDiff, reduceIte, Nat.reduceMul, Nat.reduceSub, reduceCtorEq, Int.reduceNe, Int.reduceEq, ne_eq, Nat.reduceLeDiff, Nat.reduceMod, Nat.reduceDiv]; (try rfl); skip)
      ·intro h; try exact absurd h (by decide)
       all_goals
        refine nx ?_
        refine ⟨_, ⟨Nat.le_trans (Nat.le_of_lt hend.1) hrl, hend.2.trans hrv⟩, ?_, hend.1⟩
        refine Ent.to rfl rfl rfl ?_ ?_
        ·simp -implicitDefEqProofs only [go_sem, Nat.reduceLT, Nat.reduceAdd, Nat.reduceEqDiff, reduceIte, Nat.reduceMul, Nat.reduceSub, reduceCtorEq, Int.reduceNe, Int.reduceEq, ne_eq, Nat.reduceLeDiff, Nat.reduceMod, Nat.reduceDiv]; (try simp only [D.dat.injEq, Vm.Data.int.injEq, true_and, and_true, and_self, eq_self]); (try omega); (try ((repeat' apply And.intro) <;> first | omega | rfl))
        ·(repeat' (first | exact all_nil | (refine all_cons ?_ ?_))) <;> (simp -implicitDefEqProofs only [go_sem, Nat.reduceLT, Nat.reduceAdd, Nat.reduceEqDiff, reduceIte, Nat.reduceMul, Nat.reduceSub, reduceCtorEq, Int.reduceNe, Int.reduceEq, ne_eq, Nat.reduceLeDiff, Nat.reduceMod, Nat.reduceDiv]; (try rfl); skip)
   ·intro h; try exact absurd h (by decide)
    all_goals
     have hx0 : (r.getD 0 0).toNat < 256 := (r.getD 0 0).toNat_lt
     obtain ⟨v, lo, hi, hf, hA, hI, hQ⟩ := cls9 (r := r) (by omega) (by assumption)
     rcases hQ with ⟨hv, hq⟩ | ⟨hv, hq⟩ | ⟨hv, hq⟩ | ⟨hv, hq⟩
     all_goals
      refine rg ΦUV_ok [0, 4] (And.intro fE (And.intro hf slE)) ?_
      refine rg ΦUV_ok [0, 4, 5] (And.intro hv slE) ?_
      refine rg ΦUV_ok [0, 5, 6] (And.intro hA slE) ?_
      refine rg ΦUV_ok [0, 6, 82] slE ?_
      refine rg ΦUV_ok [0, 6, 82, 83] slE ?_
      refine cn ?_ ?_
      ·intro h; try exact absurd h (by decide)
       all_goals
        refine rdB (n := 19) ΦUV_ok [0, 103] trivial fun L hL => ?_
        repeat' first | (refine lfd hL trivial ?_; clear hL L) | with_reducible apply And.intro | refine sA trivial (fun _ => ?_) fun _ => ?_ | refine sAb trivial (fun _ => ?_) fun _ => ?_ | refine sAl trivial (fun g => ?_) fun g => ?_ | exact sd | exact sde trivial | exact sdp trivial | refine stk trivial ?_ | fail
        all_goals
         refine cn ?_ ?_
         ·intro h; try exact absurd h (by decide)
          all_goals
           have hy : validB b = false := hrv.symm.trans (validB_bad (by omega) (hq.1 (by (try simp only [show Int.toNat 2 = 2 from rfl, show Int.toNat 3 = 3 from rfl] at *); unfold c8; omega)))
           refine rg ΦUV_ok [2] slE ?_
           exact fz hy
         ·intro h; try exact absurd h (by decide)
          all_goals
           have hch := hq.2 (by (try simp only [show Int.toNat 2 = 2 from rfl, show Int.toNat 3 = 3 from rfl] at *); unfold c8; omega)
           have hend : (r.drop 2).length < r.length ∧ validB (r.drop 2) = validB r := ⟨by rw [List.length_drop]; omega, validB_step (by omega) hch⟩
           refine rgL ΦUV_ok slE ?_
           refine nx ?_
           refine ⟨_, ⟨Nat.le_trans (Nat.le_of_lt hend.1) hrl, hend.2.trans hrv⟩, ?_, hend.1⟩
           refine Ent.to rfl rfl rfl ?_ ?_
           ·simp -implicitDefEqProofs only [go_sem, Nat.reduceLT, Nat.reduceAdd, Nat.reduceEqDiff, reduceIte, Nat.reduceMul, Nat.reduceSub, reduceCtorEq, Int.reduceNe, Int.reduceEq, ne_eq, Nat.reduceLeDiff, Nat.reduceMod, Nat.reduceDiv]; (try simp only [D.dat.injEq, Vm.Data.int.injEq, true_and, and_true, and_self, eq_self]); (try omega); (try ((repeat' apply And.intro) <;> first | omega | rfl))
           ·(repeat' (first | exact all_nil | (refine all_cons ?_ ?_))) <;> (simp -implicitDefEqProofs only [go_sem, Nat.reduceLT, Nat.reduceAdd, Nat.reduceEqDiff, reduceIte, Nat.reduceMul, Nat.reduceSub, reduceCtorEq, Int.reduceNe, Int.reduceEq, ne_eq, Nat.reduceLeDiff, Nat.reduceMod, Nat.reduceDiv]; (try rfl); skip)
      ·intro h; try exact absurd h (by decide)
       all_goals
        refine rg ΦUV_ok [0, 6, 82, 106] slE ?_
        refine cn ?_ ?_
        ·intro h; try exact absurd h (by decide)
         all_goals
          refine rdB (n := 31) ΦUV_ok [0, 138] trivial fun L hL => ?_
          repeat' first | (refine lfd hL trivial ?_; clear hL L) | with_reducible apply And.intro | refine sA trivial (fun _ => ?_) fun _ => ?_ | refine sAb trivial (fun _ => ?_) fun _ => ?_ | refine sAl trivial (fun g => ?_) fun g => ?_ | exact sd | exact sde trivial | exact sdp trivial | refine stk trivial ?_ | fail
          all_goals
           refine cn ?_ ?_
           ·intro h; try exact absurd h (by decide)
            all_goals
             have hy : validB b = false := hrv.symm.trans (validB_bad (by omega) (hq.1 (by (try simp only [show Int.toNat 2 = 2 from rfl, show Int.toNat 3 = 3 from rfl] at *); unfold c8; omega)))
             refine rg ΦUV_ok [2] slE ?_
             exact fz hy
           ·intro h; try exact absurd h (by decide)
            all_goals
             have hch := hq.2 (by (try simp only [show Int.toNat 2 = 2 from rfl, show Int.toNat 3 = 3 from rfl] at *); unfold c8; omega)
             have hend : (r.drop 3).length < r.length ∧ validB (r.drop 3) = validB r := ⟨by rw [List.length_drop]; omega, validB_step (by omega) hch⟩
             refine rgL ΦUV_ok slE ?_
             refine nx ?_
             refine ⟨_, ⟨Nat.le_trans (Nat.le_of_lt hend.1) hrl, hend.2.trans hrv⟩, ?_, hend.1⟩
             refine Ent.to rfl rfl rfl ?_ ?_
             ·simp -implicitDefEqProofs only [go_sem, Nat.reduceLT, Nat.reduceAdd, Nat.reduceEqDiff, reduceIte, Nat.reduceMul, Nat.reduceSub, reduceCtorEq, Int.reduceNe, Int.reduceEq, ne_eq, Nat.reduceLeDiff, Nat.reduceMod, Nat.reduceDiv]; (try simp only [D.dat.injEq, Vm.Data.int.injEq, true_and, and_true, and_self, eq_self]); (try omega); (try ((repeat' apply And.intro) <;> first | omega | rfl))
             ·(repeat' (first | exact all_nil | (refine all_cons ?_ ?_))) <;> (simp -implicitDefEqProofs only [go_sem, Nat.reduceLT, Nat.reduceAdd, Nat.reduceEqDiff, reduceIte, Nat.reduceMul, Nat.reduceSub, reduceCtorEq, Int.reduceNe, Int.reduceEq, ne_eq, Nat.reduceLeDiff, Nat.reduceMod, Nat.reduceDiv]; (try rfl); skip)
        ·intro h; try exact absurd h (by decide)
         all_goals
          refine rg ΦUV_ok [0, 6, 141] slE ?_
          refine cn ?_ ?_
          ·intro h; try exact absurd h (by decide)
           all_goals
            refine rdB (n := 43) ΦUV_ok [0, 185] trivial fun L hL => ?_
            repeat' first | (refine lfd hL trivial ?_; clear hL L) | with_reducible apply And.intro | refine sA trivial (fun _ => ?_) fun _ => ?_ | refine sAb trivial (fun _ => ?_) fun _ => ?_ | refine sAl trivial (fun g => ?_) fun g => ?_ | exact sd | exact sde trivial | exact sdp trivial | refine stk trivial ?_ | fail
            all_goals
             refine cn ?_ ?_
             ·intro h; try exact absurd h (by decide)
              all_goals
               have hy : validB b = false := hrv.symm.trans (validB_bad (by omega) (hq.1 (by (try simp only [show Int.toNat 2 = 2 from rfl, show Int.toNat 3 = 3 from rfl] at *); unfold c8; omega)))
               refine rg ΦUV_ok [2] slE ?_
               exact fz hy
             ·intro h; try exact absurd h (by decide)
              all_goals
               have hch := hq.2 (by (try simp only [show Int.toNat 2 = 2 from rfl, show Int.toNat 3 = 3 from rfl] at *); unfold c8; omega)
               have hend : (r.drop 4).length < r.length ∧ validB (r.drop 4) = validB r := ⟨by rw [List.length_drop]; omega, validB_step (by omega) hch⟩
               refine rgL ΦUV_ok slE ?_
               refine nx ?_
               refine ⟨_, ⟨Nat.le_trans (Nat.le_of_lt hend.1) hrl, hend.2.trans hrv⟩, ?_, hend.1⟩
               refine Ent.to rfl rfl rfl ?_ ?_
               ·simp -implicitDefEqProofs only [go_sem, Nat.reduceLT, Nat.reduceAdd, Nat.reduceEqDiff, reduceIte, Nat.reduceMul, Nat.reduceSub, reduceCtorEq, Int.reduceNe, Int.reduceEq, ne_eq, Nat.reduceLeDiff, Nat.reduceMod, Nat.reduceDiv]; (try simp only [D.dat.injEq, Vm.Data.int.injEq, true_and, and_true, and_self, eq_self]); (try omega); (try ((repeat' apply And.intro) <;> first | omega | rfl))
               ·(repeat' (first | exact all_nil | (refine all_cons ?_ ?_))) <;> (simp -implicitDefEqProofs only [go_sem, Nat.reduceLT, Nat.reduceAdd, Nat.reduceEqDiff, reduceIte, Nat.reduceMul, Nat.reduceSub, reduceCtorEq, Int.reduceNe, Int.reduceEq, ne_eq, Nat.reduceLeDiff, Nat.reduceMod, Nat.reduceDiv]; (try rfl); skip)
          ·intro h; try exact absurd h (by decide)
           all_goals
            have hy : validB b = false := hrv.symm.trans (validB_bad (by omega) hq)
            refine rg ΦUV_ok [2] slE ?_
            exact fz hy
 ·intro h; try exact absurd h (by decide)
  all_goals
   have hy : validB b = true := hrv.symm.trans (validB_nil (by omega))
   refine rg ΦUV_ok [2] slE ?_
   exact fz hy)
end Go.Proofs.YtpajpkbipagjpaaGreatDoor.Oc
