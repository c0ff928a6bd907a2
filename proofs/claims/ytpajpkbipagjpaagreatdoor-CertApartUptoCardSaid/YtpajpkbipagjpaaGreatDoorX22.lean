/- What functions of the program, of its library and of the document compute: their contracts, and laws about what they compute (X22). No condition. -/
import Derived.Test.YtpajpkbipagjpaaGreatDoorX20
set_option linter.unusedVariables false
set_option linter.unusedSimpArgs false
namespace Go.Proofs.YtpajpkbipagjpaaGreatDoor.Tr
open Go Go.RowKit Go.Proofs.YtpajpkbipagjpaaGreatDoor.Vm
section
variable {P : Program} {t : TypeId} {n : Nat} {ds : List Vm.Data}
def Flds (P : Program) (t : TypeId) (l : List (TypeId × Nat)) : Prop := ∃ fs : Array Field, P.underlying t = some (.struct fs) ∧ fs.toList.map (fun f => (f.type, f.offset)) = l
theorem CT_flds {l : List (TypeId × Nat)} (h : Flds P t l) (c : CT P n t ds) : ∃ m, ds.length = P.cellsOf t ∧ ∀ p ∈ l, CT P m p.1 ((ds.drop p.2).take (P.cellsOf p.1)) := by
 obtain ⟨fs, h1, rfl⟩ := h
 obtain ⟨m, _, h2, h3⟩ := CT_struct h1 c
 refine ⟨m, h2, fun p hp => ?_⟩
 obtain ⟨f, hf, rfl⟩ := List.mem_map.1 hp
 exact h3 f hf
theorem len12 {α : Type} {l : List α} (h : l.length = 12) : ∃ a0 a1 a2 a3 a4 a5 a6 a7 a8 a9 a10 a11, l = [a0, a1, a2, a3, a4, a5, a6, a7, a8, a9, a10, a11] := by
 match l, h with
 | [a0, a1, a2, a3, a4, a5, a6, a7, a8, a9, a10, a11], _ => exact ⟨a0, a1, a2, a3, a4, a5, a6, a7, a8, a9, a10, a11, rfl⟩
structure CeTy (P : Program) (tc tk tl tx tn tr ty tu tw th t6 ti ts tb : TypeId) : Prop where
 ce : Flds P tc [(ty, 0), (tw, 1), (th, 2), (tn, 3), (t6, 4), (t6, 5), (tn, 6), (tk, 7), (tl, 10), (ty, 11)]
 ky : Flds P tk [(ty, 0), (ty, 1), (ty, 2)]
 ex : Flds P tx [(ty, 0), (tb, 1), (ty, 2)]
 exs : P.underlying tl = some (.slice tx)
 name : P.underlying tn = some (.slice tr)
 rd : RdTy P tr ti ts tb
 bytes : P.underlying ty = some (.slice tu)
 u8 : P.underlying tu = some (.int .u8)
 way : P.underlying tw = some (.int .i64)
 hash : P.underlying th = some (.int .i64)
 i64 : P.underlying t6 = some (.int .i64)
 bool : P.underlying tb = some .bool
 cells : P.cellsOf tc = 12 ∧ P.cellsOf tk = 3 ∧ P.cellsOf tx = 3 ∧ P.cellsOf tl = 1 ∧ P.cellsOf tn = 1 ∧ P.cellsOf ty = 1 ∧ P.cellsOf tw = 1 ∧ P.cellsOf th = 1 ∧ P.cellsOf t6 = 1 ∧ P.cellsOf tb = 1
def ceK (c : Ce) (B : Nat) : Prop := c.ser.length ≤ B ∧ c.key.n.length ≤ B ∧ c.key.e.length ≤ B ∧ c.key.d.length ≤ B ∧ c.sig.length ≤ B ∧ (∀ j, (c.exts.getD j Ex.zero).oid.length ≤ B ∧ (c.exts.getD j Ex.zero).val.length ≤ B) ∧ (∀ j, (c.iss.getD j Rd.zero).text.length ≤ B) ∧ (∀ j, (c.sub.getD j Rd.zero).text.length ≤ B)
variable {tc tk tl tx tn tr ty tu tw th t6 ti ts tb : TypeId}
theorem CT_bytesL {e : TypeId} (h : P.underlying t = some (.slice e)) (he : P.underlying e = some (.int .u8)) (c : CT P n t ds) : ∃ l : List UInt8, ds = [.lst (bytesD l)] ∧ l.length ≤ maxLen := by
 obtain ⟨m, xs, _, rfl, hl, hx⟩ := CT_slice h c
 obtain ⟨l, rfl⟩ := bytes_rows he xs hx
 exact ⟨l, rfl, by rw [bytesD_len] at hl; exact hl⟩
theorem CT_rdL {tr ti ts tb : TypeId} (N : RdTy P tr ti ts tb) (c : CT P n tr ds) : ∃ r : Rd, ds = rdC r ∧ r.text.length ≤ maxLen := by
 obtain ⟨f0, f1, f2, hu, t0, t1, t2, o0, o1, o2⟩ := N.rd
 obtain ⟨c3, ci, cs, cb⟩ := N.cells
 obtain ⟨m, rfl, hl, hf⟩ := CT_struct hu c
 obtain ⟨d0, d1, d2, rfl⟩ := len3 (hl.trans c3)
 have g0 := hf f0 (by simp)
 have g1 := hf f1 (by simp)
 have g2 := hf f2 (by simp)
 rw [t0, o0, ci] at g0
 rw [t1, o1, cs] at g1
 rw [t2, o2, cb] at g2
 obtain ⟨i0, e0, _⟩ := CT_int N.int g0
 obtain ⟨s, e1, hs⟩ := CT_str N.str g1
 obtain ⟨b, e2⟩ := CT_bool N.bool g2
 simp only [List.drop_zero, List.drop_succ_cons, List.take_succ_cons, List.take_zero, List.cons.injEq, and_true] at e0 e1 e2
 subst e0 e1 e2
 exact ⟨⟨i0, s, b⟩, rfl, hs⟩
theorem CT_rdsL {tl tr ti ts tb : TypeId} (N : RdTy P tr ti ts tb) (h : P.underlying tl = some (.slice tr)) (c : CT P n tl ds) : ∃ l : List Rd, ds = [.lst (rdsD l)] ∧ ∀ j, (l.getD j Rd.zero).text.length ≤ maxLen := by
 obtain ⟨m, xs, _, rfl, _, hx⟩ := CT_slice h c
 have key : ∀ xs : List (List Vm.Data), (∀ x ∈ xs, CT P m tr x) → ∃ l : List Rd, xs = rdsD l ∧ ∀ j, (l.getD j Rd.zero).text.length ≤ maxLen := by
  intro xs
  induction xs with
  | nil => intro _; exact ⟨[], rfl, fun j => Nat.zero_le _⟩
  | cons x xs ih =>
    intro h
    obtain ⟨r, rfl, hr⟩ := CT_rdL N (h x (by simp))
    obtain ⟨l, rfl, hl⟩ := ih fun y hy => h y (by simp [hy])
    refine ⟨r :: l, rfl, fun j => ?_⟩
    cases j with
    | zero => exact hr
    | succ j => exact hl j
 obtain ⟨l, rfl, hl⟩ := key xs hx
 exact ⟨l, rfl, hl⟩
theorem CT_ex (N : CeTy P tc tk tl tx tn tr ty tu tw th t6 ti ts tb) (c : CT P n tx ds) : ∃ x : Ex, ds = exC x ∧ x.oid.length ≤ maxLen ∧ x.val.length ≤ maxLen := by
 obtain ⟨m, hl, hf⟩ := CT_flds N.ex c
 obtain ⟨_, _, cx, _, _, cy, _, _, _, cb⟩ := N.cells
 obtain ⟨d0, d1, d2, rfl⟩ := len3 (hl.trans cx)
 have g0 := hf (ty, 0) (by simp)
 have g1 := hf (tb, 1) (by simp)
 have g2 := hf (ty, 2) (by simp)
 dsimp only at g0 g1 g2
 rw [cy] at g0 g2
 rw [cb] at g1
 obtain ⟨s0, e0, k0⟩ := CT_bytesL N.bytes N.u8 g0
 obtain ⟨b1, e1⟩ := CT_bool N.bool g1
 obtain ⟨s2, e2, k2⟩ := CT_bytesL N.bytes N.u8 g2
 simp only [List.drop_zero, List.drop_succ_cons, List.take_succ_cons, List.take_zero, List.cons.injEq, and_true] at e0 e1 e2
 subst e0 e1 e2
 exact ⟨⟨s0, b1, s2⟩, rfl, k0, k2⟩
theorem CT_exs (N : CeTy P tc tk tl tx tn tr ty tu tw th t6 ti ts tb) (c : CT P n tl ds) : ∃ l : List Ex, ds = [.lst (exsD l)] ∧ ∀ j, (l.getD j Ex.zero).oid.length ≤ maxLen ∧ (l.getD j Ex.zero).val.length ≤ maxLen := by
 obtain ⟨m, xs, _, rfl, _, hx⟩ := CT_slice N.exs c
 have key : ∀ xs : List (List Vm.Data), (∀ x ∈ xs, CT P m tx x) → ∃ l : List Ex, xs = exsD l ∧ ∀ j, (l.getD j Ex.zero).oid.length ≤ maxLen ∧ (l.getD j Ex.zero).val.length ≤ maxLen := by
  intro xs
  induction xs with
  | nil => intro _; exact ⟨[], rfl, fun j => ⟨Nat.zero_le _, Nat.zero_le _⟩⟩
  | cons x xs ih =>
    intro h
    obtain ⟨r, rfl, hr⟩ := CT_ex N (h x (by simp))
    obtain ⟨l, rfl, hl⟩ := ih fun y hy => h y (by simp [hy])
    refine ⟨r :: l, rfl, fun j => ?_⟩
    cases j with
    | zero => exact hr
    | succ j => exact hl j
 obtain ⟨l, rfl, hl⟩ := key xs hx
 exact ⟨l, rfl, hl⟩
theorem CT_ky (N : CeTy P tc tk tl tx tn tr ty tu tw th t6 ti ts tb) (c : CT P n tk ds) : ∃ k : Ky, ds = kyC k ∧ k.n.length ≤ maxLen ∧ k.e.length ≤ maxLen ∧ k.d.length ≤ maxLen := by
 obtain ⟨m, hl, hf⟩ := CT_flds N.ky c
 obtain ⟨_, ck, _, _, _, cy, _⟩ := N.cells
 obtain ⟨d0, d1, d2, rfl⟩ := len3 (hl.trans ck)
 have g0 := hf (ty, 0) (by simp)
 have g1 := hf (ty, 1) (by simp)
 have g2 := hf (ty, 2) (by simp)
 dsimp only at g0 g1 g2
 rw [cy] at g0 g1 g2
 obtain ⟨s0, e0, k0⟩ := CT_bytesL N.bytes N.u8 g0
 obtain ⟨s1, e1, k1⟩ := CT_bytesL N.bytes N.u8 g1
 obtain ⟨s2, e2, k2⟩ := CT_bytesL N.bytes N.u8 g2
 simp only [List.drop_zero, List.drop_succ_cons, List.take_succ_cons, List.take_zero, List.cons.injEq, and_true] at e0 e1 e2
 subst e0 e1 e2
 exact ⟨⟨s0, s1, s2⟩, rfl, k0, k1, k2⟩
theorem CT_ce (N : CeTy P tc tk tl tx tn tr ty tu tw th t6 ti ts tb) (c : CT P n tc ds) : ∃ c : Ce, ds = ceC c ∧ ceK c maxLen := by
 obtain ⟨m, hl, hf⟩ := CT_flds N.ce c
 obtain ⟨cc, ck, cx, cl, cn, cy, cw, ch, c6, cb⟩ := N.cells
 obtain ⟨d0, d1, d2, d3, d4, d5, d6, d7, d8, d9, d10, d11, rfl⟩ := len12 (hl.trans cc)
 have g0 := hf (ty, 0) (by simp)
 have g1 := hf (tw, 1) (by simp)
 have g2 := hf (th, 2) (by simp)
 have g3 := hf (tn, 3) (by simp)
 have g4 := hf (t6, 4) (by simp)
 have g5 := hf (t6, 5) (by simp)
 have g6 := hf (tn, 6) (by simp)
 have g7 := hf (tk, 7) (by simp)
 have g8 := hf (tl, 10) (by simp)
 have g9 := hf (ty, 11) (by simp)
 dsimp only at g0 g1 g2 g3 g4 g5 g6 g7 g8 g9
 rw [cy] at g0 g9
 rw [cw] at g1
 rw [ch] at g2
 rw [cn] at g3 g6
 rw [c6] at g4 g5
 rw [ck] at g7
 rw [cl] at g8
 obtain ⟨s0, e0, k0⟩ := CT_bytesL N.bytes N.u8 g0
 obtain ⟨i1, e1, _⟩ := CT_int N.way g1
 obtain ⟨i2, e2, _⟩ := CT_int N.hash g2
 obtain ⟨l3, e3, k3⟩ := CT_rdsL N.rd N.name g3
 obtain ⟨i4, e4, _⟩ := CT_int N.i64 g4
 obtain ⟨i5, e5, _⟩ := CT_int N.i64 g5
 obtain ⟨l6, e6, k6⟩ := CT_rdsL N.rd N.name g6
 obtain ⟨k7, e7, k7a, k7b, k7c⟩ := CT_ky N g7
 obtain ⟨l8, e8, k8⟩ := CT_exs N g8
 obtain ⟨s9, e9, k9⟩ := CT_bytesL N.bytes N.u8 g9
 rw [kyC_eq] at e7
 simp only [List.drop_zero, List.drop_succ_cons, List.take_succ_cons, List.take_zero, List.cons.injEq, and_true] at e0 e1 e2 e3 e4 e5 e6 e7 e8 e9
 obtain ⟨e70, e71, e72⟩ := e7
 subst e0 e1 e2 e3 e4 e5 e6 e70 e71 e72 e8 e9
 exact ⟨⟨s0, i1, i2, l3, i4, i5, l6, k7, l8, s9⟩, rfl, k0, k7a, k7b, k7c, k9, k8, k3, k6⟩
theorem bk_exs : ∀ (l : List Ex) (j : Nat), (l.getD j Ex.zero).oid.length ≤ bkE (exsD l) ∧ (l.getD j Ex.zero).val.length ≤ bkE (exsD l)
 | [], j => ⟨Nat.zero_le _, Nat.zero_le _⟩
 | r :: l, j => by
   rw [exsD_cons, bkE, exC_eq]
   simp only [bkC, bk, bk_bytes]
   cases j with
   | zero => simp only [List.getD_cons_zero]; omega
   | succ j => have := bk_exs l j; simp only [List.getD_cons_succ]; omega
theorem bk_ce (c : Ce) {B : Nat} (h : bkC (ceC c) ≤ B) : ceK c B := by
 rw [ceC_eq] at h
 simp only [bkC, bk, bk_bytes] at h
 refine ⟨by omega, by omega, by omega, by omega, by omega, fun j => ?_, fun j => ?_, fun j => ?_⟩
 ·have := bk_exs c.exts j; omega
 ·have := bk_rds2 c.iss j; omega
 ·have := bk_rds2 c.sub j; omega
end
end Go.Proofs.YtpajpkbipagjpaaGreatDoor.Tr
