/- Bytes of numbers, apart from any program; what form and alive compute. No condition. -/
import Derived.Test.YtgfadocohpinmaaOaB
set_option linter.unusedVariables false
set_option linter.unusedSimpArgs false
namespace Go.Proofs.Ytgfadocohpinmaa.Oa
open Go Go.RowKit Go.Proofs.Ytgfadocohpinmaa.Vm
set_option maxRecDepth 100000
def M56 : Nat := 72057594037927935
theorem scan_encTo (n : Nat) (hn : n ≤ 9223372036854775807) (out : List Nat) : ∀ j, j ≤ 9 → (encTo n j).foldl scanS (0, out) = (n / 2 ^ (70 - 7 * j), out) := by
  intro j
  induction j with
  | zero =>
    intro _
    rw [encTo_zero]
    show (0, out) = _
    rw [Nat.div_eq_of_lt (by simp; omega)]
  | succ j ih =>
    intro hj
    rw [encTo_succ, List.foldl_append, ih (by omega)]
    have e : 70 - 7 * (j + 1) = 63 - 7 * j := by omega
    have e2 : n / 2 ^ (70 - 7 * j) = n / 2 ^ (63 - 7 * j) / 128 := by
      rw [Nat.div_div_eq_div_mul, show 128 = 2 ^ 7 from rfl, ← Nat.pow_add]; congr 2; omega
    rw [e, e2]
    generalize hq : n / 2 ^ (63 - 7 * j) = q
    by_cases h0 : q = 0
    · rw [grp_skip (by omega) (by rw [hq]; exact h0)]
      subst h0; rfl
    · rw [grp_more (by omega) (by rw [hq]; exact h0), hq]
      have hb : (UInt8.ofNat (q % 128 + 128)).toNat = q % 128 + 128 := by rw [UInt8.toNat_ofNat', Nat.mod_eq_of_lt (by omega)]
      show scanS _ _ = _
      unfold scanS
      rw [hb, if_neg (by omega)]
      simp only [Prod.mk.injEq, and_true]; omega
theorem scan_enc1 (n : Nat) (hn : n ≤ 9223372036854775807) (out : List Nat) : (enc1 n).foldl scanS (0, out) = (0, out ++ [n]) := by
  unfold enc1
  rw [encTo_succ, List.foldl_append, scan_encTo n hn out 9 (Nat.le_refl _), grp_last rfl]
  have hb : (UInt8.ofNat (n / 2 ^ (63 - 7 * 9) % 128)).toNat = n % 128 := by rw [UInt8.toNat_ofNat', Nat.mod_eq_of_lt (by omega)]; simp
  show scanS _ _ = _
  unfold scanS
  rw [hb, if_pos (by omega)]
  simp only [Prod.mk.injEq, true_and]
  congr 2
  simp; omega
/-- Numbers as they are written. -/
def numL (l : List Nat) : List Nat := (List.range (l.length - 1)).map (num l)
theorem enc_flat (l : List Nat) : enc l = (numL l).flatMap enc1 := by
  unfold enc encN numL
  rw [List.flatMap_map]
theorem scan_flat (xs : List Nat) (hx : ∀ x ∈ xs, x ≤ 9223372036854775807) : ∀ out, (xs.flatMap enc1).foldl scanS (0, out) = (0, out ++ xs) := by
  induction xs with
  | nil => intro out; simp
  | cons x r ih =>
    intro out
    rw [List.flatMap_cons, List.foldl_append, scan_enc1 x (hx x (by simp)), ih fun y hy => hx y (by simp [hy])]
    simp
theorem scan_grows (b : List UInt8) : ∀ n out, ∃ more, (b.foldl scanS (n, out)).2 = out ++ more := by
  induction b with
  | nil => intro n out; exact ⟨[], by simp⟩
  | cons c r ih =>
    intro n out
    rw [List.foldl_cons]
    by_cases hc : c.toNat < 128
    · rw [show scanS (n, out) c = (0, out ++ [n * 128 + c.toNat % 128]) from if_pos hc]
      obtain ⟨m, hm⟩ := ih 0 (out ++ [n * 128 + c.toNat % 128])
      exact ⟨_, by rw [hm, List.append_assoc]⟩
    · rw [show scanS (n, out) c = (n * 128 + c.toNat % 128, out) from if_neg hc]
      exact ih _ out
theorem flat_prefix (xs ys : List Nat) (hx : ∀ x ∈ xs, x ≤ 9223372036854775807) (hy : ∀ y ∈ ys, y ≤ 9223372036854775807) (s : List UInt8) (h : xs.flatMap enc1 ++ s = ys.flatMap enc1) : ∃ more, ys = xs ++ more := by
  have h1 := scan_flat ys hy []
  rw [← h, List.foldl_append, scan_flat xs hx []] at h1
  obtain ⟨m, hm⟩ := scan_grows s 0 ([] ++ xs)
  rw [h1] at hm
  exact ⟨m, by simpa using hm⟩
theorem may_all {l : List Nat} (h : may l = true) : 2 ≤ l.length ∧ l.length ≤ 20 ∧ l.getD 0 0 ≤ 2 ∧ (l.getD 0 0 < 2 → l.getD 1 0 < 40) ∧ (∀ x ∈ l, x ≤ 9223372036854775807) ∧ l.getD 1 0 + 40 * l.getD 0 0 ≤ 9223372036854775807 := by
  have := of_decide_eq_true h
  obtain ⟨a, b, c, d, e, f⟩ := this
  exact ⟨a, b, c, d, (mx_all _ _).1 e, f⟩
theorem numL_cons (x y : Nat) (r : List Nat) : numL (x :: y :: r) = (y + 40 * x) :: r := by
  unfold numL
  apply List.ext_getElem
  · simp
  · intro i h1 h2
    simp only [List.getElem_map, List.getElem_range]
    cases i with
    | zero => simp [num]
    | succ i =>
      simp [num, List.getD_eq_getElem?_getD]
      simp at h2
      rw [List.getElem?_eq_getElem (by omega)]
      simp
theorem numL_le {l : List Nat} (h : may l = true) : ∀ x ∈ numL l, x ≤ 9223372036854775807 := by
  obtain ⟨a, b, c, d, e, f⟩ := may_all h
  match l, a with
  | x :: y :: r, _ =>
    rw [numL_cons]
    intro z hz
    rcases List.mem_cons.1 hz with rfl | hz
    · simpa using f
    · exact e z (by simp [hz])
theorem numL_prefix {l m : List Nat} (hl : may l = true) (hm : may m = true) {more : List Nat} (h : numL l = numL m ++ more) : l = m ++ more := by
  obtain ⟨a, b, c, d, e, f⟩ := may_all hl
  obtain ⟨a', b', c', d', e', f'⟩ := may_all hm
  match l, a, m, a' with
  | x :: y :: r, _, u :: v :: s, _ =>
    rw [numL_cons, numL_cons] at h
    simp only [List.cons_append, List.cons.injEq] at h
    simp at c d c' d'
    obtain ⟨h1, rfl⟩ := h
    have : x = u ∧ y = v := by omega
    obtain ⟨rfl, rfl⟩ := this
    rfl
theorem enc_prefix {l m : List Nat} (hl : may l = true) (hm : may m = true) (s : List UInt8) (h : enc m ++ s = enc l) : ∃ more, l = m ++ more := by
  rw [enc_flat, enc_flat] at h
  obtain ⟨more, hmore⟩ := flat_prefix _ _ (numL_le hm) (numL_le hl) s h
  exact ⟨more, numL_prefix hl hm hmore⟩
theorem enc1_pos (n : Nat) : 1 ≤ (enc1 n).length := by
  unfold enc1
  rw [encTo_succ, grp_last rfl]; simp
theorem flat_len (xs : List Nat) (h : xs ≠ []) : 1 ≤ (xs.flatMap enc1).length := by
  cases xs with
  | nil => exact absurd rfl h
  | cons x r => rw [List.flatMap_cons, List.length_append]; have := enc1_pos x; omega
theorem enc_append {m more : List Nat} (h : 2 ≤ m.length) : enc (m ++ more) = enc m ++ more.flatMap enc1 := by
  rw [enc_flat, enc_flat]
  match m, h with
  | x :: y :: r, _ => rw [List.cons_append, List.cons_append, numL_cons, numL_cons, List.flatMap_cons, List.flatMap_cons, List.flatMap_append, List.append_assoc]
theorem may_take {l : List Nat} (hl : may l = true) (k : Nat) (h2 : 2 ≤ k) (hk : k ≤ l.length) : may (l.take k) = true := by
  obtain ⟨a, b, c, d, e, f⟩ := may_all hl
  have g0 : (l.take k).getD 0 0 = l.getD 0 0 := by rw [List.getD_eq_getElem?_getD, List.getD_eq_getElem?_getD, List.getElem?_take, if_pos (by omega)]
  have g1 : (l.take k).getD 1 0 = l.getD 1 0 := by rw [List.getD_eq_getElem?_getD, List.getD_eq_getElem?_getD, List.getElem?_take, if_pos (by omega)]
  refine decide_eq_true ⟨by simp; omega, by simp; omega, by rw [g0]; exact c, by rw [g0, g1]; exact d, (mx_all _ _).2 fun x hx => e x (List.mem_of_mem_take hx), by rw [g0, g1]; exact f⟩
theorem enc_take {l : List Nat} (hl : may l = true) (k : Nat) (h2 : 2 ≤ k) (hk : k < l.length) : (enc (l.take k)).length < (enc l).length ∧ (enc l).take (enc (l.take k)).length = enc (l.take k) := by
  have e : enc l = enc (l.take k) ++ (l.drop k).flatMap enc1 := by
    rw [← enc_append (by simp; omega), List.take_append_drop]
  have hp : 1 ≤ ((l.drop k).flatMap enc1).length := flat_len _ (by intro h; have := congrArg List.length h; simp at this; omega)
  refine ⟨by rw [e, List.length_append]; omega, ?_⟩
  conv => lhs; rw [e]
  simp
theorem begins_iff {l m : List Nat} (hl : may l = true) (hm : may m = true) : ((enc m).length ≤ (enc l).length ∧ (enc l).take (enc m).length = enc m) ↔ (m.length ≤ l.length ∧ l.take (min l.length m.length) = m) := by
  constructor
  · rintro ⟨_, h⟩
    have e : enc m ++ (enc l).drop (enc m).length = enc l := by
      have := List.take_append_drop (enc m).length (enc l)
      rw [h] at this; exact this
    obtain ⟨more, rfl⟩ := enc_prefix hl hm _ e
    refine ⟨by simp, ?_⟩
    rw [Nat.min_eq_right (by simp)]
    simp
  · rintro ⟨h1, h2⟩
    rw [Nat.min_eq_right h1] at h2
    have e : enc l = enc m ++ (l.drop m.length).flatMap enc1 := by
      have := (may_all hm).1
      rw [← enc_append this]; congr 1
      have h3 := List.take_append_drop m.length l
      rw [h2] at h3; exact h3.symm
    rw [e]
    simp
theorem enc_inj {l m : List Nat} (hl : may l = true) (hm : may m = true) : enc l = enc m ↔ l = m := by
  constructor
  · intro h
    obtain ⟨a, ha⟩ := enc_prefix hl hm [] (by rw [List.append_nil, h])
    obtain ⟨b, hb⟩ := enc_prefix hm hl [] (by rw [List.append_nil, h])
    have h1 := congrArg List.length ha
    have h2 := congrArg List.length hb
    simp at h1 h2
    have : a = [] := List.eq_nil_of_length_eq_zero (by omega)
    rw [ha, this, List.append_nil]
  · rintro rfl; rfl
end Go.Proofs.Ytgfadocohpinmaa.Oa
namespace Go.Proofs.Ytgfadocohpinmaa.Oa
open Go Go.RowKit Go.Proofs.Ytgfadocohpinmaa.Vm Go.IntWalk
set_option maxRecDepth 100000
set_option maxHeartbeats 4000000
noncomputable def ΦF : Fns := tab [(6, bytesF), (8, sameF), (9, readF)]
theorem ΦF_ok : Sound E ΦF := sound_cons (by kernel_rfl) bytes_ok (sound_cons (by kernel_rfl) same_ok (sound_cons (by kernel_rfl) read_ok (sound_nil)))
@[go_sem] theorem ΦF_6 : ΦF 6 = some bytesF := rfl
@[go_sem] theorem ΦF_8 : ΦF 8 = some sameF := rfl
@[go_sem] theorem ΦF_9 : ΦF 9 = some readF := rfl
def formS (s : List UInt8) (l : List Nat) : Bool := decide (may l = true) && (decide ((readS s).isSome = true) && (decide (encO l = s) && decide ((readS s).getD [] = l)))
theorem readX_len2 (s : List UInt8) : ((readS s).getD []).length ≤ s.length + 1 := by
  unfold readS
  split
  · exact readX_len s
  · simp
theorem err0 (p : Bool) : (((if p = true then 0 else 140) : Int) = 0) = (p = true) := by cases p <;> simp
def formA (x : List UInt8 × List Nat) : List Vm.Data := let (s, l) := x; [.str s, .lst (numsD l)]
noncomputable def formF : PFn := PFn.of formA (fun (s, l) => s.length ≤ 100000 ∧ l.length ≤ 100000) (fun (s, l) => [.bool (formS s l)])
theorem form_inj (x y : List UInt8 × List Nat) (h : formA x = formA y) : x = y := by
  simpa [formA, Prod.ext_iff, numsD_inj, bytesD_inj, Vm.Data.lst.injEq] using h
@[go_sem] theorem form_pre (s : List UInt8) (l : List Nat) : formF.pre [.str s, .lst (numsD l)] = (s.length ≤ 100000 ∧ l.length ≤ 100000) := PFn.of_pre form_inj (s, l)
@[go_sem] theorem form_res (s : List UInt8) (l : List Nat) : formF.res [.str s, .lst (numsD l)] = [.bool (formS s l)] := PFn.of_res form_inj (s, l)
theorem form_ok : Pure E 10 formF := by
  apply Pure.of_body (rs := [.tmp 4]) (n := 37) Try.func10 rfl rfl rfl
  intro ds hds
  obtain ⟨⟨s, l⟩, rfl, hds⟩ := hds
  (try dsimp only at hds)
  rw [show formF.res (formA (s, l)) = [.bool (formS s l)] from form_res s l]
  obtain ⟨hs, hl⟩ := hds; have hr := readX_len2 s; have he := encO_len l
  refine ⟨Nat.le_of_ble_eq_true rfl, ?_⟩
  show VC E none _ (pureSt 37 [.str s, .lst (numsD l)]) _
  apply VC.regt ΦF_ok [0, 1]; intro K' hK; dsimp only [List.take, List.drop, List.map, strip, stripG]; simp -implicitDefEqProofs only [go_sem, Nat.reduceLT, Nat.reduceAdd, Nat.reduceEqDiff, reduceIte, Nat.reduceMul, Nat.reduceSub, reduceCtorEq, Int.reduceNe, Int.reduceEq, ne_eq, Nat.reduceLeDiff, Nat.reduceMod, Nat.reduceDiv]
  (repeat' first | (refine hK _ ?_; clear hK K') | with_reducible apply And.intro | omega)
  all_goals
    apply VC.at
    · simp -implicitDefEqProofs only [go_sem, Nat.reduceLT, Nat.reduceAdd, Nat.reduceEqDiff, reduceIte, Nat.reduceMul, Nat.reduceSub, reduceCtorEq, Int.reduceNe, Int.reduceEq, ne_eq, Nat.reduceLeDiff, Nat.reduceMod, Nat.reduceDiv]; (try simp (disch := omega) only [i64_in, tmodn, tdivn]); exact rfl
    apply VC.regt ΦF_ok [0, 1, 5, 6]; intro K' hK; dsimp only [List.take, List.drop, List.map, strip, stripG]; simp -implicitDefEqProofs only [go_sem, Nat.reduceLT, Nat.reduceAdd, Nat.reduceEqDiff, reduceIte, Nat.reduceMul, Nat.reduceSub, reduceCtorEq, Int.reduceNe, Int.reduceEq, ne_eq, Nat.reduceLeDiff, Nat.reduceMod, Nat.reduceDiv]
    (repeat' first | (refine hK _ ?_; clear hK K') | with_reducible apply And.intro | omega)
    all_goals
      apply VC.at
      · simp -implicitDefEqProofs only [go_sem, Nat.reduceLT, Nat.reduceAdd, Nat.reduceEqDiff, reduceIte, Nat.reduceMul, Nat.reduceSub, reduceCtorEq, Int.reduceNe, Int.reduceEq, ne_eq, Nat.reduceLeDiff, Nat.reduceMod, Nat.reduceDiv]; (try simp (disch := omega) only [i64_in, tmodn, tdivn]); exact rfl
      apply VC.regt ΦF_ok [0, 1, 5, 6, 7, 8]; intro K' hK; dsimp only [List.take, List.drop, List.map, strip, stripG]; simp -implicitDefEqProofs only [go_sem, Nat.reduceLT, Nat.reduceAdd, Nat.reduceEqDiff, reduceIte, Nat.reduceMul, Nat.reduceSub, reduceCtorEq, Int.reduceNe, Int.reduceEq, ne_eq, Nat.reduceLeDiff, Nat.reduceMod, Nat.reduceDiv]
      (repeat' first | (refine hK _ ?_; clear hK K') | with_reducible apply And.intro | omega)
      all_goals
        apply VC.at
        · simp -implicitDefEqProofs only [go_sem, Nat.reduceLT, Nat.reduceAdd, Nat.reduceEqDiff, reduceIte, Nat.reduceMul, Nat.reduceSub, reduceCtorEq, Int.reduceNe, Int.reduceEq, ne_eq, Nat.reduceLeDiff, Nat.reduceMod, Nat.reduceDiv]; (try simp (disch := omega) only [i64_in, tmodn, tdivn]); exact rfl
        apply VC.regt ΦF_ok [4]; intro K' hK; dsimp only [List.take, List.drop, List.map, strip, stripG]; simp only [gtmp, List.getElem?_toArray, List.getElem?_cons_succ, List.getElem?_cons_zero, Option.bind_some]; simp -implicitDefEqProofs only [go_sem, Nat.reduceLT, Nat.reduceAdd, Nat.reduceEqDiff, reduceIte, Nat.reduceMul, Nat.reduceSub, reduceCtorEq, Int.reduceNe, Int.reduceEq, ne_eq, Nat.reduceLeDiff, Nat.reduceMod, Nat.reduceDiv]
        (repeat' first | (refine hK _ ?_; clear hK K') | (first | apply goB_splitD | apply goA_splitD | apply goB_split | apply goA_split | apply goA_all) <;> intro _ <;> simp -implicitDefEqProofs only [go_sem, Nat.reduceLT, Nat.reduceAdd, Nat.reduceEqDiff, reduceIte, Nat.reduceMul, Nat.reduceSub, reduceCtorEq, Int.reduceNe, Int.reduceEq, ne_eq, Nat.reduceLeDiff, Nat.reduceMod, Nat.reduceDiv] | with_reducible apply And.intro | omega)
        all_goals
          apply VC.at
          · simp -implicitDefEqProofs only [go_sem, Nat.reduceLT, Nat.reduceAdd, Nat.reduceEqDiff, reduceIte, Nat.reduceMul, Nat.reduceSub, reduceCtorEq, Int.reduceNe, Int.reduceEq, ne_eq, Nat.reduceLeDiff, Nat.reduceMod, Nat.reduceDiv]; (try simp (disch := omega) only [i64_in, tmodn, tdivn]); exact rfl
          apply VC.ret
          simp -implicitDefEqProofs only [go_sem, Nat.reduceLT, Nat.reduceAdd, Nat.reduceEqDiff, reduceIte, Nat.reduceMul, Nat.reduceSub, reduceCtorEq, Int.reduceNe, Int.reduceEq, ne_eq, Nat.reduceLeDiff, Nat.reduceMod, Nat.reduceDiv]
          all_goals (unfold formS; cases e : readS s <;> simp_all; done)
def aliveF : PFn := ⟨fun ds => ds = [], fun _ => [.bool true]⟩
@[go_sem] theorem alive_pre : aliveF.pre [] = True := by simp [aliveF]
@[go_sem] theorem alive_res : aliveF.res [] = [.bool true] := rfl
theorem lit1 : ([[.int .u64 2], [.int .u64 100], [.int .u64 3]] : List (List Vm.Data)) = numsD [2, 100, 3] := rfl
theorem lit2 : ([[.int .u64 1], [.int .u64 2], [.int .u64 840], [.int .u64 113549]] : List (List Vm.Data)) = numsD [1, 2, 840, 113549] := rfl
theorem lit3 : ([[.int .u64 2], [.int .u64 999], [.int .u64 3]] : List (List Vm.Data)) = numsD [2, 999, 3] := rfl
theorem f1 : formS [129, 52, 3] [2, 100, 3] = true := by decide +kernel
theorem f2 : formS [42, 134, 72, 134, 247, 13] [1, 2, 840, 113549] = true := by decide +kernel
theorem f3 : formS [136, 55, 3] [2, 999, 3] = true := by decide +kernel
noncomputable def ΦG : Fns := tab [(10, formF)]
theorem ΦG_ok : Sound E ΦG := sound_cons (by kernel_rfl) form_ok (sound_nil)
@[go_sem] theorem ΦG_10 : ΦG 10 = some formF := rfl
theorem alive_ok : Pure E 5 aliveF := by
  apply Pure.of_body (rs := [.tmp 0]) (n := 11) Try.func5 rfl rfl rfl
  intro ds hds
  have hds : ds = [] := hds
  subst hds
  rw [alive_res]
  refine ⟨Nat.le_of_ble_eq_true rfl, ?_⟩
  show VC E none _ (pureSt 11 []) _
  apply VC.regt ΦG_ok []; intro K' hK; dsimp only [List.take, List.drop, List.map, strip, stripG]; simp -implicitDefEqProofs only [go_sem, Nat.reduceLT, Nat.reduceAdd, Nat.reduceEqDiff, reduceIte, Nat.reduceMul, Nat.reduceSub, reduceCtorEq, Int.reduceNe, Int.reduceEq, ne_eq, Nat.reduceLeDiff, Nat.reduceMod, Nat.reduceDiv, lit1, lit2, lit3, f1, f2, f3, List.length_cons]
  (repeat' first | (refine hK _ ?_; clear hK K') | with_reducible apply And.intro | decide | omega)
  all_goals
    apply VC.at
    · simp -implicitDefEqProofs only [go_sem, Nat.reduceLT, Nat.reduceAdd, Nat.reduceEqDiff, reduceIte, Nat.reduceMul, Nat.reduceSub, reduceCtorEq, Int.reduceNe, Int.reduceEq, ne_eq, Nat.reduceLeDiff, Nat.reduceMod, Nat.reduceDiv, lit1, lit2, lit3, f1, f2, f3, List.length_cons]; (try simp (disch := omega) only [i64_in, tmodn, tdivn]); exact rfl
    apply VC.regt ΦG_ok [0]; intro K' hK; dsimp only [List.take, List.drop, List.map, strip, stripG]; simp only [gtmp, List.getElem?_toArray, List.getElem?_cons_succ, List.getElem?_cons_zero, Option.bind_some]; simp -implicitDefEqProofs only [go_sem, Nat.reduceLT, Nat.reduceAdd, Nat.reduceEqDiff, reduceIte, Nat.reduceMul, Nat.reduceSub, reduceCtorEq, Int.reduceNe, Int.reduceEq, ne_eq, Nat.reduceLeDiff, Nat.reduceMod, Nat.reduceDiv, lit1, lit2, lit3, f1, f2, f3, List.length_cons]
    (repeat' first | (refine hK _ ?_; clear hK K') | (first | apply goB_splitD | apply goA_splitD | apply goB_split | apply goA_split | apply goA_all) <;> intro _ <;> simp -implicitDefEqProofs only [go_sem, Nat.reduceLT, Nat.reduceAdd, Nat.reduceEqDiff, reduceIte, Nat.reduceMul, Nat.reduceSub, reduceCtorEq, Int.reduceNe, Int.reduceEq, ne_eq, Nat.reduceLeDiff, Nat.reduceMod, Nat.reduceDiv, lit1, lit2, lit3, f1, f2, f3, List.length_cons] | with_reducible apply And.intro | decide | omega)
    all_goals
      apply VC.at
      · simp -implicitDefEqProofs only [go_sem, Nat.reduceLT, Nat.reduceAdd, Nat.reduceEqDiff, reduceIte, Nat.reduceMul, Nat.reduceSub, reduceCtorEq, Int.reduceNe, Int.reduceEq, ne_eq, Nat.reduceLeDiff, Nat.reduceMod, Nat.reduceDiv, lit1, lit2, lit3, f1, f2, f3, List.length_cons]; (try simp (disch := omega) only [i64_in, tmodn, tdivn]); exact rfl
      apply VC.ret
      simp -implicitDefEqProofs only [go_sem, Nat.reduceLT, Nat.reduceAdd, Nat.reduceEqDiff, reduceIte, Nat.reduceMul, Nat.reduceSub, reduceCtorEq, Int.reduceNe, Int.reduceEq, ne_eq, Nat.reduceLeDiff, Nat.reduceMod, Nat.reduceDiv, lit1, lit2, lit3, f1, f2, f3, List.length_cons]
      skip
end Go.Proofs.Ytgfadocohpinmaa.Oa

