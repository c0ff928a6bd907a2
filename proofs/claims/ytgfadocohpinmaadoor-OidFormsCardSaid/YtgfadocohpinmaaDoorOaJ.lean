/- Bytes and names, apart from any program; what the law OidForms computes. No condition. -/
import Derived.Test.YtgfadocohpinmaaDoorOaH
import Derived.Test.YtgfadocohpinmaaDoorOaI
set_option linter.unusedVariables false
set_option linter.unusedSimpArgs false
namespace Go.Proofs.YtgfadocohpinmaaDoor.Oa
open Go Go.Proofs.YtgfadocohpinmaaDoor.Vm
/-! The plain law of bytes and names. -/
theorem q_step (n i : Nat) (hi : i ≤ 9) : n / 2 ^ (63 - 7 * i) / 128 = n / 2 ^ (70 - 7 * i) := by
  rw [Nat.div_div_eq_div_mul]
  congr 1
  rw [show (128 : Nat) = 2 ^ 7 from rfl, ← Nat.pow_add]
  congr 1; omega
theorem formR_zero : ∀ (f : Nat) (out : List UInt8), formR f 0 out = out
  | 0, out => rfl
  | f + 1, out => by rw [formR, if_pos rfl]
theorem encTo_small (n : Nat) : ∀ i, i ≤ 8 → n / 2 ^ (63 - 7 * i) = 0 → encTo n (i + 1) = [] := by
  intro i
  induction i with
  | zero => intro _ h; rw [encTo_succ, encTo_zero, grp_skip (by omega) h]; rfl
  | succ i ih =>
    intro hi h
    have h' : n / 2 ^ (63 - 7 * i) = 0 := by
      have := q_step n (i + 1) (by omega)
      rw [h, show 70 - 7 * (i + 1) = 63 - 7 * i by omega] at this
      omega
    rw [encTo_succ, ih (by omega) h', grp_skip (by omega) h]; rfl
theorem formR_enc (n : Nat) (hn : n < 2 ^ 70) : ∀ i f out, i ≤ 9 → i ≤ f → formR f (n / 2 ^ (70 - 7 * i)) out = encTo n i ++ out := by
  intro i
  induction i with
  | zero => intro f out _ _; rw [show n / 2 ^ (70 - 7 * 0) = 0 from Nat.div_eq_of_lt hn, formR_zero]; rfl
  | succ i ih =>
    intro f out hi hf
    obtain ⟨f, rfl⟩ : ∃ f', f = f' + 1 := ⟨f - 1, by omega⟩
    rw [show 70 - 7 * (i + 1) = 63 - 7 * i by omega, formR]
    by_cases h : n / 2 ^ (63 - 7 * i) = 0
    · rw [if_pos h, encTo_small n i (by omega) h]; rfl
    · rw [if_neg h, q_step n i (by omega), ih f _ (by omega) (by omega), encTo_succ, grp_more (by omega) h, Nat.add_comm 128]; simp
theorem enc1_form (n : Nat) (hn : n ≤ 9223372036854775807) : enc1 n = form1 n := by
  unfold enc1 form1
  rw [encTo_succ, grp_last rfl]
  have := formR_enc n (by omega) 9 10 [UInt8.ofNat (n % 128)] (by omega) (by omega)
  rw [show 70 - 7 * 9 = 7 from rfl, show (2 : Nat) ^ 7 = 128 from rfl] at this
  rw [this, show 63 - 7 * 9 = 0 from rfl, Nat.pow_zero, Nat.div_one]
theorem enc_renc {l : List Nat} (h : may l = true) : enc l = renc l := by
  have hm := may_all h
  unfold enc renc encN rencN
  rw [List.flatMap_def, List.flatMap_def]
  congr 1
  apply List.map_congr_left
  intro i hi
  have hi' := List.mem_range.1 hi
  have e : num l i = rnum l (i + 1) := by
    unfold num rnum
    by_cases h0 : i = 0
    · subst h0; simp [Nat.add_comm]
    · rw [if_neg h0, if_neg (by omega)]
  have hb : num l i ≤ 9223372036854775807 := numL_le h _ (List.mem_map.2 ⟨i, hi, rfl⟩)
  rw [enc1_form _ hb, e]
theorem encO_renc (l : List Nat) : encO l = rencO l := by
  unfold encO rencO
  by_cases h : may l = true
  · rw [if_pos h, if_pos h, enc_renc h]
  · rw [if_neg h, if_neg h]
/-! reading -/
theorem val7_snc (w : List UInt8) (c : UInt8) : val7 (w ++ [c]) = 128 * val7 w + c.toNat % 128 := by simp [val7]
def hi7 (w : List UInt8) : Prop := ∀ c ∈ w, 128 ≤ c.toNat
theorem val7_ge : ∀ (w : List UInt8) (a : Nat), a ≤ w.foldl (fun n c => 128 * n + c.toNat % 128) a
  | [], a => Nat.le_refl _
  | c :: w, a => Nat.le_trans (by omega) (val7_ge w (128 * a + c.toNat % 128))
theorem val7_pos {w : List UInt8} (hne : w ≠ []) (hw : hi7 w) (h0 : (w.getD 0 0).toNat ≠ 128) : 1 ≤ val7 w := by
  cases w with
  | nil => exact absurd rfl hne
  | cons c w =>
    have h1 := hw c List.mem_cons_self
    simp only [List.getD_cons_zero] at h0
    have h2 := c.toNat_lt
    exact Nat.le_trans (by omega) (val7_ge w (128 * 0 + c.toNat % 128))
theorem formR_val : ∀ (k : Nat) (w : List UInt8), w.length = k → hi7 w → (w ≠ [] → (w.getD 0 0).toNat ≠ 128) → ∀ f out, k ≤ f → formR f (val7 w) out = w ++ out := by
  intro k
  induction k with
  | zero =>
    intro w hk _ _ f out _
    obtain rfl := List.eq_nil_of_length_eq_zero hk
    exact formR_zero f out
  | succ k ih =>
    intro w hk hw h0 f out hf
    have hne : w ≠ [] := by rintro rfl; simp at hk
    have hp := val7_pos hne hw (h0 hne)
    obtain ⟨w', c, rfl⟩ : ∃ w' c, w = w' ++ [c] := ⟨w.dropLast, w.getLast hne, (List.dropLast_concat_getLast hne).symm⟩
    obtain ⟨f, rfl⟩ : ∃ f', f = f' + 1 := ⟨f - 1, by omega⟩
    have hc := hw c (by simp)
    have hc2 := c.toNat_lt
    rw [formR, if_neg (by omega), val7_snc]
    rw [show (128 * val7 w' + c.toNat % 128) / 128 = val7 w' by omega, show 128 + (128 * val7 w' + c.toNat % 128) % 128 = c.toNat by omega, ih w' (by simpa using hk) (fun x hx => hw x (List.mem_append_left _ hx)) (fun h => by
      have := h0 hne
      cases w' with
      | nil => exact absurd rfl h
      | cons a r => simpa using this) f _ (by omega)]
    have : UInt8.ofNat c.toNat = c := UInt8.ofNat_toNat
    rw [this]; simp
theorem val7_low : ∀ (k : Nat) (w : List UInt8), w.length ≤ k → val7 w < 128 ^ k := by
  intro k
  induction k with
  | zero => intro w hk; obtain rfl := List.eq_nil_of_length_eq_zero (by omega : w.length = 0); simp [val7]
  | succ k ih =>
    intro w hk
    by_cases hne : w = []
    · subst hne; simp only [val7, List.foldl_nil]; exact Nat.pow_pos (by decide)
    · obtain ⟨w', c, rfl⟩ : ∃ w' c, w = w' ++ [c] := ⟨w.dropLast, w.getLast hne, (List.dropLast_concat_getLast hne).symm⟩
      have := ih w' (by simp at hk; omega)
      rw [val7_snc, Nat.pow_succ]
      have : c.toNat % 128 < 128 := Nat.mod_lt _ (by decide)
      omega
theorem word_enc {w : List UInt8} {c : UInt8} (hw : hi7 w) (hc : c.toNat < 128) (hb : ¬ bad7 (w ++ [c])) : val7 (w ++ [c]) ≤ 9223372036854775807 ∧ enc1 (val7 (w ++ [c])) = w ++ [c] := by
  unfold bad7 at hb
  have hl : (w ++ [c]).length ≤ 9 := by omega
  have hv := val7_low 9 _ hl
  have hle : val7 (w ++ [c]) ≤ 9223372036854775807 := by omega
  refine ⟨hle, ?_⟩
  rw [enc1_form _ hle]
  unfold form1
  rw [val7_snc, show (128 * val7 w + c.toNat % 128) / 128 = val7 w by omega, show (128 * val7 w + c.toNat % 128) % 128 = c.toNat by omega, formR_val w.length w rfl hw (fun h => by
    intro e; apply hb; left
    cases w with
    | nil => exact absurd rfl h
    | cons a r => simpa using e) 10 _ (by simp at hl; omega)]
  have : UInt8.ofNat c.toNat = c := UInt8.ofNat_toNat
  rw [this]
theorem rrd_enc : ∀ (s cur : List UInt8) (all res : List Nat), hi7 cur → rrd s cur all = some res → ∃ more, res = all ++ more ∧ cur ++ s = more.flatMap enc1 ∧ ∀ x ∈ more, x ≤ 9223372036854775807
  | [], cur, all, res, hcur, h => by
    rw [rrd] at h
    split at h
    · rename_i h0
      injection h with h
      obtain rfl := List.eq_nil_of_length_eq_zero h0
      exact ⟨[], by rw [← h]; simp, by simp, fun x hx => absurd hx List.not_mem_nil⟩
    · cases h
  | c :: r, cur, all, res, hcur, h => by
    rw [rrd] at h
    by_cases h1 : 128 ≤ c.toNat
    · rw [if_pos h1] at h
      obtain ⟨more, e1, e2, e3⟩ := rrd_enc r (cur ++ [c]) all res (fun x hx => by
        rcases List.mem_append.1 hx with hx | hx
        · exact hcur x hx
        · obtain rfl := List.mem_singleton.1 hx; exact h1) h
      exact ⟨more, e1, by rw [← e2]; simp, e3⟩
    · rw [if_neg h1] at h
      split at h
      · cases h
      · rename_i hb
        obtain ⟨hle, he⟩ := word_enc hcur (by omega) hb
        obtain ⟨more, e1, e2, e3⟩ := rrd_enc r [] _ res (fun x hx => absurd hx List.not_mem_nil) h
        refine ⟨val7 (cur ++ [c]) :: more, by rw [e1]; simp, ?_, fun x hx => ?_⟩
        · rw [List.flatMap_cons, he, ← e2]; simp
        · rcases List.mem_cons.1 hx with rfl | hx
          · exact hle
          · exact e3 x hx
theorem rrd_skip : ∀ (w s cur : List UInt8) (all : List Nat), hi7 w → rrd (w ++ s) cur all = rrd s (cur ++ w) all
  | [], s, cur, all, _ => by simp
  | c :: w, s, cur, all, h => by
    rw [List.cons_append, rrd, if_pos (h c List.mem_cons_self), rrd_skip w s _ all (fun x hx => h x (List.mem_cons_of_mem _ hx))]
    simp
theorem encTo_facts (n : Nat) (hn : n ≤ 9223372036854775807) : ∀ j, j ≤ 9 → hi7 (encTo n j) ∧ val7 (encTo n j) = n / 2 ^ (70 - 7 * j) ∧ (encTo n j ≠ [] → ((encTo n j).getD 0 0).toNat ≠ 128) ∧ (encTo n j = [] → n / 2 ^ (70 - 7 * j) = 0) := by
  intro j
  induction j with
  | zero =>
    intro _
    have h0 : n / 2 ^ 70 = 0 := Nat.div_eq_of_lt (by omega)
    exact ⟨fun c hc => absurd hc List.not_mem_nil, by rw [encTo_zero]; exact h0.symm, fun h => absurd (encTo_zero n) h, fun _ => h0⟩
  | succ j ih =>
    intro hj
    obtain ⟨i1, i2, i3, i4⟩ := ih (by omega)
    have hq := q_step n j (by omega)
    rw [show 70 - 7 * (j + 1) = 63 - 7 * j by omega]
    by_cases h : n / 2 ^ (63 - 7 * j) = 0
    · rw [encTo_small n j (by omega) h]
      exact ⟨fun c hc => absurd hc List.not_mem_nil, by rw [h]; rfl, fun h' => absurd rfl h', fun _ => h⟩
    · rw [encTo_succ, grp_more (by omega) h]
      have hlt : n / 2 ^ (63 - 7 * j) % 128 < 128 := Nat.mod_lt _ (by decide)
      have hb : (UInt8.ofNat (n / 2 ^ (63 - 7 * j) % 128 + 128)).toNat = n / 2 ^ (63 - 7 * j) % 128 + 128 := by rw [UInt8.toNat_ofNat']; omega
      refine ⟨fun c hc => ?_, ?_, fun _ => ?_, fun e => ?_⟩
      · rcases List.mem_append.1 hc with hc | hc
        · exact i1 c hc
        · obtain rfl := List.mem_singleton.1 hc; rw [hb]; omega
      · rw [val7_snc, i2, hb, ← hq]; omega
      · by_cases hne : encTo n j = []
        · rw [hne, List.nil_append, List.getD_cons_zero, hb]
          have := i4 hne
          rw [← hq] at this
          omega
        · have := i3 hne
          cases e : encTo n j with
          | nil => exact absurd e hne
          | cons a r => rw [e] at this; simpa using this
      · simp at e
theorem rrd_one (n : Nat) (hn : n ≤ 9223372036854775807) (r : List UInt8) (all : List Nat) : rrd (enc1 n ++ r) [] all = rrd r [] (all ++ [n]) := by
  obtain ⟨i1, i2, i3, i4⟩ := encTo_facts n hn 9 (by omega)
  have e : enc1 n = encTo n 9 ++ [UInt8.ofNat (n % 128)] := by
    unfold enc1; rw [encTo_succ, grp_last rfl, show 63 - 7 * 9 = 0 from rfl, Nat.pow_zero, Nat.div_one]
  have hlt : n % 128 < 128 := Nat.mod_lt _ (by decide)
  have hb : (UInt8.ofNat (n % 128)).toNat = n % 128 := by rw [UInt8.toNat_ofNat']; omega
  rw [e, List.append_assoc, rrd_skip _ _ _ _ i1, List.nil_append, List.singleton_append, rrd, if_neg (by rw [hb]; omega)]
  have hl : (encTo n 9).length ≤ 8 := by
    have h8 : ∀ j, (encTo n (j + 1)).length ≤ j := by
      intro j
      induction j with
      | zero => rw [encTo_small n 0 (by omega) (Nat.div_eq_of_lt (by omega))]; exact Nat.le_refl _
      | succ j ih => rw [encTo_succ, List.length_append]; have := grp_len n (j + 1); omega
    exact h8 8
  rw [if_neg]
  · rw [val7_snc, i2, hb, show 70 - 7 * 9 = 7 from rfl, show (2 : Nat) ^ 7 = 128 from rfl, show 128 * (n / 128) + n % 128 % 128 = n by omega]
  · unfold bad7
    rintro (h | h)
    · by_cases hne : encTo n 9 = []
      · rw [hne, List.nil_append, List.getD_cons_zero, hb] at h; omega
      · apply i3 hne
        cases e' : encTo n 9 with
        | nil => exact absurd e' hne
        | cons a r => rw [e'] at h; simpa using h
    · rw [List.length_append] at h; simp at h; omega
theorem rrd_flat : ∀ (xs : List Nat) (all : List Nat), (∀ x ∈ xs, x ≤ 9223372036854775807) → rrd (xs.flatMap enc1) [] all = some (all ++ xs)
  | [], all, _ => by simp [rrd]
  | x :: xs, all, h => by
    rw [List.flatMap_cons, rrd_one x (h x List.mem_cons_self), rrd_flat xs _ (fun y hy => h y (List.mem_cons_of_mem _ hy))]
    simp
theorem rfst_min (x : Nat) : rfst x = min (x / 40) 2 := by unfold rfst; split <;> omega
theorem rout_fix (x : Nat) (r : List Nat) : rout x r = fixS (x :: r) := by simp [rout, fixS, rfst_min]
/-- What the program reads of bytes is the document's. -/
theorem readS_eq (b : List UInt8) : readS b = readR b := by
  cases h : readS b with
  | some l =>
    obtain ⟨hm, he⟩ := readS_facts h
    have hx := numL_le hm
    have hr := rrd_flat (numL l) [] hx
    rw [← enc_flat, he, List.nil_append] at hr
    have hf := fix_num hm []
    rw [List.append_nil, List.append_nil] at hf
    unfold readR
    rw [hr]
    cases hn : numL l with
    | nil =>
      have h2 := (may_all hm).1
      rw [hn] at hf; simp only [fixS] at hf; rw [← hf] at h2; simp at h2
    | cons x r =>
      simp only []
      rw [rout_fix, ← hn, hf, if_pos hm]
  | none =>
    unfold readR
    split
    · rename_i x r hr
      split
      · rename_i hm
        obtain ⟨more, e1, e2, e3⟩ := rrd_enc b [] [] _ (fun x hx => absurd hx List.not_mem_nil) hr
        rw [List.nil_append] at e1 e2
        subst e1
        have hn : numL (rout x r) = x :: r := by
          rw [rout]; rw [numL_cons]
          congr 1
          rw [rfst_min]; omega
        have : enc (rout x r) = b := by rw [enc_flat, hn, e2]
        have h3 := read_enc hm
        rw [this, h] at h3
        cases h3
      · rfl
    · rfl
theorem namedP_eq (name : List UInt8) : ∀ l : List (List UInt8 × List UInt8), namedL (l.flatMap fun x => [x.1, x.2]) name = namedP l name
  | [] => rfl
  | x :: l => by
    simp only [List.flatMap_cons, List.cons_append, List.nil_append, namedL, namedP]
    rw [namedP_eq name l, parseP_eq, encO_renc]
theorem known_eq : knownL = knownP.flatMap fun x => [x.1, x.2] := by decide +kernel
theorem named_eq (name : List UInt8) : namedP knownP name = namedL knownL name := by rw [known_eq, namedP_eq]
theorem known_texts : ∀ x ∈ knownP, (match parseP x.2 with | some l => decide (may l = true) && decide (namedP knownP x.1 = enc l) && decide (textS l = x.2) | none => false) = true := by decide +kernel
theorem nameOf_go (b : List UInt8) : ∀ l : List (List UInt8 × List UInt8), (∀ x ∈ l, x ∈ knownP) → nameL (l.flatMap fun x => [x.1, x.2]) b = if (readS b).isSome = true then nameP l (theText b) else []
  | [], _ => by simp [nameL, nameP]
  | x :: l, hl => by
    simp only [List.flatMap_cons, List.cons_append, List.nil_append, nameL, nameP]
    rw [nameOf_go b l (fun y hy => hl y (List.mem_cons_of_mem _ hy)), ← named_eq]
    have hx := known_texts x (hl x List.mem_cons_self)
    cases hp : parseP x.2 with
    | none => rw [hp] at hx; cases hx
    | some m =>
      rw [hp] at hx
      simp only [Bool.and_eq_true, decide_eq_true_eq] at hx
      obtain ⟨⟨h1, h2⟩, h3⟩ := hx
      rw [h2]
      by_cases hb : enc m = b
      · rw [if_pos hb]
        have hr : readS b = some m := by rw [← hb]; exact read_enc h1
        have ht : theText b = x.2 := by unfold theText; rw [hr]; simp only [Option.getD_some]; rw [if_pos h1, h3]
        rw [hr, ht]; simp
      · rw [if_neg hb]
        rcases rfacts b with hr | ⟨n, hr, h4, h5⟩
        · rw [hr]; rfl
        · have ht : theText b = textS n := by unfold theText; rw [hr]; simp only [Option.getD_some]; rw [if_pos h4]
          rw [hr, ht]
          simp only [Option.isSome_some, if_true]
          rw [if_neg]
          intro e
          have h6 := parseP_text h4
          rw [← e, hp] at h6
          injection h6 with h6
          exact hb (by rw [h6]; exact h5)
theorem nameOf_eq (b : List UInt8) : nameOf b = nameL knownL b := by
  unfold nameOf
  have := nameOf_go b knownP (fun x hx => hx)
  rw [known_eq, this]
end Go.Proofs.YtgfadocohpinmaaDoor.Oa
namespace Go.Proofs.YtgfadocohpinmaaDoor.Oa
open Go Go.RowKit Go.Proofs.YtgfadocohpinmaaDoor.Vm Go.IntWalk
set_option maxRecDepth 100000
set_option maxHeartbeats 4000000
noncomputable def ΦO : Fns := tab [(16, bytesF), (18, rbytesF), (17, readF), (19, rreadF), (13, sameF), (20, nameCF), (21, rnameF), (23, rnamedF)]
theorem ΦO_ok : Sound E1 ΦO := sound_cons (by kernel_rfl) (lift1 bytes_ok) (sound_cons (by kernel_rfl) (lift1 rbytes_ok) (sound_cons (by kernel_rfl) (lift1 read_ok) (sound_cons (by kernel_rfl) (lift1 rread_ok) (sound_cons (by kernel_rfl) (lift1 same_ok) (sound_cons (by kernel_rfl) nameC_ok (sound_cons (by kernel_rfl) (lift1 rname_ok) (sound_cons (by kernel_rfl) (lift1 rnamed_ok) (sound_nil))))))))
@[go_sem] theorem ΦO_7 : ΦO 7 = none := rfl
@[go_sem] theorem ΦO_c7 : callable Tryd.prog 7 = true := by kernel_rfl
@[go_sem] theorem ΦO_22 : ΦO 22 = none := rfl
@[go_sem] theorem ΦO_c22 : callable Tryd.prog 22 = true := by kernel_rfl
@[go_sem] theorem ΦO_16 : ΦO 16 = some bytesF := rfl
@[go_sem] theorem ΦO_18 : ΦO 18 = some rbytesF := rfl
@[go_sem] theorem ΦO_17 : ΦO 17 = some readF := rfl
@[go_sem] theorem ΦO_19 : ΦO 19 = some rreadF := rfl
@[go_sem] theorem ΦO_13 : ΦO 13 = some sameF := rfl
@[go_sem] theorem ΦO_20 : ΦO 20 = some nameCF := rfl
@[go_sem] theorem ΦO_21 : ΦO 21 = some rnameF := rfl
@[go_sem] theorem ΦO_23 : ΦO 23 = some rnamedF := rfl
theorem snoc_len (b : List UInt8) : (b ++ [7]).length = b.length + 1 := by simp
theorem take_snoc (b : List UInt8) : (bytesD (b ++ [7])).take b.length = bytesD b := by
  rw [← bytesD_snoc, List.take_append_of_le_length (by rw [bytesD_len]; exact Nat.le_refl _)]
  exact List.take_of_length_le (by rw [bytesD_len]; exact Nat.le_refl _)
theorem take_sn (b : List UInt8) : (b ++ [7]).take b.length = b := List.take_left
theorem take_ln (b : List UInt8) : (b ++ [7]).take (b.length + 1) = b ++ [7] := List.take_of_length_le (by simp)
theorem take_ln2 (b : List UInt8) : (bytesD (b ++ [7])).take (b.length + 1) = bytesD (b ++ [7]) := List.take_of_length_le (by rw [bytesD_len]; simp)
theorem set_byte (x : List UInt8) (k : Nat) (h : k < x.length) : (bytesD x).set k [.int .u8 (IntKind.u8.wrap (((x.getD k 0).toNat : Int) + 1))] = bytesD (x.set k (x.getD k 0 + 1)) := by
  unfold bytesD
  rw [List.map_set]
  congr 1
theorem row7 (b : List UInt8) : bytesD b ++ [[.int .u8 7]] = bytesD (b ++ [7]) := by rw [← bytesD_snoc]; rfl
def formsA (x : List Nat × List UInt8 × List UInt8) : List Vm.Data := let (l, b, name) := x; [.lst (numsD l), .lst (bytesD b), .str name]
noncomputable def formsF : PFn := PFn.of formsA (fun (l, b, name) => True) (fun (l, b, name) => [.bool true])
theorem forms_inj (x y : List Nat × List UInt8 × List UInt8) (h : formsA x = formsA y) : x = y := by
  simpa [formsA, Prod.ext_iff, numsD_inj, bytesD_inj, Vm.Data.lst.injEq, Int.natCast_inj] using h
@[go_sem] theorem forms_pre (l : List Nat) (b : List UInt8) (name : List UInt8) : formsF.pre [.lst (numsD l), .lst (bytesD b), .str name] = (True) := PFn.of_pre forms_inj (l, b, name)
@[go_sem] theorem forms_res (l : List Nat) (b : List UInt8) (name : List UInt8) : formsF.res [.lst (numsD l), .lst (bytesD b), .str name] = [.bool true] := PFn.of_res forms_inj (l, b, name)
theorem forms_ok : Pure E1 5 formsF := by
  apply Pure.of_body (rs := [.tmp 6]) (n := 133) Tryd.func5 rfl rfl rfl
  intro ds hds
  obtain ⟨⟨l, b, name⟩, rfl, hds⟩ := hds
  (try dsimp only at hds)
  rw [show formsF.res (formsA (l, b, name)) = [.bool true] from forms_res l b name]
  skip
  refine ⟨Nat.le_of_ble_eq_true rfl, ?_⟩
  show VC E1 none _ (pureSt 133 [.lst (numsD l), .lst (bytesD b), .str name]) _
  apply VC.regt ΦO_ok [0, 1, 2]; intro K' hK; dsimp only [List.take, List.drop, List.map, strip, stripG]; simp -implicitDefEqProofs only [go_sem, Nat.reduceLT, Nat.reduceAdd, Nat.reduceEqDiff, reduceIte, Nat.reduceMul, Nat.reduceSub, reduceCtorEq, Int.reduceNe, Int.reduceEq, ne_eq, Nat.reduceLeDiff, Nat.reduceMod, Nat.reduceDiv]
  (repeat' first | (refine hK _ ?_; clear hK K') | with_reducible apply And.intro | (simp -implicitDefEqProofs (disch := omega) only [take_twin, take_tw, len_twin, at_twin, snoc_len, take_snoc, take_sn, take_ln, take_ln2, i64_in, Nat.le_add_right, bytesD_at, nameOf_eq, List.length_cons, List.length_nil, Nat.reduceAdd]; done) | omega | (rw [← readS_eq]; exact Nat.le_trans (readS_len _) (by decide)) | (simp only [maxLen]; omega) | (simp only [bytesD_len, List.length_append, List.length_cons, List.length_nil]; omega))
  all_goals
    apply VC.at
    · simp -implicitDefEqProofs only [go_sem, Nat.reduceLT, Nat.reduceAdd, Nat.reduceEqDiff, reduceIte, Nat.reduceMul, Nat.reduceSub, reduceCtorEq, Int.reduceNe, Int.reduceEq, ne_eq, Nat.reduceLeDiff, Nat.reduceMod, Nat.reduceDiv]; (try simp (disch := omega) only [i64_in, tmodn, tdivn]); exact rfl
    apply VC.seq
    apply VC.regt ΦO_ok [0, 1, 2, 31]; intro K' hK; dsimp only [List.take, List.drop, List.map, strip, stripG]; simp only [gtmp, List.getElem?_toArray, List.getElem?_cons_succ, List.getElem?_cons_zero, Option.bind_some]; simp -implicitDefEqProofs only [go_sem, Nat.reduceLT, Nat.reduceAdd, Nat.reduceEqDiff, reduceIte, Nat.reduceMul, Nat.reduceSub, reduceCtorEq, Int.reduceNe, Int.reduceEq, ne_eq, Nat.reduceLeDiff, Nat.reduceMod, Nat.reduceDiv]
    (repeat' first | (refine hK _ ?_; clear hK K') | (first | apply goB_splitD | apply goA_splitD | apply goB_split | apply goA_split | apply goA_all) <;> intro _ <;> simp -implicitDefEqProofs only [go_sem, Nat.reduceLT, Nat.reduceAdd, Nat.reduceEqDiff, reduceIte, Nat.reduceMul, Nat.reduceSub, reduceCtorEq, Int.reduceNe, Int.reduceEq, ne_eq, Nat.reduceLeDiff, Nat.reduceMod, Nat.reduceDiv] | with_reducible apply And.intro | (simp -implicitDefEqProofs (disch := omega) only [take_twin, take_tw, len_twin, at_twin, snoc_len, take_snoc, take_sn, take_ln, take_ln2, i64_in, Nat.le_add_right, bytesD_at, nameOf_eq, List.length_cons, List.length_nil, Nat.reduceAdd]; done) | omega | (rw [← readS_eq]; exact Nat.le_trans (readS_len _) (by decide)) | (simp only [maxLen]; omega) | (simp only [bytesD_len, List.length_append, List.length_cons, List.length_nil]; omega))
    all_goals
      apply VC.at
      · simp -implicitDefEqProofs only [go_sem, Nat.reduceLT, Nat.reduceAdd, Nat.reduceEqDiff, reduceIte, Nat.reduceMul, Nat.reduceSub, reduceCtorEq, Int.reduceNe, Int.reduceEq, ne_eq, Nat.reduceLeDiff, Nat.reduceMod, Nat.reduceDiv]; (try simp (disch := omega) only [i64_in, tmodn, tdivn]); exact rfl
      first | (apply VC.condd; (focus (simp -implicitDefEqProofs only [go_sem, Nat.reduceLT, Nat.reduceAdd, Nat.reduceEqDiff, reduceIte, Nat.reduceMul, Nat.reduceSub, reduceCtorEq, Int.reduceNe, Int.reduceEq, ne_eq, Nat.reduceLeDiff, Nat.reduceMod, Nat.reduceDiv]; with_reducible exact rfl))) | (apply VC.condn; (focus (simp -implicitDefEqProofs only [go_sem, Nat.reduceLT, Nat.reduceAdd, Nat.reduceEqDiff, reduceIte, Nat.reduceMul, Nat.reduceSub, reduceCtorEq, Int.reduceNe, Int.reduceEq, ne_eq, Nat.reduceLeDiff, Nat.reduceMod, Nat.reduceDiv]; with_reducible exact rfl))) | (apply VC.condt; (focus (simp -implicitDefEqProofs only [go_sem, Nat.reduceLT, Nat.reduceAdd, Nat.reduceEqDiff, reduceIte, Nat.reduceMul, Nat.reduceSub, reduceCtorEq, Int.reduceNe, Int.reduceEq, ne_eq, Nat.reduceLeDiff, Nat.reduceMod, Nat.reduceDiv]; with_reducible exact rfl))) | (apply VC.condb; (focus (simp -implicitDefEqProofs only [go_sem, Nat.reduceLT, Nat.reduceAdd, Nat.reduceEqDiff, reduceIte, Nat.reduceMul, Nat.reduceSub, reduceCtorEq, Int.reduceNe, Int.reduceEq, ne_eq, Nat.reduceLeDiff, Nat.reduceMod, Nat.reduceDiv]; exact rfl)))
      · intro h; try exact absurd h (by decide)
        all_goals
          apply VC.regt ΦO_ok [6]; intro K' hK; dsimp only [List.take, List.drop, List.map, strip, stripG]; simp -implicitDefEqProofs only [go_sem, Nat.reduceLT, Nat.reduceAdd, Nat.reduceEqDiff, reduceIte, Nat.reduceMul, Nat.reduceSub, reduceCtorEq, Int.reduceNe, Int.reduceEq, ne_eq, Nat.reduceLeDiff, Nat.reduceMod, Nat.reduceDiv]
          (repeat' first | (refine hK _ ?_; clear hK K') | with_reducible apply And.intro | (simp -implicitDefEqProofs (disch := omega) only [take_twin, take_tw, len_twin, at_twin, snoc_len, take_snoc, take_sn, take_ln, take_ln2, i64_in, Nat.le_add_right, bytesD_at, nameOf_eq, List.length_cons, List.length_nil, Nat.reduceAdd]; done) | omega | (rw [← readS_eq]; exact Nat.le_trans (readS_len _) (by decide)) | (simp only [maxLen]; omega) | (simp only [bytesD_len, List.length_append, List.length_cons, List.length_nil]; omega))
          all_goals
            apply VC.at
            · simp -implicitDefEqProofs only [go_sem, Nat.reduceLT, Nat.reduceAdd, Nat.reduceEqDiff, reduceIte, Nat.reduceMul, Nat.reduceSub, reduceCtorEq, Int.reduceNe, Int.reduceEq, ne_eq, Nat.reduceLeDiff, Nat.reduceMod, Nat.reduceDiv]; (try simp (disch := omega) only [i64_in, tmodn, tdivn]); exact rfl
            apply VC.ret
            refine thenK_r ?_
            simp -implicitDefEqProofs only [go_sem, Nat.reduceLT, Nat.reduceAdd, Nat.reduceEqDiff, reduceIte, Nat.reduceMul, Nat.reduceSub, reduceCtorEq, Int.reduceNe, Int.reduceEq, ne_eq, Nat.reduceLeDiff, Nat.reduceMod, Nat.reduceDiv]
            all_goals (first | trivial | rfl)
      · intro h; try exact absurd h (by decide)
        all_goals
          apply VC.skip
          refine thenK_n ?_
          apply VC.regt ΦO_ok [0, 1, 2, 7]; intro K' hK; dsimp only [List.take, List.drop, List.map, strip, stripG]; simp -implicitDefEqProofs only [go_sem, Nat.reduceLT, Nat.reduceAdd, Nat.reduceEqDiff, reduceIte, Nat.reduceMul, Nat.reduceSub, reduceCtorEq, Int.reduceNe, Int.reduceEq, ne_eq, Nat.reduceLeDiff, Nat.reduceMod, Nat.reduceDiv]
          (repeat' first | (refine hK _ ?_; clear hK K') | with_reducible apply And.intro | (simp -implicitDefEqProofs (disch := omega) only [take_twin, take_tw, len_twin, at_twin, snoc_len, take_snoc, take_sn, take_ln, take_ln2, i64_in, Nat.le_add_right, bytesD_at, nameOf_eq, List.length_cons, List.length_nil, Nat.reduceAdd]; done) | omega | (rw [← readS_eq]; exact Nat.le_trans (readS_len _) (by decide)) | (simp only [maxLen]; omega) | (simp only [bytesD_len, List.length_append, List.length_cons, List.length_nil]; omega))
          all_goals
            apply VC.at
            · simp -implicitDefEqProofs only [go_sem, Nat.reduceLT, Nat.reduceAdd, Nat.reduceEqDiff, reduceIte, Nat.reduceMul, Nat.reduceSub, reduceCtorEq, Int.reduceNe, Int.reduceEq, ne_eq, Nat.reduceLeDiff, Nat.reduceMod, Nat.reduceDiv]; (try simp (disch := omega) only [i64_in, tmodn, tdivn]); (try simp only [snoc_len, row7]); exact rfl
            apply VC.regt ΦO_ok [0, 1, 2, 7, 8, 9]; intro K' hK; dsimp only [List.take, List.drop, List.map, strip, stripG]; simp -implicitDefEqProofs only [go_sem, Nat.reduceLT, Nat.reduceAdd, Nat.reduceEqDiff, reduceIte, Nat.reduceMul, Nat.reduceSub, reduceCtorEq, Int.reduceNe, Int.reduceEq, ne_eq, Nat.reduceLeDiff, Nat.reduceMod, Nat.reduceDiv]
            (repeat' first | fail | ((first | with_reducible refine runA_id ?_ | with_reducible refine goA_id ?_); simp -implicitDefEqProofs (disch := omega) only [take_twin, take_tw, len_twin, at_twin, snoc_len, take_snoc, take_sn, take_ln, take_ln2, i64_in, Nat.le_add_right, bytesD_at, nameOf_eq]; simp -implicitDefEqProofs only [go_sem, Nat.reduceLT, Nat.reduceAdd, Nat.reduceEqDiff, reduceIte, Nat.reduceMul, Nat.reduceSub, reduceCtorEq, Int.reduceNe, Int.reduceEq, ne_eq, Nat.reduceLeDiff, Nat.reduceMod, Nat.reduceDiv]) | with_reducible apply And.intro | (simp -implicitDefEqProofs (disch := omega) only [take_twin, take_tw, len_twin, at_twin, snoc_len, take_snoc, take_sn, take_ln, take_ln2, i64_in, Nat.le_add_right, bytesD_at, nameOf_eq, List.length_cons, List.length_nil, Nat.reduceAdd]; done) | omega | (rw [← readS_eq]; exact Nat.le_trans (readS_len _) (by decide)) | (simp only [maxLen]; omega) | (simp only [bytesD_len, List.length_append, List.length_cons, List.length_nil]; omega))
            refine VCcall.own (liftO twin_own) 2 (by simp -implicitDefEqProofs only [go_sem, Nat.reduceLT, Nat.reduceAdd, Nat.reduceEqDiff, reduceIte, Nat.reduceMul, Nat.reduceSub, reduceCtorEq, Int.reduceNe, Int.reduceEq, ne_eq, Nat.reduceLeDiff, Nat.reduceMod, Nat.reduceDiv]; exact rfl) ?_ ?_ ?_
            · simp -implicitDefEqProofs only [go_sem, Nat.reduceLT, Nat.reduceAdd, Nat.reduceEqDiff, reduceIte, Nat.reduceMul, Nat.reduceSub, reduceCtorEq, Int.reduceNe, Int.reduceEq, ne_eq, Nat.reduceLeDiff, Nat.reduceMod, Nat.reduceDiv]; omega
            · simp -implicitDefEqProofs only [go_sem, Nat.reduceLT, Nat.reduceAdd, Nat.reduceEqDiff, reduceIte, Nat.reduceMul, Nat.reduceSub, reduceCtorEq, Int.reduceNe, Int.reduceEq, ne_eq, Nat.reduceLeDiff, Nat.reduceMod, Nat.reduceDiv]; first | done | decide
            simp -implicitDefEqProofs only [go_sem, Nat.reduceLT, Nat.reduceAdd, Nat.reduceEqDiff, reduceIte, Nat.reduceMul, Nat.reduceSub, reduceCtorEq, Int.reduceNe, Int.reduceEq, ne_eq, Nat.reduceLeDiff, Nat.reduceMod, Nat.reduceDiv]
            (repeat' first | (refine hK _ ?_; clear hK K') | ((first | with_reducible refine runA_id ?_ | with_reducible refine goA_id ?_); simp -implicitDefEqProofs (disch := omega) only [take_twin, take_tw, len_twin, at_twin, snoc_len, take_snoc, take_sn, take_ln, take_ln2, i64_in, Nat.le_add_right, bytesD_at, nameOf_eq]; simp -implicitDefEqProofs only [go_sem, Nat.reduceLT, Nat.reduceAdd, Nat.reduceEqDiff, reduceIte, Nat.reduceMul, Nat.reduceSub, reduceCtorEq, Int.reduceNe, Int.reduceEq, ne_eq, Nat.reduceLeDiff, Nat.reduceMod, Nat.reduceDiv]) | with_reducible apply And.intro | (simp -implicitDefEqProofs (disch := omega) only [take_twin, take_tw, len_twin, at_twin, snoc_len, take_snoc, take_sn, take_ln, take_ln2, i64_in, Nat.le_add_right, bytesD_at, nameOf_eq, List.length_cons, List.length_nil, Nat.reduceAdd]; done) | omega | (rw [← readS_eq]; exact Nat.le_trans (readS_len _) (by decide)) | (simp only [maxLen]; omega) | (simp only [bytesD_len, List.length_append, List.length_cons, List.length_nil]; omega))
            all_goals
              apply VC.at
              · simp -implicitDefEqProofs only [go_sem, Nat.reduceLT, Nat.reduceAdd, Nat.reduceEqDiff, reduceIte, Nat.reduceMul, Nat.reduceSub, reduceCtorEq, Int.reduceNe, Int.reduceEq, ne_eq, Nat.reduceLeDiff, Nat.reduceMod, Nat.reduceDiv]; (try simp (disch := omega) only [i64_in, tmodn, tdivn]); exact rfl
              apply VC.regt ΦO_ok [1, 2, 7, 8, 9, 10, 11]; intro K' hK; dsimp only [List.take, List.drop, List.map, strip, stripG]; simp -implicitDefEqProofs only [go_sem, Nat.reduceLT, Nat.reduceAdd, Nat.reduceEqDiff, reduceIte, Nat.reduceMul, Nat.reduceSub, reduceCtorEq, Int.reduceNe, Int.reduceEq, ne_eq, Nat.reduceLeDiff, Nat.reduceMod, Nat.reduceDiv]
              (repeat' first | (refine hK _ ?_; clear hK K') | ((first | with_reducible refine runA_id ?_ | with_reducible refine goA_id ?_); simp -implicitDefEqProofs (disch := omega) only [take_twin, take_tw, len_twin, at_twin, snoc_len, take_snoc, take_sn, take_ln, take_ln2, i64_in, Nat.le_add_right, bytesD_at, nameOf_eq]; simp -implicitDefEqProofs only [go_sem, Nat.reduceLT, Nat.reduceAdd, Nat.reduceEqDiff, reduceIte, Nat.reduceMul, Nat.reduceSub, reduceCtorEq, Int.reduceNe, Int.reduceEq, ne_eq, Nat.reduceLeDiff, Nat.reduceMod, Nat.reduceDiv]) | with_reducible apply And.intro | (simp -implicitDefEqProofs (disch := omega) only [take_twin, take_tw, len_twin, at_twin, snoc_len, take_snoc, take_sn, take_ln, take_ln2, i64_in, Nat.le_add_right, bytesD_at, nameOf_eq, List.length_cons, List.length_nil, Nat.reduceAdd]; done) | omega | (rw [← readS_eq]; exact Nat.le_trans (readS_len _) (by decide)) | (simp only [maxLen]; omega) | (simp only [bytesD_len, List.length_append, List.length_cons, List.length_nil]; omega))
              all_goals
                apply VC.at
                · simp -implicitDefEqProofs only [go_sem, Nat.reduceLT, Nat.reduceAdd, Nat.reduceEqDiff, reduceIte, Nat.reduceMul, Nat.reduceSub, reduceCtorEq, Int.reduceNe, Int.reduceEq, ne_eq, Nat.reduceLeDiff, Nat.reduceMod, Nat.reduceDiv]; (try simp (disch := omega) only [i64_in, tmodn, tdivn]); exact rfl
                apply VC.regt ΦO_ok [1, 2, 7, 8, 9, 10, 11, 12, 13]; intro K' hK; dsimp only [List.take, List.drop, List.map, strip, stripG]; simp -implicitDefEqProofs only [go_sem, Nat.reduceLT, Nat.reduceAdd, Nat.reduceEqDiff, reduceIte, Nat.reduceMul, Nat.reduceSub, reduceCtorEq, Int.reduceNe, Int.reduceEq, ne_eq, Nat.reduceLeDiff, Nat.reduceMod, Nat.reduceDiv]
                (repeat' first | (refine hK _ ?_; clear hK K') | ((first | with_reducible refine runA_id ?_ | with_reducible refine goA_id ?_); simp -implicitDefEqProofs (disch := omega) only [take_twin, take_tw, len_twin, at_twin, snoc_len, take_snoc, take_sn, take_ln, take_ln2, i64_in, Nat.le_add_right, bytesD_at, nameOf_eq]; simp -implicitDefEqProofs only [go_sem, Nat.reduceLT, Nat.reduceAdd, Nat.reduceEqDiff, reduceIte, Nat.reduceMul, Nat.reduceSub, reduceCtorEq, Int.reduceNe, Int.reduceEq, ne_eq, Nat.reduceLeDiff, Nat.reduceMod, Nat.reduceDiv]) | with_reducible apply And.intro | (simp -implicitDefEqProofs (disch := omega) only [take_twin, take_tw, len_twin, at_twin, snoc_len, take_snoc, take_sn, take_ln, take_ln2, i64_in, Nat.le_add_right, bytesD_at, nameOf_eq, List.length_cons, List.length_nil, Nat.reduceAdd]; done) | omega | (rw [← readS_eq]; exact Nat.le_trans (readS_len _) (by decide)) | (simp only [maxLen]; omega) | (simp only [bytesD_len, List.length_append, List.length_cons, List.length_nil]; omega))
                all_goals
                  apply VC.at
                  · simp -implicitDefEqProofs only [go_sem, Nat.reduceLT, Nat.reduceAdd, Nat.reduceEqDiff, reduceIte, Nat.reduceMul, Nat.reduceSub, reduceCtorEq, Int.reduceNe, Int.reduceEq, ne_eq, Nat.reduceLeDiff, Nat.reduceMod, Nat.reduceDiv]; (try simp (disch := omega) only [i64_in, tmodn, tdivn]); exact rfl
                  apply VC.regt ΦO_ok [1, 2, 7, 8, 9, 10, 11, 12, 13, 14, 15]; intro K' hK; dsimp only [List.take, List.drop, List.map, strip, stripG]; simp -implicitDefEqProofs only [go_sem, Nat.reduceLT, Nat.reduceAdd, Nat.reduceEqDiff, reduceIte, Nat.reduceMul, Nat.reduceSub, reduceCtorEq, Int.reduceNe, Int.reduceEq, ne_eq, Nat.reduceLeDiff, Nat.reduceMod, Nat.reduceDiv]
                  (repeat' first | (refine hK _ ?_; clear hK K') | ((first | with_reducible refine runA_id ?_ | with_reducible refine goA_id ?_); simp -implicitDefEqProofs (disch := omega) only [take_twin, take_tw, len_twin, at_twin, snoc_len, take_snoc, take_sn, take_ln, take_ln2, i64_in, Nat.le_add_right, bytesD_at, nameOf_eq]; simp -implicitDefEqProofs only [go_sem, Nat.reduceLT, Nat.reduceAdd, Nat.reduceEqDiff, reduceIte, Nat.reduceMul, Nat.reduceSub, reduceCtorEq, Int.reduceNe, Int.reduceEq, ne_eq, Nat.reduceLeDiff, Nat.reduceMod, Nat.reduceDiv]) | with_reducible apply And.intro | (simp -implicitDefEqProofs (disch := omega) only [take_twin, take_tw, len_twin, at_twin, snoc_len, take_snoc, take_sn, take_ln, take_ln2, i64_in, Nat.le_add_right, bytesD_at, nameOf_eq, List.length_cons, List.length_nil, Nat.reduceAdd]; done) | omega | (rw [← readS_eq]; exact Nat.le_trans (readS_len _) (by decide)) | (simp only [maxLen]; omega) | (simp only [bytesD_len, List.length_append, List.length_cons, List.length_nil]; omega))
                  all_goals
                    apply VC.at
                    · simp -implicitDefEqProofs only [go_sem, Nat.reduceLT, Nat.reduceAdd, Nat.reduceEqDiff, reduceIte, Nat.reduceMul, Nat.reduceSub, reduceCtorEq, Int.reduceNe, Int.reduceEq, ne_eq, Nat.reduceLeDiff, Nat.reduceMod, Nat.reduceDiv]; (try simp (disch := omega) only [i64_in, tmodn, tdivn]); exact rfl
                    apply VC.seq
                    rw [readS_eq, encO_renc]
                    apply VC.regt ΦO_ok [2, 102]; intro K' hK; dsimp only [List.take, List.drop, List.map, strip, stripG]; simp only [gtmp, List.getElem?_toArray, List.getElem?_cons_succ, List.getElem?_cons_zero, Option.bind_some]; simp -implicitDefEqProofs only [go_sem, Nat.reduceLT, Nat.reduceAdd, Nat.reduceEqDiff, reduceIte, Nat.reduceMul, Nat.reduceSub, reduceCtorEq, Int.reduceNe, Int.reduceEq, ne_eq, Nat.reduceLeDiff, Nat.reduceMod, Nat.reduceDiv, nameOf_eq, eq_self, decide_true, Bool.not_true]
                    (repeat' first | (refine hK _ ?_; clear hK K') | (first | apply goB_splitD | apply goA_splitD | apply goB_split | apply goA_split | apply goA_all) <;> intro _ <;> simp -implicitDefEqProofs only [go_sem, Nat.reduceLT, Nat.reduceAdd, Nat.reduceEqDiff, reduceIte, Nat.reduceMul, Nat.reduceSub, reduceCtorEq, Int.reduceNe, Int.reduceEq, ne_eq, Nat.reduceLeDiff, Nat.reduceMod, Nat.reduceDiv, nameOf_eq, eq_self, decide_true, Bool.not_true] | ((first | with_reducible refine runA_id ?_ | with_reducible refine goA_id ?_); simp -implicitDefEqProofs (disch := omega) only [take_twin, take_tw, len_twin, at_twin, snoc_len, take_snoc, take_sn, take_ln, take_ln2, i64_in, Nat.le_add_right, bytesD_at, nameOf_eq]; simp -implicitDefEqProofs only [go_sem, Nat.reduceLT, Nat.reduceAdd, Nat.reduceEqDiff, reduceIte, Nat.reduceMul, Nat.reduceSub, reduceCtorEq, Int.reduceNe, Int.reduceEq, ne_eq, Nat.reduceLeDiff, Nat.reduceMod, Nat.reduceDiv, nameOf_eq, eq_self, decide_true, Bool.not_true]) | with_reducible apply And.intro | (simp -implicitDefEqProofs (disch := omega) only [take_twin, take_tw, len_twin, at_twin, snoc_len, take_snoc, take_sn, take_ln, take_ln2, i64_in, Nat.le_add_right, bytesD_at, nameOf_eq, List.length_cons, List.length_nil, Nat.reduceAdd]; done) | omega | (rw [← readS_eq]; exact Nat.le_trans (readS_len _) (by decide)) | (simp only [maxLen]; omega) | (simp only [bytesD_len, List.length_append, List.length_cons, List.length_nil]; omega))
                    all_goals
                      apply VC.at
                      · simp -implicitDefEqProofs only [go_sem, Nat.reduceLT, Nat.reduceAdd, Nat.reduceEqDiff, reduceIte, Nat.reduceMul, Nat.reduceSub, reduceCtorEq, Int.reduceNe, Int.reduceEq, ne_eq, Nat.reduceLeDiff, Nat.reduceMod, Nat.reduceDiv, nameOf_eq, eq_self, decide_true, Bool.not_true]; (try simp (disch := omega) only [i64_in, tmodn, tdivn]); exact rfl
                      first | (apply VC.condd; (focus (simp -implicitDefEqProofs only [go_sem, Nat.reduceLT, Nat.reduceAdd, Nat.reduceEqDiff, reduceIte, Nat.reduceMul, Nat.reduceSub, reduceCtorEq, Int.reduceNe, Int.reduceEq, ne_eq, Nat.reduceLeDiff, Nat.reduceMod, Nat.reduceDiv]; with_reducible exact rfl))) | (apply VC.condn; (focus (simp -implicitDefEqProofs only [go_sem, Nat.reduceLT, Nat.reduceAdd, Nat.reduceEqDiff, reduceIte, Nat.reduceMul, Nat.reduceSub, reduceCtorEq, Int.reduceNe, Int.reduceEq, ne_eq, Nat.reduceLeDiff, Nat.reduceMod, Nat.reduceDiv]; with_reducible exact rfl))) | (apply VC.condt; (focus (simp -implicitDefEqProofs only [go_sem, Nat.reduceLT, Nat.reduceAdd, Nat.reduceEqDiff, reduceIte, Nat.reduceMul, Nat.reduceSub, reduceCtorEq, Int.reduceNe, Int.reduceEq, ne_eq, Nat.reduceLeDiff, Nat.reduceMod, Nat.reduceDiv]; with_reducible exact rfl))) | (apply VC.condb; (focus (simp -implicitDefEqProofs only [go_sem, Nat.reduceLT, Nat.reduceAdd, Nat.reduceEqDiff, reduceIte, Nat.reduceMul, Nat.reduceSub, reduceCtorEq, Int.reduceNe, Int.reduceEq, ne_eq, Nat.reduceLeDiff, Nat.reduceMod, Nat.reduceDiv]; exact rfl)))
                      · intro h; try exact absurd h (by decide)
                        all_goals
                          apply VC.regt ΦO_ok [6]; intro K' hK; dsimp only [List.take, List.drop, List.map, strip, stripG]; simp -implicitDefEqProofs only [go_sem, Nat.reduceLT, Nat.reduceAdd, Nat.reduceEqDiff, reduceIte, Nat.reduceMul, Nat.reduceSub, reduceCtorEq, Int.reduceNe, Int.reduceEq, ne_eq, Nat.reduceLeDiff, Nat.reduceMod, Nat.reduceDiv]
                          (repeat' first | (refine hK _ ?_; clear hK K') | with_reducible apply And.intro | (simp -implicitDefEqProofs (disch := omega) only [take_twin, take_tw, len_twin, at_twin, snoc_len, take_snoc, take_sn, take_ln, take_ln2, i64_in, Nat.le_add_right, bytesD_at, nameOf_eq, List.length_cons, List.length_nil, Nat.reduceAdd]; done) | omega | (rw [← readS_eq]; exact Nat.le_trans (readS_len _) (by decide)) | (simp only [maxLen]; omega) | (simp only [bytesD_len, List.length_append, List.length_cons, List.length_nil]; omega))
                          all_goals
                            apply VC.at
                            · simp -implicitDefEqProofs only [go_sem, Nat.reduceLT, Nat.reduceAdd, Nat.reduceEqDiff, reduceIte, Nat.reduceMul, Nat.reduceSub, reduceCtorEq, Int.reduceNe, Int.reduceEq, ne_eq, Nat.reduceLeDiff, Nat.reduceMod, Nat.reduceDiv]; (try simp (disch := omega) only [i64_in, tmodn, tdivn]); exact rfl
                            apply VC.ret
                            refine thenK_r ?_
                            simp -implicitDefEqProofs only [go_sem, Nat.reduceLT, Nat.reduceAdd, Nat.reduceEqDiff, reduceIte, Nat.reduceMul, Nat.reduceSub, reduceCtorEq, Int.reduceNe, Int.reduceEq, ne_eq, Nat.reduceLeDiff, Nat.reduceMod, Nat.reduceDiv]
                            all_goals (first | trivial | rfl)
                      · intro h; try exact absurd h (by decide)
                        all_goals
                          apply VC.skip
                          refine thenK_n ?_
                          apply VC.regt ΦO_ok [2, 16]; intro K' hK; dsimp only [List.take, List.drop, List.map, strip, stripG]; simp -implicitDefEqProofs only [go_sem, Nat.reduceLT, Nat.reduceAdd, Nat.reduceEqDiff, reduceIte, Nat.reduceMul, Nat.reduceSub, reduceCtorEq, Int.reduceNe, Int.reduceEq, ne_eq, Nat.reduceLeDiff, Nat.reduceMod, Nat.reduceDiv]
                          (repeat' first | fail | ((first | with_reducible refine runA_id ?_ | with_reducible refine goA_id ?_); simp -implicitDefEqProofs (disch := omega) only [take_twin, take_tw, len_twin, at_twin, snoc_len, take_snoc, take_sn, take_ln, take_ln2, i64_in, Nat.le_add_right, bytesD_at, nameOf_eq]; simp -implicitDefEqProofs only [go_sem, Nat.reduceLT, Nat.reduceAdd, Nat.reduceEqDiff, reduceIte, Nat.reduceMul, Nat.reduceSub, reduceCtorEq, Int.reduceNe, Int.reduceEq, ne_eq, Nat.reduceLeDiff, Nat.reduceMod, Nat.reduceDiv]) | with_reducible apply And.intro | (simp -implicitDefEqProofs (disch := omega) only [take_twin, take_tw, len_twin, at_twin, snoc_len, take_snoc, take_sn, take_ln, take_ln2, i64_in, Nat.le_add_right, bytesD_at, nameOf_eq, List.length_cons, List.length_nil, Nat.reduceAdd]; done) | omega | (rw [← readS_eq]; exact Nat.le_trans (readS_len _) (by decide)) | (simp only [maxLen]; omega) | (simp only [bytesD_len, List.length_append, List.length_cons, List.length_nil]; omega))
                          refine VCcall.own named_own 3 (by simp -implicitDefEqProofs only [go_sem, Nat.reduceLT, Nat.reduceAdd, Nat.reduceEqDiff, reduceIte, Nat.reduceMul, Nat.reduceSub, reduceCtorEq, Int.reduceNe, Int.reduceEq, ne_eq, Nat.reduceLeDiff, Nat.reduceMod, Nat.reduceDiv]; exact rfl) ?_ ?_ ?_
                          · simp -implicitDefEqProofs only [go_sem, Nat.reduceLT, Nat.reduceAdd, Nat.reduceEqDiff, reduceIte, Nat.reduceMul, Nat.reduceSub, reduceCtorEq, Int.reduceNe, Int.reduceEq, ne_eq, Nat.reduceLeDiff, Nat.reduceMod, Nat.reduceDiv]; first | done | omega
                          · simp -implicitDefEqProofs only [go_sem, Nat.reduceLT, Nat.reduceAdd, Nat.reduceEqDiff, reduceIte, Nat.reduceMul, Nat.reduceSub, reduceCtorEq, Int.reduceNe, Int.reduceEq, ne_eq, Nat.reduceLeDiff, Nat.reduceMod, Nat.reduceDiv]; first | done | decide
                          simp -implicitDefEqProofs only [go_sem, Nat.reduceLT, Nat.reduceAdd, Nat.reduceEqDiff, reduceIte, Nat.reduceMul, Nat.reduceSub, reduceCtorEq, Int.reduceNe, Int.reduceEq, ne_eq, Nat.reduceLeDiff, Nat.reduceMod, Nat.reduceDiv]
                          (repeat' first | (refine hK _ ?_; clear hK K') | ((first | with_reducible refine runA_id ?_ | with_reducible refine goA_id ?_); simp -implicitDefEqProofs (disch := omega) only [take_twin, take_tw, len_twin, at_twin, snoc_len, take_snoc, take_sn, take_ln, take_ln2, i64_in, Nat.le_add_right, bytesD_at, nameOf_eq]; simp -implicitDefEqProofs only [go_sem, Nat.reduceLT, Nat.reduceAdd, Nat.reduceEqDiff, reduceIte, Nat.reduceMul, Nat.reduceSub, reduceCtorEq, Int.reduceNe, Int.reduceEq, ne_eq, Nat.reduceLeDiff, Nat.reduceMod, Nat.reduceDiv]) | with_reducible apply And.intro | (simp -implicitDefEqProofs (disch := omega) only [take_twin, take_tw, len_twin, at_twin, snoc_len, take_snoc, take_sn, take_ln, take_ln2, i64_in, Nat.le_add_right, bytesD_at, nameOf_eq, List.length_cons, List.length_nil, Nat.reduceAdd]; done) | omega | (rw [← readS_eq]; exact Nat.le_trans (readS_len _) (by decide)) | (simp only [maxLen]; omega) | (simp only [bytesD_len, List.length_append, List.length_cons, List.length_nil]; omega))
                          all_goals
                            apply VC.at
                            · simp -implicitDefEqProofs only [go_sem, Nat.reduceLT, Nat.reduceAdd, Nat.reduceEqDiff, reduceIte, Nat.reduceMul, Nat.reduceSub, reduceCtorEq, Int.reduceNe, Int.reduceEq, ne_eq, Nat.reduceLeDiff, Nat.reduceMod, Nat.reduceDiv]; (try simp (disch := omega) only [i64_in, tmodn, tdivn]); exact rfl
                            apply VC.seq
                            rw [named_eq]
                            apply VC.draw1 ΦO_ok (by kernel_rfl) 6 (by kernel_rfl) (by kernel_rfl) [2, 16, 110]; intro L hL; dsimp only [List.take, List.drop, List.map, strip, stripG]; simp -implicitDefEqProofs only [go_sem, Nat.reduceLT, Nat.reduceAdd, Nat.reduceEqDiff, reduceIte, Nat.reduceMul, Nat.reduceSub, reduceCtorEq, Int.reduceNe, Int.reduceEq, ne_eq, Nat.reduceLeDiff, Nat.reduceMod, Nat.reduceDiv]
                            (repeat' first | (refine hL _ ?_; intro K' hK; dsimp only [List.drop, List.map, strip, stripG]; simp -implicitDefEqProofs only [go_sem, Nat.reduceLT, Nat.reduceAdd, Nat.reduceEqDiff, reduceIte, Nat.reduceMul, Nat.reduceSub, reduceCtorEq, Int.reduceNe, Int.reduceEq, ne_eq, Nat.reduceLeDiff, Nat.reduceMod, Nat.reduceDiv]; refine hK _ ?_; clear hK K' hL L) | ((first | with_reducible refine runA_id ?_ | with_reducible refine goA_id ?_); simp -implicitDefEqProofs (disch := omega) only [take_twin, take_tw, len_twin, at_twin, snoc_len, take_snoc, take_sn, take_ln, take_ln2, i64_in, Nat.le_add_right, bytesD_at, nameOf_eq]; simp -implicitDefEqProofs only [go_sem, Nat.reduceLT, Nat.reduceAdd, Nat.reduceEqDiff, reduceIte, Nat.reduceMul, Nat.reduceSub, reduceCtorEq, Int.reduceNe, Int.reduceEq, ne_eq, Nat.reduceLeDiff, Nat.reduceMod, Nat.reduceDiv]) | with_reducible apply And.intro | (simp -implicitDefEqProofs (disch := omega) only [take_twin, take_tw, len_twin, at_twin, snoc_len, take_snoc, take_sn, take_ln, take_ln2, i64_in, Nat.le_add_right, bytesD_at, nameOf_eq, List.length_cons, List.length_nil, Nat.reduceAdd]; done) | omega | (rw [← readS_eq]; exact Nat.le_trans (readS_len _) (by decide)) | (simp only [maxLen]; omega) | (simp only [bytesD_len, List.length_append, List.length_cons, List.length_nil]; omega))
                            all_goals
                              apply VC.at
                              · simp -implicitDefEqProofs only [go_sem, Nat.reduceLT, Nat.reduceAdd, Nat.reduceEqDiff, reduceIte, Nat.reduceMul, Nat.reduceSub, reduceCtorEq, Int.reduceNe, Int.reduceEq, ne_eq, Nat.reduceLeDiff, Nat.reduceMod, Nat.reduceDiv]; (try simp (disch := omega) only [i64_in, tmodn, tdivn]); exact rfl
                              first | (apply VC.condd; (focus (simp -implicitDefEqProofs only [go_sem, Nat.reduceLT, Nat.reduceAdd, Nat.reduceEqDiff, reduceIte, Nat.reduceMul, Nat.reduceSub, reduceCtorEq, Int.reduceNe, Int.reduceEq, ne_eq, Nat.reduceLeDiff, Nat.reduceMod, Nat.reduceDiv]; with_reducible exact rfl))) | (apply VC.condn; (focus (simp -implicitDefEqProofs only [go_sem, Nat.reduceLT, Nat.reduceAdd, Nat.reduceEqDiff, reduceIte, Nat.reduceMul, Nat.reduceSub, reduceCtorEq, Int.reduceNe, Int.reduceEq, ne_eq, Nat.reduceLeDiff, Nat.reduceMod, Nat.reduceDiv]; with_reducible exact rfl))) | (apply VC.condt; (focus (simp -implicitDefEqProofs only [go_sem, Nat.reduceLT, Nat.reduceAdd, Nat.reduceEqDiff, reduceIte, Nat.reduceMul, Nat.reduceSub, reduceCtorEq, Int.reduceNe, Int.reduceEq, ne_eq, Nat.reduceLeDiff, Nat.reduceMod, Nat.reduceDiv]; with_reducible exact rfl))) | (apply VC.condb; (focus (simp -implicitDefEqProofs only [go_sem, Nat.reduceLT, Nat.reduceAdd, Nat.reduceEqDiff, reduceIte, Nat.reduceMul, Nat.reduceSub, reduceCtorEq, Int.reduceNe, Int.reduceEq, ne_eq, Nat.reduceLeDiff, Nat.reduceMod, Nat.reduceDiv]; exact rfl)))
                              · intro h; try exact absurd h (by decide)
                                all_goals
                                  apply VC.regt ΦO_ok [6]; intro K' hK; dsimp only [List.take, List.drop, List.map, strip, stripG]; simp -implicitDefEqProofs only [go_sem, Nat.reduceLT, Nat.reduceAdd, Nat.reduceEqDiff, reduceIte, Nat.reduceMul, Nat.reduceSub, reduceCtorEq, Int.reduceNe, Int.reduceEq, ne_eq, Nat.reduceLeDiff, Nat.reduceMod, Nat.reduceDiv]
                                  (repeat' first | (refine hK _ ?_; clear hK K') | with_reducible apply And.intro | (simp -implicitDefEqProofs (disch := omega) only [take_twin, take_tw, len_twin, at_twin, snoc_len, take_snoc, take_sn, take_ln, take_ln2, i64_in, Nat.le_add_right, bytesD_at, nameOf_eq, List.length_cons, List.length_nil, Nat.reduceAdd]; done) | omega | (rw [← readS_eq]; exact Nat.le_trans (readS_len _) (by decide)) | (simp only [maxLen]; omega) | (simp only [bytesD_len, List.length_append, List.length_cons, List.length_nil]; omega))
                                  all_goals
                                    apply VC.at
                                    · simp -implicitDefEqProofs only [go_sem, Nat.reduceLT, Nat.reduceAdd, Nat.reduceEqDiff, reduceIte, Nat.reduceMul, Nat.reduceSub, reduceCtorEq, Int.reduceNe, Int.reduceEq, ne_eq, Nat.reduceLeDiff, Nat.reduceMod, Nat.reduceDiv]; (try simp (disch := omega) only [i64_in, tmodn, tdivn]); exact rfl
                                    apply VC.ret
                                    refine thenK_r ?_
                                    simp -implicitDefEqProofs only [go_sem, Nat.reduceLT, Nat.reduceAdd, Nat.reduceEqDiff, reduceIte, Nat.reduceMul, Nat.reduceSub, reduceCtorEq, Int.reduceNe, Int.reduceEq, ne_eq, Nat.reduceLeDiff, Nat.reduceMod, Nat.reduceDiv]
                                    all_goals (first | trivial | rfl)
                              · intro h; try exact absurd h (by decide)
                                all_goals
                                  apply VC.skip
                                  refine thenK_n ?_
                                  apply VC.seq
                                  apply VC.regt ΦO_ok [2, 16, 112, 113]; intro K' hK; dsimp only [List.take, List.drop, List.map, strip, stripG]; simp -implicitDefEqProofs only [go_sem, Nat.reduceLT, Nat.reduceAdd, Nat.reduceEqDiff, reduceIte, Nat.reduceMul, Nat.reduceSub, reduceCtorEq, Int.reduceNe, Int.reduceEq, ne_eq, Nat.reduceLeDiff, Nat.reduceMod, Nat.reduceDiv]
                                  (repeat' first | (refine hK _ ?_; clear hK K') | with_reducible apply And.intro | (simp -implicitDefEqProofs (disch := omega) only [take_twin, take_tw, len_twin, at_twin, snoc_len, take_snoc, take_sn, take_ln, take_ln2, i64_in, Nat.le_add_right, bytesD_at, nameOf_eq, List.length_cons, List.length_nil, Nat.reduceAdd]; done) | omega | (rw [← readS_eq]; exact Nat.le_trans (readS_len _) (by decide)) | (simp only [maxLen]; omega) | (simp only [bytesD_len, List.length_append, List.length_cons, List.length_nil]; omega))
                                  all_goals
                                    apply VC.at
                                    · simp -implicitDefEqProofs only [go_sem, Nat.reduceLT, Nat.reduceAdd, Nat.reduceEqDiff, reduceIte, Nat.reduceMul, Nat.reduceSub, reduceCtorEq, Int.reduceNe, Int.reduceEq, ne_eq, Nat.reduceLeDiff, Nat.reduceMod, Nat.reduceDiv]; (try simp (disch := omega) only [i64_in, tmodn, tdivn]); exact rfl
                                    apply VC.block
                                    refine VC.loopP (ι := Nat × List UInt8) [2, 16, 112] (fun i => [(113, .dat (.int .i64 (i.1 : Int)))]) (fun i => [(3, .arr 5 1 (bytesD i.2) 0)]) (fun i => i.1 ≤ i.2.length ∧ i.2.length = (namedL knownL name).length) (fun i => i.2.length - i.1) (0, namedL knownL name) ⟨Nat.zero_le _, rfl⟩ ?_ ?_
                                    · refine Ent.to rfl rfl rfl ?_ ?_
                                      · simp -implicitDefEqProofs only [go_sem, Nat.reduceLT, Nat.reduceAdd, Nat.reduceEqDiff, reduceIte, Nat.reduceMul, Nat.reduceSub, reduceCtorEq, Int.reduceNe, Int.reduceEq, ne_eq, Nat.reduceLeDiff, Nat.reduceMod, Nat.reduceDiv]; (try simp only [D.dat.injEq, Vm.Data.int.injEq, true_and, and_true, and_self, eq_self]); (try omega); (try ((repeat' apply And.intro) <;> first | omega | rfl))
                                      · (repeat' (first | exact all_nil | (refine all_cons ?_ ?_))) <;> (simp -implicitDefEqProofs only [go_sem, Nat.reduceLT, Nat.reduceAdd, Nat.reduceEqDiff, reduceIte, Nat.reduceMul, Nat.reduceSub, reduceCtorEq, Int.reduceNe, Int.reduceEq, ne_eq, Nat.reduceLeDiff, Nat.reduceMod, Nat.reduceDiv]; (try rfl); try rfl)
                                    · rintro ⟨k, x⟩ hp; (try dsimp only at hp); obtain ⟨hk, hx⟩ := hp; have hnl := namedL_len name knownL
                                      apply VC.at
                                      · simp -implicitDefEqProofs only [go_sem, Nat.reduceLT, Nat.reduceAdd, Nat.reduceEqDiff, reduceIte, Nat.reduceMul, Nat.reduceSub, reduceCtorEq, Int.reduceNe, Int.reduceEq, ne_eq, Nat.reduceLeDiff, Nat.reduceMod, Nat.reduceDiv]; (try simp (disch := omega) only [i64_in, tmodn, tdivn]); exact rfl
                                      apply VC.regt ΦO_ok [2, 16, 112, 113, 114]; intro K' hK; dsimp only [List.take, List.drop, List.map, strip, stripG]; simp -implicitDefEqProofs only [go_sem, Nat.reduceLT, Nat.reduceAdd, Nat.reduceEqDiff, reduceIte, Nat.reduceMul, Nat.reduceSub, reduceCtorEq, Int.reduceNe, Int.reduceEq, ne_eq, Nat.reduceLeDiff, Nat.reduceMod, Nat.reduceDiv]
                                      (repeat' first | (refine hK _ ?_; clear hK K') | with_reducible apply And.intro | (simp -implicitDefEqProofs (disch := omega) only [take_twin, take_tw, len_twin, at_twin, snoc_len, take_snoc, take_sn, take_ln, take_ln2, i64_in, Nat.le_add_right, bytesD_at, nameOf_eq, List.length_cons, List.length_nil, Nat.reduceAdd]; done) | omega | (rw [← readS_eq]; exact Nat.le_trans (readS_len _) (by decide)) | (simp only [maxLen]; omega) | (simp only [bytesD_len, List.length_append, List.length_cons, List.length_nil]; omega))
                                      all_goals
                                        apply VC.at
                                        · simp -implicitDefEqProofs only [go_sem, Nat.reduceLT, Nat.reduceAdd, Nat.reduceEqDiff, reduceIte, Nat.reduceMul, Nat.reduceSub, reduceCtorEq, Int.reduceNe, Int.reduceEq, ne_eq, Nat.reduceLeDiff, Nat.reduceMod, Nat.reduceDiv]; (try simp (disch := omega) only [i64_in, tmodn, tdivn]); exact rfl
                                        apply VC.seq
                                        first | (apply VC.condd; (focus (simp -implicitDefEqProofs only [go_sem, Nat.reduceLT, Nat.reduceAdd, Nat.reduceEqDiff, reduceIte, Nat.reduceMul, Nat.reduceSub, reduceCtorEq, Int.reduceNe, Int.reduceEq, ne_eq, Nat.reduceLeDiff, Nat.reduceMod, Nat.reduceDiv]; with_reducible exact rfl))) | (apply VC.condn; (focus (simp -implicitDefEqProofs only [go_sem, Nat.reduceLT, Nat.reduceAdd, Nat.reduceEqDiff, reduceIte, Nat.reduceMul, Nat.reduceSub, reduceCtorEq, Int.reduceNe, Int.reduceEq, ne_eq, Nat.reduceLeDiff, Nat.reduceMod, Nat.reduceDiv]; with_reducible exact rfl))) | (apply VC.condt; (focus (simp -implicitDefEqProofs only [go_sem, Nat.reduceLT, Nat.reduceAdd, Nat.reduceEqDiff, reduceIte, Nat.reduceMul, Nat.reduceSub, reduceCtorEq, Int.reduceNe, Int.reduceEq, ne_eq, Nat.reduceLeDiff, Nat.reduceMod, Nat.reduceDiv]; with_reducible exact rfl))) | (apply VC.condb; (focus (simp -implicitDefEqProofs only [go_sem, Nat.reduceLT, Nat.reduceAdd, Nat.reduceEqDiff, reduceIte, Nat.reduceMul, Nat.reduceSub, reduceCtorEq, Int.reduceNe, Int.reduceEq, ne_eq, Nat.reduceLeDiff, Nat.reduceMod, Nat.reduceDiv]; exact rfl)))
                                        · intro h; try exact absurd h (by decide)
                                          all_goals
                                            apply VC.skip
                                            refine thenK_n ?_
                                            apply VC.seq
                                            apply VC.block
                                            apply VC.regt ΦO_ok [2, 16, 17, 112, 113]; intro K' hK; dsimp only [List.take, List.drop, List.map, strip, stripG]; simp -implicitDefEqProofs only [go_sem, Nat.reduceLT, Nat.reduceAdd, Nat.reduceEqDiff, reduceIte, Nat.reduceMul, Nat.reduceSub, reduceCtorEq, Int.reduceNe, Int.reduceEq, ne_eq, Nat.reduceLeDiff, Nat.reduceMod, Nat.reduceDiv]
                                            (repeat' first | (refine hK _ ?_; clear hK K') | with_reducible apply And.intro | (simp -implicitDefEqProofs (disch := omega) only [take_twin, take_tw, len_twin, at_twin, snoc_len, take_snoc, take_sn, take_ln, take_ln2, i64_in, Nat.le_add_right, bytesD_at, nameOf_eq, List.length_cons, List.length_nil, Nat.reduceAdd]; done) | omega | (rw [← readS_eq]; exact Nat.le_trans (readS_len _) (by decide)) | (simp only [maxLen]; omega) | (simp only [bytesD_len, List.length_append, List.length_cons, List.length_nil]; omega))
                                            all_goals
                                              apply VC.at
                                              · simp -implicitDefEqProofs only [go_sem, Nat.reduceLT, Nat.reduceAdd, Nat.reduceEqDiff, reduceIte, Nat.reduceMul, Nat.reduceSub, reduceCtorEq, Int.reduceNe, Int.reduceEq, ne_eq, Nat.reduceLeDiff, Nat.reduceMod, Nat.reduceDiv]; (try simp (disch := omega) only [i64_in, tmodn, tdivn]); exact rfl
                                              apply VC.regLast ΦO_ok; intro K' hK; dsimp only [List.take, List.drop, List.map, strip, stripG]; simp -implicitDefEqProofs only [go_sem, Nat.reduceLT, Nat.reduceAdd, Nat.reduceEqDiff, reduceIte, Nat.reduceMul, Nat.reduceSub, reduceCtorEq, Int.reduceNe, Int.reduceEq, ne_eq, Nat.reduceLeDiff, Nat.reduceMod, Nat.reduceDiv]
                                              (repeat' first | (refine hK _ ?_; clear hK K') | ((first | with_reducible refine runA_id ?_ | with_reducible refine goA_id ?_); simp -implicitDefEqProofs (disch := omega) only [take_twin, take_tw, len_twin, at_twin, snoc_len, take_snoc, take_sn, take_ln, take_ln2, i64_in, Nat.le_add_right, bytesD_at, nameOf_eq]; simp -implicitDefEqProofs only [go_sem, Nat.reduceLT, Nat.reduceAdd, Nat.reduceEqDiff, reduceIte, Nat.reduceMul, Nat.reduceSub, reduceCtorEq, Int.reduceNe, Int.reduceEq, ne_eq, Nat.reduceLeDiff, Nat.reduceMod, Nat.reduceDiv]) | with_reducible apply And.intro | (simp -implicitDefEqProofs (disch := omega) only [take_twin, take_tw, len_twin, at_twin, snoc_len, take_snoc, take_sn, take_ln, take_ln2, i64_in, Nat.le_add_right, bytesD_at, nameOf_eq, List.length_cons, List.length_nil, Nat.reduceAdd]; done) | omega | (rw [← readS_eq]; exact Nat.le_trans (readS_len _) (by decide)) | (simp only [maxLen]; omega) | (simp only [bytesD_len, List.length_append, List.length_cons, List.length_nil]; omega))
                                              all_goals
                                                refine blockK_n ?_
                                                refine thenK_n ?_
                                                apply VC.regLast ΦO_ok; intro K' hK; dsimp only [List.take, List.drop, List.map, strip, stripG]; simp -implicitDefEqProofs only [go_sem, Nat.reduceLT, Nat.reduceAdd, Nat.reduceEqDiff, reduceIte, Nat.reduceMul, Nat.reduceSub, reduceCtorEq, Int.reduceNe, Int.reduceEq, ne_eq, Nat.reduceLeDiff, Nat.reduceMod, Nat.reduceDiv]
                                                (repeat' first | (refine hK _ ?_; clear hK K') | with_reducible apply And.intro | (simp -implicitDefEqProofs (disch := omega) only [take_twin, take_tw, len_twin, at_twin, snoc_len, take_snoc, take_sn, take_ln, take_ln2, i64_in, Nat.le_add_right, bytesD_at, nameOf_eq, List.length_cons, List.length_nil, Nat.reduceAdd]; done) | omega | (rw [← readS_eq]; exact Nat.le_trans (readS_len _) (by decide)) | (simp only [maxLen]; omega) | (simp only [bytesD_len, List.length_append, List.length_cons, List.length_nil]; omega))
                                                all_goals
                                                  refine thenK_n ?_
                                                  refine ⟨(k + 1, x.set k (x.getD k 0 + 1)), ⟨by rw [List.length_set]; omega, by rw [List.length_set]; exact hx⟩, Ent.to rfl rfl rfl ?_ ?_, by dsimp only; rw [List.length_set]; omega⟩
                                                  · simp -implicitDefEqProofs only [go_sem, Nat.reduceLT, Nat.reduceAdd, Nat.reduceEqDiff, reduceIte, Nat.reduceMul, Nat.reduceSub, reduceCtorEq, Int.reduceNe, Int.reduceEq, ne_eq, Nat.reduceLeDiff, Nat.reduceMod, Nat.reduceDiv]; (try simp (disch := omega) only [i64_in, tmodn, tdivn]); (try simp only [D.dat.injEq, Vm.Data.int.injEq, true_and, and_true, and_self, eq_self]); (try omega); (try ((repeat' apply And.intro) <;> first | omega | rfl))
                                                  · (repeat' (first | exact all_nil | (refine all_cons ?_ ?_))) <;> (simp -implicitDefEqProofs only [go_sem, Nat.reduceLT, Nat.reduceAdd, Nat.reduceEqDiff, reduceIte, Nat.reduceMul, Nat.reduceSub, reduceCtorEq, Int.reduceNe, Int.reduceEq, ne_eq, Nat.reduceLeDiff, Nat.reduceMod, Nat.reduceDiv]; (try rfl); try (rw [bytesD_at (by omega), ← set_byte x k (by omega)]; rfl))
                                        · intro h; try exact absurd h (by decide)
                                          all_goals
                                            apply VC.exit
                                            refine thenK_e ?_
                                            refine thenK_e ?_
                                            refine blockK_e ?_
                                            refine thenK_n ?_
                                            apply VC.regt ΦO_ok [2, 18]; intro K' hK; dsimp only [List.take, List.drop, List.map, strip, stripG]; simp -implicitDefEqProofs only [go_sem, Nat.reduceLT, Nat.reduceAdd, Nat.reduceEqDiff, reduceIte, Nat.reduceMul, Nat.reduceSub, reduceCtorEq, Int.reduceNe, Int.reduceEq, ne_eq, Nat.reduceLeDiff, Nat.reduceMod, Nat.reduceDiv]
                                            (repeat' first | fail | ((first | with_reducible refine runA_id ?_ | with_reducible refine goA_id ?_); simp -implicitDefEqProofs (disch := omega) only [take_twin, take_tw, len_twin, at_twin, snoc_len, take_snoc, take_sn, take_ln, take_ln2, i64_in, Nat.le_add_right, bytesD_at, nameOf_eq]; simp -implicitDefEqProofs only [go_sem, Nat.reduceLT, Nat.reduceAdd, Nat.reduceEqDiff, reduceIte, Nat.reduceMul, Nat.reduceSub, reduceCtorEq, Int.reduceNe, Int.reduceEq, ne_eq, Nat.reduceLeDiff, Nat.reduceMod, Nat.reduceDiv]) | with_reducible apply And.intro | (simp -implicitDefEqProofs (disch := omega) only [take_twin, take_tw, len_twin, at_twin, snoc_len, take_snoc, take_sn, take_ln, take_ln2, i64_in, Nat.le_add_right, bytesD_at, nameOf_eq, List.length_cons, List.length_nil, Nat.reduceAdd]; done) | omega | (rw [← readS_eq]; exact Nat.le_trans (readS_len _) (by decide)) | (simp only [maxLen]; omega) | (simp only [bytesD_len, List.length_append, List.length_cons, List.length_nil]; omega))
                                            refine VCcall.own named_own 4 (by simp -implicitDefEqProofs only [go_sem, Nat.reduceLT, Nat.reduceAdd, Nat.reduceEqDiff, reduceIte, Nat.reduceMul, Nat.reduceSub, reduceCtorEq, Int.reduceNe, Int.reduceEq, ne_eq, Nat.reduceLeDiff, Nat.reduceMod, Nat.reduceDiv]; exact rfl) ?_ ?_ ?_
                                            · simp -implicitDefEqProofs only [go_sem, Nat.reduceLT, Nat.reduceAdd, Nat.reduceEqDiff, reduceIte, Nat.reduceMul, Nat.reduceSub, reduceCtorEq, Int.reduceNe, Int.reduceEq, ne_eq, Nat.reduceLeDiff, Nat.reduceMod, Nat.reduceDiv]; first | done | omega
                                            · simp -implicitDefEqProofs only [go_sem, Nat.reduceLT, Nat.reduceAdd, Nat.reduceEqDiff, reduceIte, Nat.reduceMul, Nat.reduceSub, reduceCtorEq, Int.reduceNe, Int.reduceEq, ne_eq, Nat.reduceLeDiff, Nat.reduceMod, Nat.reduceDiv]; first | done | decide
                                            simp -implicitDefEqProofs only [go_sem, Nat.reduceLT, Nat.reduceAdd, Nat.reduceEqDiff, reduceIte, Nat.reduceMul, Nat.reduceSub, reduceCtorEq, Int.reduceNe, Int.reduceEq, ne_eq, Nat.reduceLeDiff, Nat.reduceMod, Nat.reduceDiv]
                                            (repeat' first | (refine hK _ ?_; clear hK K') | ((first | with_reducible refine runA_id ?_ | with_reducible refine goA_id ?_); simp -implicitDefEqProofs (disch := omega) only [take_twin, take_tw, len_twin, at_twin, snoc_len, take_snoc, take_sn, take_ln, take_ln2, i64_in, Nat.le_add_right, bytesD_at, nameOf_eq]; simp -implicitDefEqProofs only [go_sem, Nat.reduceLT, Nat.reduceAdd, Nat.reduceEqDiff, reduceIte, Nat.reduceMul, Nat.reduceSub, reduceCtorEq, Int.reduceNe, Int.reduceEq, ne_eq, Nat.reduceLeDiff, Nat.reduceMod, Nat.reduceDiv]) | with_reducible apply And.intro | (simp -implicitDefEqProofs (disch := omega) only [take_twin, take_tw, len_twin, at_twin, snoc_len, take_snoc, take_sn, take_ln, take_ln2, i64_in, Nat.le_add_right, bytesD_at, nameOf_eq, List.length_cons, List.length_nil, Nat.reduceAdd]; done) | omega | (rw [← readS_eq]; exact Nat.le_trans (readS_len _) (by decide)) | (simp only [maxLen]; omega) | (simp only [bytesD_len, List.length_append, List.length_cons, List.length_nil]; omega))
                                            all_goals
                                              apply VC.at
                                              · simp -implicitDefEqProofs only [go_sem, Nat.reduceLT, Nat.reduceAdd, Nat.reduceEqDiff, reduceIte, Nat.reduceMul, Nat.reduceSub, reduceCtorEq, Int.reduceNe, Int.reduceEq, ne_eq, Nat.reduceLeDiff, Nat.reduceMod, Nat.reduceDiv]; (try simp (disch := omega) only [i64_in, tmodn, tdivn]); exact rfl
                                              rw [named_eq]
                                              apply VC.draw1 ΦO_ok (by kernel_rfl) 7 (by kernel_rfl) (by kernel_rfl) [6]; intro L hL; dsimp only [List.take, List.drop, List.map, strip, stripG]; simp -implicitDefEqProofs only [go_sem, Nat.reduceLT, Nat.reduceAdd, Nat.reduceEqDiff, reduceIte, Nat.reduceMul, Nat.reduceSub, reduceCtorEq, Int.reduceNe, Int.reduceEq, ne_eq, Nat.reduceLeDiff, Nat.reduceMod, Nat.reduceDiv]
                                              (repeat' first | (refine hL _ ?_; intro K' hK; dsimp only [List.drop, List.map, strip, stripG]; simp -implicitDefEqProofs only [go_sem, Nat.reduceLT, Nat.reduceAdd, Nat.reduceEqDiff, reduceIte, Nat.reduceMul, Nat.reduceSub, reduceCtorEq, Int.reduceNe, Int.reduceEq, ne_eq, Nat.reduceLeDiff, Nat.reduceMod, Nat.reduceDiv]; refine hK _ ?_; clear hK K' hL L) | ((first | with_reducible refine runA_id ?_ | with_reducible refine goA_id ?_); simp -implicitDefEqProofs (disch := omega) only [take_twin, take_tw, len_twin, at_twin, snoc_len, take_snoc, take_sn, take_ln, take_ln2, i64_in, Nat.le_add_right, bytesD_at, nameOf_eq]; simp -implicitDefEqProofs only [go_sem, Nat.reduceLT, Nat.reduceAdd, Nat.reduceEqDiff, reduceIte, Nat.reduceMul, Nat.reduceSub, reduceCtorEq, Int.reduceNe, Int.reduceEq, ne_eq, Nat.reduceLeDiff, Nat.reduceMod, Nat.reduceDiv]) | with_reducible apply And.intro | (simp -implicitDefEqProofs (disch := omega) only [take_twin, take_tw, len_twin, at_twin, snoc_len, take_snoc, take_sn, take_ln, take_ln2, i64_in, Nat.le_add_right, bytesD_at, nameOf_eq, List.length_cons, List.length_nil, Nat.reduceAdd]; done) | omega | (rw [← readS_eq]; exact Nat.le_trans (readS_len _) (by decide)) | (simp only [maxLen]; omega) | (simp only [bytesD_len, List.length_append, List.length_cons, List.length_nil]; omega))
                                              all_goals
                                                apply VC.at
                                                · simp -implicitDefEqProofs only [go_sem, Nat.reduceLT, Nat.reduceAdd, Nat.reduceEqDiff, reduceIte, Nat.reduceMul, Nat.reduceSub, reduceCtorEq, Int.reduceNe, Int.reduceEq, ne_eq, Nat.reduceLeDiff, Nat.reduceMod, Nat.reduceDiv]; (try simp (disch := omega) only [i64_in, tmodn, tdivn]); exact rfl
                                                apply VC.ret
                                                simp -implicitDefEqProofs only [go_sem, Nat.reduceLT, Nat.reduceAdd, Nat.reduceEqDiff, reduceIte, Nat.reduceMul, Nat.reduceSub, reduceCtorEq, Int.reduceNe, Int.reduceEq, ne_eq, Nat.reduceLeDiff, Nat.reduceMod, Nat.reduceDiv]
                                                all_goals (first | trivial | rfl)
end Go.Proofs.YtgfadocohpinmaaDoor.Oa

