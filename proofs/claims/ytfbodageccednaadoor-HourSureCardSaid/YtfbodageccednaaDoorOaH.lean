/- Texts of times, apart from any program. No condition. -/
import Derived.Test.YtfbodageccednaaDoorOaG
import Derived.Test.YtfbodageccednaaDoorOaF
set_option linter.unusedVariables false
set_option linter.unusedSimpArgs false
namespace Go.Proofs.YtfbodageccednaaDoor.Oa
open Go Go.RowKit Go.Proofs.YtfbodageccednaaDoor.Vm Go.IntWalk
/-! digits -/
theorem dgts_app : ∀ (f n : Nat) (s : List UInt8), dgts f n s = dgts f n [] ++ s
  | 0, n, s => rfl
  | f + 1, n, s => by
    rw [dgts, dgts, dgts_app f _ (_ :: s), dgts_app f _ [_]]
    simp
theorem dgts_succ (f n : Nat) : dgts (f + 1) n [] = dgts f (n / 10) [] ++ [UInt8.ofNat (48 + n % 10)] := by
  rw [dgts, dgts_app]
theorem rep_snoc : ∀ n, Lib.repeatL [48] (n + 1) = Lib.repeatL [48] n ++ [48]
  | 0 => rfl
  | n + 1 => by
    exact (congrArg (fun x => ([48] : List UInt8) ++ x) (rep_snoc n)).trans (List.append_assoc _ _ _).symm
theorem digitsP_eq : ∀ (m n : Nat), n < 10 ^ (m + 1) → digitsP n (m + 1) = dgts (m + 1) n []
  | 0, n, h => by
    have h10 : n < 10 := by simpa using h
    unfold digitsP
    rw [Lib.decDigits_one h10, dgts_succ, Nat.mod_eq_of_lt h10]
    rfl
  | m + 1, n, h => by
    rw [dgts_succ]
    by_cases h10 : n < 10
    · have e := digitsP_eq m 0 (Nat.pow_pos (by decide))
      rw [show n / 10 = 0 by omega, ← e]
      unfold digitsP
      rw [Lib.decDigits_one h10, Lib.decDigits_one (show 0 < 10 by decide), Nat.mod_eq_of_lt h10]
      rw [show (m + 1 + 1 - [UInt8.ofNat (48 + n)].length) = m + 1 from by simp, show (m + 1 - [UInt8.ofNat (48 + 0)].length) = m from by simp, rep_snoc]
      rfl
    · have e := digitsP_eq m (n / 10) (by rw [Nat.pow_succ] at h; omega)
      rw [← e]
      unfold digitsP
      rw [Lib.decDigits.eq_def n, dif_neg h10, List.length_append, ← List.append_assoc]
      congr 2
      simp
theorem digitsI_eq {n q : Int} (h0 : 0 ≤ n) (hq : 1 ≤ q) (h : n.toNat < 10 ^ q.toNat) : digitsI n q = rdg n q := by
  unfold digitsI rdg
  obtain ⟨m, em⟩ : ∃ m, q.toNat = m + 1 := ⟨q.toNat - 1, by omega⟩
  rw [em] at h ⊢
  exact digitsP_eq m _ h
theorem dgts_split : ∀ (b a n : Nat), dgts (a + b) n [] = dgts a (n / 10 ^ b) [] ++ dgts b n []
  | 0, a, n => by simp [dgts]
  | b + 1, a, n => by
    rw [← Nat.add_assoc, dgts_succ, dgts_split b a, dgts_succ b n, Nat.div_div_eq_div_mul, Nat.pow_succ, Nat.mul_comm 10 (10 ^ b), List.append_assoc]
theorem dgts_mod : ∀ (b n : Nat), dgts b (n % 10 ^ b) [] = dgts b n []
  | 0, n => rfl
  | b + 1, n => by
    have h1 : n % 10 ^ (b + 1) / 10 = n / 10 % 10 ^ b := by
      rw [Nat.pow_succ, Nat.mul_comm, Nat.mod_mul_right_div_self]
    have h2 : n % 10 ^ (b + 1) % 10 = n % 10 := Nat.mod_mod_of_dvd _ ⟨10 ^ b, by rw [Nat.pow_succ, Nat.mul_comm]⟩
    rw [dgts_succ, dgts_succ, h1, h2, dgts_mod b]
theorem dgts_join (p q a b : Nat) (h : b < 10 ^ q) : dgts p a [] ++ dgts q b [] = dgts (p + q) (a * 10 ^ q + b) [] := by
  have hp : 0 < 10 ^ q := Nat.pow_pos (by decide)
  rw [dgts_split q p]
  have h1 : (a * 10 ^ q + b) / 10 ^ q = a := by
    rw [Nat.add_comm, Nat.add_mul_div_right _ _ hp, Nat.div_eq_of_lt h]; omega
  have h2 : (a * 10 ^ q + b) % 10 ^ q = b := by
    rw [Nat.add_comm, Nat.add_mul_mod_self_right]; exact Nat.mod_eq_of_lt h
  rw [h1, ← dgts_mod q (a * 10 ^ q + b), h2]
theorem rdg_join {a b : Int} (p q : Nat) (ha : 0 ≤ a) (hb : 0 ≤ b) (h : b < ((10 ^ q : Nat) : Int)) : rdg a p ++ rdg b q = rdg (a * ((10 ^ q : Nat) : Int) + b) (p + q : Nat) := by
  obtain ⟨x, rfl⟩ := Int.eq_ofNat_of_zero_le ha
  obtain ⟨y, rfl⟩ := Int.eq_ofNat_of_zero_le hb
  unfold rdg
  have e : (((x : Int) * ((10 ^ q : Nat) : Int) + (y : Int)).toNat) = x * 10 ^ q + y := by
    rw [← Int.natCast_mul, ← Int.natCast_add, Int.toNat_natCast]
  rw [e, Int.toNat_natCast, Int.toNat_natCast, Int.toNat_natCast, Int.toNat_natCast, Int.toNat_natCast]
  exact dgts_join p q x y (by omega)
theorem byte_48 (d : Nat) (h : d < 10) : (UInt8.ofNat (48 + d)).toNat = 48 + d := by
  rw [UInt8.toNat_ofNat']; omega
theorem numA_dgts : ∀ (f n acc : Nat) (r : List UInt8), numA acc (dgts f n [] ++ r) = numA (acc * 10 ^ f + n % 10 ^ f) r
  | 0, n, acc, r => by simp [dgts, Nat.mod_one]
  | f + 1, n, acc, r => by
    have hd := Nat.mod_lt n (show 0 < 10 by decide)
    rw [dgts_succ, List.append_assoc, numA_dgts f, List.cons_append, List.nil_append, numA, byte_48 _ hd, if_neg (by omega)]
    congr 1
    have h1 : n % 10 ^ (f + 1) = n % 10 + 10 * (n / 10 % 10 ^ f) := by
      rw [Nat.pow_succ, Nat.mul_comm (10 ^ f) 10, Nat.mod_mul]
    rw [h1, Nat.pow_succ, ← Nat.mul_assoc, Nat.mul_add]
    generalize 10 ^ f = P
    generalize acc * P = Q
    omega
theorem numR_rdg {n : Int} (q : Nat) (h0 : 0 ≤ n) (h : n < ((10 ^ q : Nat) : Int)) : numR (rdg n q) = n := by
  obtain ⟨x, rfl⟩ := Int.eq_ofNat_of_zero_le h0
  unfold numR rdg
  have := numA_dgts q x 0 []
  rw [List.append_nil, Nat.zero_mul, Nat.zero_add, numA, Nat.mod_eq_of_lt (by omega)] at this
  simpa using this
theorem numA_ge : ∀ (w : List UInt8) (a v : Nat), numA a w = v → a ≤ v
  | [], a, v, h => by rw [numA] at h; omega
  | c :: w, a, v, h => by
    rw [numA] at h
    split at h
    · omega
    · have := numA_ge w _ v h; omega
theorem dgts_num : ∀ (w : List UInt8) (a v : Nat), numA a w = v → dgts w.length v [] = w ∧ v / 10 ^ w.length = a
  | [], a, v, h => by rw [numA] at h; exact ⟨rfl, by simp; omega⟩
  | c :: w, a, v, h => by
    rw [numA] at h
    split at h
    · omega
    · rename_i hc
      have hc8 := c.toNat_lt
      obtain ⟨h1, h2⟩ := dgts_num w _ v h
      rw [List.length_cons, Nat.add_comm w.length 1, dgts_split w.length 1 v, h1, h2]
      constructor
      · have e : 48 + (10 * a + (c.toNat - 48)) % 10 = c.toNat := by omega
        rw [dgts_succ, e]
        simp [dgts]
      · rw [Nat.add_comm, Nat.pow_succ, ← Nat.div_div_eq_div_mul, h2]; omega
theorem rdg_numR {w : List UInt8} (h : 0 ≤ numR w) : rdg (numR w) w.length = w ∧ numR w < ((10 ^ w.length : Nat) : Int) := by
  obtain ⟨v, hv⟩ := Int.eq_ofNat_of_zero_le h
  obtain ⟨h1, h2⟩ := dgts_num w 0 v hv
  have hl := (numA_le w 0).2
  unfold rdg
  rw [hv]
  refine ⟨by simpa using h1, ?_⟩
  have : numA 0 w = v := hv
  rw [this] at hl
  simpa using hl
theorem puM_num : ∀ (w : List UInt8) (a v : Nat), numA a w = v → v ≤ 2147483647 → Lib.parseUintM 2147483647 a w = .ok v
  | [], a, v, h, hv => by
    rw [numA] at h
    rw [Lib.parseUintM]
    congr 1; omega
  | c :: w, a, v, h, hv => by
    rw [numA] at h
    split at h
    · omega
    · have hg := numA_ge w _ v h
      rw [Lib.parseUintM, if_pos (by omega), if_neg (by omega), if_neg (by omega), Nat.mul_comm a 10]
      exact puM_num w _ v h hv
theorem numI_rdg {n : Int} (q : Nat) (h0 : 0 ≤ n) (h : n < ((10 ^ (q + 1) : Nat) : Int)) (h' : n ≤ 2147483647) : numI (rdg n (q + 1 : Nat)) = n := by
  obtain ⟨x, rfl⟩ := Int.eq_ofNat_of_zero_le h0
  have h1 := numR_rdg (q + 1) h0 h
  have hne : rdg (x : Int) (q + 1 : Nat) ≠ [] := fun e => by
    have := rdg_len (x : Int) (q + 1 : Nat)
    rw [e] at this; simp at this
  have : puN (rdg (x : Int) (q + 1 : Nat)) = .ok x := by
    unfold puN
    rw [if_neg hne]
    exact puM_num _ 0 x h1 (by omega)
  exact numI_ok this
end Go.Proofs.YtfbodageccednaaDoor.Oa
namespace Go.Proofs.YtfbodageccednaaDoor.Oa
open Go Go.RowKit Go.Proofs.YtfbodageccednaaDoor.Vm Go.IntWalk
/-! a time's parts -/
structure Parts (t : Int) where
  y : Int
  m : Int
  d : Int
  h : Int
  i : Int
  s : Int
  x : Int
/-- What a time's parts are held to. -/
structure PartsOk (t y m d h i s x : Int) : Prop where
  ey : Cal.atY (t / 86400000) = y
  em : Cal.atM (t / 86400000) = m
  ed : Cal.atD (t / 86400000) = d
  eh : t % 86400000 / 3600000 = h
  ei : t % 86400000 / 60000 % 60 = i
  es : t % 86400000 / 1000 % 60 = s
  ex : t % 86400000 % 1000 = x
  num : Cal.num y m d = t / 86400000
  hy : 1970 ≤ y ∧ y ≤ 9999
  hm : 1 ≤ m ∧ m ≤ 12
  hd : 1 ≤ d ∧ d ≤ Cal.long y m
  hd31 : d ≤ 31
  hh : 0 ≤ h ∧ h ≤ 23
  hi : 0 ≤ i ∧ i ≤ 59
  hs : 0 ≤ s ∧ s ≤ 59
  hx : 0 ≤ x ∧ x ≤ 999
  sum : t = Cal.num y m d * 86400000 + (3600 * h + 60 * i + s) * 1000 + x
theorem parts {t : Int} (h : tIn t = true) : ∃ y m d h i s x, PartsOk t y m d h i s x := by
  obtain ⟨h0, h1⟩ := tIn_of h
  obtain ⟨c1, c2, c3, c4, c5⟩ := Cal.at_ok (t / 86400000) (by omega) (by omega)
  have cy := at_year (t / 86400000) (by omega) (by omega)
  have cl := long_le (Cal.atY (t / 86400000)) (Cal.atM (t / 86400000))
  exact ⟨_, _, _, _, _, _, _, ⟨rfl, rfl, rfl, rfl, rfl, rfl, rfl, c1, cy, ⟨c2, c3⟩, ⟨c4, c5⟩, by omega, by omega, by omega, by omega, by omega, by rw [c1]; omega⟩⟩
/-- A time out of its parts. -/
theorem unparts {y m d h i s x : Int} (hy : 1970 ≤ y ∧ y ≤ 9999) (hm : 1 ≤ m ∧ m ≤ 12) (hd : 1 ≤ d ∧ d ≤ Cal.long y m) (hh : 0 ≤ h ∧ h ≤ 23) (hi : 0 ≤ i ∧ i ≤ 59) (hs : 0 ≤ s ∧ s ≤ 59) (hx : 0 ≤ x ∧ x ≤ 999) :
    tIn (Cal.num y m d * 86400000 + (3600 * h + 60 * i + s) * 1000 + x) = true ∧ PartsOk (Cal.num y m d * 86400000 + (3600 * h + 60 * i + s) * 1000 + x) y m d h i s x := by
  have r := Cal.num_range y m d hy.1 hy.2 hm.1 hm.2 hd.1 hd.2
  obtain ⟨e1, e2, e3⟩ := Cal.at_num y m d hy.1 hy.2 hm.1 hm.2 hd.1 hd.2
  have hl := long_le y m
  have e : (Cal.num y m d * 86400000 + (3600 * h + 60 * i + s) * 1000 + x) / 86400000 = Cal.num y m d := by omega
  refine ⟨tIn_yes (by omega) (by omega), ?_⟩
  generalize hn : Cal.num y m d = n at *
  exact ⟨by rw [e]; exact e1, by rw [e]; exact e2, by rw [e]; exact e3, by omega, by omega, by omega, by omega, by omega, hy, hm, hd, by omega, hh, hi, hs, hx, by omega⟩
theorem hms_a (t : Int) : t % 86400000 / 1000 / 3600 = t % 86400000 / 3600000 := by omega
theorem hms_b (t : Int) : t % 86400000 / 1000 / 60 % 60 = t % 86400000 / 60000 % 60 := by omega
theorem tp4 : ((10 ^ 4 : Nat) : Int) = 10000 := by decide
theorem tp2 : ((10 ^ 2 : Nat) : Int) = 100 := by decide
theorem tp3 : ((10 ^ 3 : Nat) : Int) = 1000 := by decide
theorem tp1 : ((10 ^ 1 : Nat) : Int) = 10 := by decide
theorem tp14 : ((10 ^ 14 : Nat) : Int) = 100000000000000 := by decide
theorem dig4 {n : Int} (h0 : 0 ≤ n) (h : n < 10000) : digitsI n 4 = rdg n 4 := digitsI_eq h0 (by decide) (show n.toNat < 10000 by omega)
theorem dig2 {n : Int} (h0 : 0 ≤ n) (h : n < 100) : digitsI n 2 = rdg n 2 := digitsI_eq h0 (by decide) (show n.toNat < 100 by omega)
theorem dig3 {n : Int} (h0 : 0 ≤ n) (h : n < 1000) : digitsI n 3 = rdg n 3 := digitsI_eq h0 (by decide) (show n.toNat < 1000 by omega)
/-- The text of a time's whole seconds. -/
def headN (y m d h i s : Int) : List UInt8 := rdg y 4 ++ rdg m 2 ++ rdg d 2 ++ rdg h 2 ++ rdg i 2 ++ rdg s 2
def numN (y m d h i s : Int) : Int := ((((y * 100 + m) * 100 + d) * 100 + h) * 100 + i) * 100 + s
theorem rgenS_parts {t y m d h i s x : Int} (p : PartsOk t y m d h i s x) : rgenS t = headN y m d h i s ++ fracS x ++ [90] := by
  unfold rgenS rheadS headN
  rw [p.ey, p.em, p.ed, p.eh, p.ei, p.es, p.ex]
theorem headN_eq {t y m d h i s x : Int} (p : PartsOk t y m d h i s x) : headN y m d h i s = rdg (numN y m d h i s) 14 := by
  have ⟨y0, y1⟩ := p.hy; have ⟨m0, m1⟩ := p.hm; have ⟨d0, _⟩ := p.hd; have d1 := p.hd31; have ⟨h0, h1⟩ := p.hh; have ⟨i0, i1⟩ := p.hi; have ⟨s0, s1⟩ := p.hs
  unfold headN numN
  rw [show (4 : Int) = (4 : Nat) from rfl, show (2 : Int) = (2 : Nat) from rfl]
  rw [rdg_join 4 2 (by omega) (by omega) (by rw [tp2]; omega), tp2]
  rw [rdg_join 6 2 (by omega) (by omega) (by rw [tp2]; omega), tp2]
  rw [rdg_join 8 2 (by omega) (by omega) (by rw [tp2]; omega), tp2]
  rw [rdg_join 10 2 (by omega) (by omega) (by rw [tp2]; omega), tp2]
  rw [rdg_join 12 2 (by omega) (by omega) (by rw [tp2]; omega), tp2]
  rfl
theorem numN_rng {t y m d h i s x : Int} (p : PartsOk t y m d h i s x) : 0 ≤ numN y m d h i s ∧ numN y m d h i s < 100000000000000 := by
  have ⟨y0, y1⟩ := p.hy; have ⟨m0, m1⟩ := p.hm; have ⟨d0, _⟩ := p.hd; have d1 := p.hd31; have ⟨h0, h1⟩ := p.hh; have ⟨i0, i1⟩ := p.hi; have ⟨s0, s1⟩ := p.hs
  unfold numN; omega
theorem trim_facts : ((List.range 1000).all fun k => decide (0 < k → 46 :: Lib.trimRightB (rdg (k : Int) 3) 48 = fracS (k : Int))) = true := by decide +kernel
theorem trim_frac {x : Int} (h0 : 0 < x) (h : x ≤ 999) : 46 :: Lib.trimRightB (rdg x 3) 48 = fracS x := by
  obtain ⟨k, rfl⟩ := Int.eq_ofNat_of_zero_le (show 0 ≤ x by omega)
  have := List.all_eq_true.1 trim_facts k (List.mem_range.2 (by omega))
  exact (of_decide_eq_true this) (by omega)
theorem genS_eq {t : Int} (h : tIn t = true) : genS t = rgenS t := by
  obtain ⟨y, m, d, hh, i, s, x, p⟩ := parts h
  have ⟨y0, y1⟩ := p.hy; have ⟨m0, m1⟩ := p.hm; have ⟨d0, _⟩ := p.hd; have d1 := p.hd31; have ⟨h0, h1⟩ := p.hh; have ⟨i0, i1⟩ := p.hi; have ⟨s0, s1⟩ := p.hs; have ⟨x0, x1⟩ := p.hx
  have e : headS t = headN y m d hh i s := by
    unfold headS headN
    rw [hms_a, hms_b, p.ey, p.em, p.ed, p.eh, p.ei, p.es, dig4 (by omega) (by omega), dig2 (by omega) (by omega), dig2 (by omega) (by omega), dig2 (by omega) (by omega), dig2 (by omega) (by omega), dig2 (by omega) (by omega)]
    simp only [List.append_assoc]
  rw [rgenS_parts p]
  unfold genS
  rw [p.ex, e]
  split
  · rename_i hx
    rw [dig3 (by omega) (by omega), ← trim_frac hx (by omega)]
    all_goals simp only [List.append_assoc]
  · rw [frac0 (by omega), List.append_nil]
theorem genO_eq (t : Int) : genO t = rgenO t := by
  unfold genO rgenO
  cases h : tIn t with
  | true => rw [if_pos rfl, if_pos rfl, genS_eq h]
  | false => rfl
theorem headN_len (y m d h i s : Int) : (headN y m d h i s).length = 14 := by
  unfold headN
  simp only [List.length_append, rdg_l4, rdg_l2]
/-- The lengths that a fraction has. -/
theorem frac_cases {x : Int} (h0 : 0 ≤ x) (h : x ≤ 999) : (x = 0 ∧ fracS x = []) ∨ (∃ k n : Nat, 1 ≤ k ∧ k ≤ 3 ∧ fracS x = 46 :: rdg (n : Int) (k : Int) ∧ n < 10 ^ k ∧ n % 10 ≠ 0 ∧ mil k (n : Int) = x) := by
  by_cases e0 : x = 0
  · exact .inl ⟨e0, frac0 e0⟩
  · refine .inr ?_
    obtain ⟨n, rfl⟩ := Int.eq_ofNat_of_zero_le h0
    by_cases e1 : (n : Int) % 100 = 0
    · refine ⟨1, n / 100, by decide, by decide, ?_, by omega, by omega, ?_⟩
      · rw [frac1 e0 e1]; rfl
      · unfold mil; simp only [if_true]; omega
    · by_cases e2 : (n : Int) % 10 = 0
      · refine ⟨2, n / 10, by decide, by decide, ?_, by omega, by omega, ?_⟩
        · rw [frac2 e0 e1 e2]; rfl
        · unfold mil; simp; omega
      · refine ⟨3, n, by decide, by decide, ?_, by omega, by omega, ?_⟩
        · rw [frac3 e0 e1 e2]; rfl
        · unfold mil; simp
theorem frac_mil {k n : Nat} (h1 : 1 ≤ k) (h3 : k ≤ 3) (hn : n < 10 ^ k) (h10 : n % 10 ≠ 0) : fracS (mil k (n : Int)) = 46 :: rdg (n : Int) (k : Int) ∧ 0 ≤ mil k (n : Int) ∧ mil k (n : Int) ≤ 999 ∧ mil k (n : Int) ≠ 0 := by
  obtain rfl | rfl | rfl : k = 1 ∨ k = 2 ∨ k = 3 := by omega
  · have e : mil 1 (n : Int) = 100 * n := by simp [mil]
    rw [e, frac1 (by omega) (by omega), show (100 * (n : Int)) / 100 = n by omega]
    exact ⟨rfl, by omega, by omega, by omega⟩
  · have e : mil 2 (n : Int) = 10 * n := by simp [mil]
    rw [e, frac2 (by omega) (by omega) (by omega), show (10 * (n : Int)) / 10 = n by omega]
    exact ⟨rfl, by omega, by omega, by omega⟩
  · have e : mil 3 (n : Int) = n := by simp [mil]
    rw [e, frac3 (by omega) (by omega) (by omega)]
    exact ⟨rfl, by omega, by omega, by omega⟩
end Go.Proofs.YtfbodageccednaaDoor.Oa
namespace Go.Proofs.YtfbodageccednaaDoor.Oa
open Go Go.RowKit Go.Proofs.YtfbodageccednaaDoor.Vm Go.IntWalk
theorem allN_app {H r : List UInt8} (h : H.length = 14) : allN (H ++ r) = numR H := by
  unfold allN; rw [List.take_append_of_le_length (by omega), List.take_of_length_le (by omega)]
theorem last_at {u : List UInt8} {c : UInt8} {n : Int} (h : n = (u.length : Int)) : byteAt (u ++ [c]) n = c := by
  unfold byteAt
  rw [h, Int.toNat_natCast, List.getD_eq_getElem?_getD, List.getElem?_append_right (Nat.le_refl _)]
  simp
theorem at_14 {H r : List UInt8} {c : UInt8} (h : H.length = 14) : byteAt (H ++ (c :: r)) 14 = c := by
  unfold byteAt
  rw [show (14 : Int).toNat = 14 from rfl, List.getD_eq_getElem?_getD, List.getElem?_append_right (by omega)]
  rw [h]; rfl
theorem dateE_zero {y m d : Int} (hy : 1970 ≤ y ∧ y ≤ 9999) (hm : 1 ≤ m ∧ m ≤ 12) (hd : 1 ≤ d ∧ d ≤ Cal.long y m) : dateOk y m d = true ∧ daysE y m d = 0 ∧ daysA y m d = Cal.num y m d := by
  have h : dateOk y m d = true := decide_eq_true ⟨hy.1, hy.2, hm.1, hm.2, hd.1, hd.2⟩
  refine ⟨h, ?_, ?_⟩
  · unfold daysE; rw [h]; rfl
  · unfold daysA; rw [h]; rfl
theorem rread_gen {t : Int} (h : tIn t = true) : rread (rgenS t) = some t := by
  obtain ⟨y, m, d, hh, i, s, x, p⟩ := parts h
  have ⟨y0, y1⟩ := p.hy; have ⟨m0, m1⟩ := p.hm; have ⟨d0, _⟩ := p.hd; have d1 := p.hd31; have ⟨h0, h1⟩ := p.hh; have ⟨i0, i1⟩ := p.hi; have ⟨s0, s1⟩ := p.hs; have ⟨x0, x1⟩ := p.hx
  have hN := numN_rng p
  have hHl : (rdg (numN y m d hh i s) 14).length = 14 := rdg_len _ _
  have hHN : numR (rdg (numN y m d hh i s) 14) = numN y m d hh i s := numR_rdg 14 hN.1 (by rw [tp14]; exact hN.2)
  obtain ⟨dk1, dk2, dk3⟩ := dateE_zero p.hy p.hm p.hd
  have e1 : numN y m d hh i s / 10000000000 = y := by unfold numN; omega
  have e2 : numN y m d hh i s / 100000000 % 100 = m := by unfold numN; omega
  have e3 : numN y m d hh i s / 1000000 % 100 = d := by unfold numN; omega
  have e4 : numN y m d hh i s / 10000 % 100 = hh := by unfold numN; omega
  have e5 : numN y m d hh i s / 100 % 100 = i := by unfold numN; omega
  have e6 : numN y m d hh i s % 100 = s := by unfold numN; omega
  have hs := p.sum
  rw [rgenS_parts p, headN_eq p]
  generalize hH : rdg (numN y m d hh i s) 14 = H at *
  generalize numN y m d hh i s = N at *
  rcases frac_cases x0 x1 with ⟨ex, ef⟩ | ⟨k, n, hk1, hk3, ef, hn, hn10, hmil⟩
  · rw [ef, List.append_nil]
    have ea : allN (H ++ [90]) = N := by rw [allN_app hHl]; exact hHN
    have hl : (H ++ [90]).length = 15 := by rw [List.length_append, hHl]; rfl
    have hb : byteAt (H ++ [90]) (((H ++ [90]).length : Int) - 1) = 90 := last_at (by rw [hl, hHl]; rfl)
    rw [rreadQ_ok (by rw [ea, hl, ← hl, hb, hl]; rw [show (90 : UInt8).toNat = 90 from rfl]; omega) (by rw [ea, e1, e2, e3, e4, e5, e6, dk2]; omega) (by rw [hl]; omega), ea, if_neg (by rw [hl]; omega)]
    unfold timeN
    rw [e1, e2, e3, e4, e5, e6, dk3]
    congr 1; omega
  · rw [ef]
    have hrl : (rdg (n : Int) (k : Int)).length = k := by rw [rdg_len]; omega
    have ea : allN (H ++ 46 :: rdg (n : Int) (k : Int) ++ [90]) = N := by rw [List.append_assoc, allN_app hHl]; exact hHN
    have hl : (H ++ 46 :: rdg (n : Int) (k : Int) ++ [90]).length = 16 + k := by
      rw [List.length_append, List.length_append, List.length_cons, hHl, hrl]; simp; omega
    have hb : byteAt (H ++ 46 :: rdg (n : Int) (k : Int) ++ [90]) (((H ++ 46 :: rdg (n : Int) (k : Int) ++ [90]).length : Int) - 1) = 90 :=
      last_at (by rw [hl, List.length_append, List.length_cons, hHl, hrl]; omega)
    have h14 : byteAt (H ++ 46 :: rdg (n : Int) (k : Int) ++ [90]) 14 = 46 := by rw [List.append_assoc]; exact at_14 hHl
    have hf : fracT (H ++ 46 :: rdg (n : Int) (k : Int) ++ [90]) = rdg (n : Int) (k : Int) := by
      unfold fracT
      rw [hl, show 16 + k - 16 = k by omega, List.append_assoc, List.drop_append, List.drop_of_length_le (by omega), List.nil_append, hHl, show 15 - 14 = 1 from rfl]
      rw [List.cons_append, List.drop_succ_cons, List.drop_zero, List.take_append_of_le_length (by omega), List.take_of_length_le (by omega)]
    have hnr : numR (rdg (n : Int) (k : Int)) = n := numR_rdg k (by omega) (by omega)
    rw [rreadQ_ok (by rw [ea, hb, hl]; rw [show (90 : UInt8).toNat = 90 from rfl]; omega) (by rw [ea, e1, e2, e3, e4, e5, e6, dk2]; omega) (by rw [hl, h14, hf, hnr]; rw [show (46 : UInt8).toNat = 46 from rfl]; omega), ea, if_pos (by rw [hl]; omega), hl, hf, hnr, show 16 + k - 16 = k by omega, hmil]
    unfold timeN
    rw [e1, e2, e3, e4, e5, e6, dk3]
    congr 1; omega
theorem rread_inv {s : List UInt8} {t : Int} (h : rread s = some t) :
    ¬ (s.length < 15 ∨ 19 < s.length ∨ s.length = 16 ∨ (byteAt s ((s.length : Int) - 1)).toNat ≠ 90 ∨ allN s < 0) ∧
    ¬ (daysE (allN s / 10000000000) (allN s / 100000000 % 100) (allN s / 1000000 % 100) ≠ 0 ∨ 23 < allN s / 10000 % 100 ∨ 59 < allN s / 100 % 100 ∨ 59 < allN s % 100) ∧
    ¬ (15 < s.length ∧ ((byteAt s 14).toNat ≠ 46 ∨ numR (fracT s) < 0 ∨ numR (fracT s) % 10 = 0)) ∧
    t = timeN (allN s) (if 15 < s.length then mil (s.length - 16) (numR (fracT s)) else 0) := by
  unfold rread at h
  split at h
  · cases h
  · rename_i h1
    split at h
    · cases h
    · rename_i h2
      split at h
      · cases h
      · rename_i h3
        injection h with h
        exact ⟨fun q => h1 (decide_eq_true q), fun q => h2 (decide_eq_true q), fun q => h3 (decide_eq_true q), h.symm⟩
theorem byte_is {c : UInt8} {n : Nat} (h : c.toNat = n) (h' : n < 256) : c = UInt8.ofNat n := by
  apply UInt8.toNat_inj.1
  rw [UInt8.toNat_ofNat', h]; omega
theorem rread_sound {s : List UInt8} {t : Int} (h : rread s = some t) : tIn t = true ∧ rgenS t = s := by
  obtain ⟨h1, h2, h3, ht⟩ := rread_inv h
  have har := all_rng s
  have hW : (s.take 14).length = 14 := by rw [List.length_take]; omega
  have hA := (rdg_numR (w := s.take 14) (show 0 ≤ allN s by omega)).1
  rw [hW] at hA
  have hok : dateOk (allN s / 10000000000) (allN s / 100000000 % 100) (allN s / 1000000 % 100) = true := by
    cases e : dateOk (allN s / 10000000000) (allN s / 100000000 % 100) (allN s / 1000000 % 100) with
    | true => rfl
    | false =>
      have : daysE (allN s / 10000000000) (allN s / 100000000 % 100) (allN s / 1000000 % 100) = 150 := by unfold daysE; rw [e]; rfl
      omega
  have hd := of_decide_eq_true hok
  have hdA : daysA (allN s / 10000000000) (allN s / 100000000 % 100) (allN s / 1000000 % 100) = Cal.num (allN s / 10000000000) (allN s / 100000000 % 100) (allN s / 1000000 % 100) := if_pos hok
  unfold timeN at ht
  rw [hdA] at ht
  have hl : s.drop 14 = (if 15 < s.length then 46 :: fracT s else []) ++ [90] := by
    by_cases hL : 15 < s.length
    · rw [if_pos hL, drop_at (by omega)]
      have b14 : (byteAt s 14).toNat = 46 := Decidable.byContradiction fun q => h3 ⟨hL, .inl q⟩
      have c14 : s.getD 14 0 = 46 := byte_is (c := s.getD 14 0) (n := 46) b14 (by decide)
      have e : s.drop 15 = fracT s ++ [90] := by
        have hc : s.getD (15 + (s.length - 16)) 0 = 90 := by
          refine byte_is (c := s.getD (15 + (s.length - 16)) 0) (n := 90) ?_ (by decide)
          have hb : (byteAt s ((s.length : Int) - 1)).toNat = 90 := by omega
          unfold byteAt at hb
          rw [show ((s.length : Int) - 1).toNat = 15 + (s.length - 16) by omega] at hb
          exact hb
        have hz : (s.drop 15).drop (s.length - 16) = [90] := by
          rw [List.drop_drop, drop_at (s := s) (k := 15 + (s.length - 16)) (by omega), hc, List.drop_of_length_le (by omega)]
        exact (List.take_append_drop (s.length - 16) (s.drop 15)).symm.trans (by rw [hz]; rfl)
      rw [c14, show 14 + 1 = 15 from rfl, e]
      rfl
    · rw [if_neg hL, drop_at (by omega), List.drop_of_length_le (by omega)]
      have : s.getD 14 0 = 90 := by
        refine byte_is (c := s.getD 14 0) (n := 90) ?_ (by decide)
        have hb : (byteAt s ((s.length : Int) - 1)).toNat = 90 := by omega
        unfold byteAt at hb
        rw [show ((s.length : Int) - 1).toNat = 14 by omega] at hb
        exact hb
      rw [this]; rfl
  have hfr : ∃ x, x = (if 15 < s.length then mil (s.length - 16) (numR (fracT s)) else 0) ∧ 0 ≤ x ∧ x ≤ 999 ∧ fracS x = (if 15 < s.length then 46 :: fracT s else []) := by
    refine ⟨_, rfl, ?_⟩
    by_cases hL : 15 < s.length
    · rw [if_pos hL, if_pos hL]
      have hB := rdg_numR (w := fracT s) (by omega)
      rw [frac_len (by omega)] at hB
      obtain ⟨n, hn⟩ := Int.eq_ofNat_of_zero_le (show 0 ≤ numR (fracT s) by omega)
      rw [hn] at hB ⊢
      have hlt : n < 10 ^ (s.length - 16) := by have := hB.2; omega
      obtain ⟨q1, q2, q3, q4⟩ := frac_mil (k := s.length - 16) (n := n) (by omega) (by omega) hlt (by omega)
      exact ⟨q2, q3, by rw [q1, hB.1]⟩
    · rw [if_neg hL, if_neg hL]
      exact ⟨by omega, by omega, frac0 rfl⟩
  obtain ⟨x, hx, x0, x1, hxf⟩ := hfr
  rw [← hx] at ht
  rw [← hxf] at hl
  obtain ⟨u1, u2⟩ := unparts (y := allN s / 10000000000) (m := allN s / 100000000 % 100) (d := allN s / 1000000 % 100) (h := allN s / 10000 % 100) (i := allN s / 100 % 100) (s := allN s % 100) (x := x)
    ⟨hd.1, hd.2.1⟩ ⟨hd.2.2.1, hd.2.2.2.1⟩ ⟨hd.2.2.2.2.1, hd.2.2.2.2.2⟩ (by omega) (by omega) (by omega) ⟨x0, x1⟩
  rw [← ht] at u1 u2
  refine ⟨u1, ?_⟩
  rw [rgenS_parts u2, headN_eq u2, show numN (allN s / 10000000000) (allN s / 100000000 % 100) (allN s / 1000000 % 100) (allN s / 10000 % 100) (allN s / 100 % 100) (allN s % 100) = allN s by unfold numN; omega]
  rw [List.append_assoc, ← hl]
  have hA' : rdg (allN s) 14 = s.take 14 := hA
  rw [hA']
  exact List.take_append_drop 14 s
end Go.Proofs.YtfbodageccednaaDoor.Oa
namespace Go.Proofs.YtfbodageccednaaDoor.Oa
open Go Go.RowKit Go.Proofs.YtfbodageccednaaDoor.Vm Go.IntWalk
theorem fldA_cons {z : Nat} {zs : List Nat} {p r : List UInt8} {out : List Int} {v : Int} (h : p.length = z) (hv : numI p = v) (h0 : 0 ≤ v) : fldA (z :: zs) (p ++ r) out = fldA zs r (out ++ [v]) := by
  have e : fldN z (p ++ r) = v := by
    unfold fldN
    rw [if_pos (by rw [List.length_append]; omega), List.take_append_of_le_length (by omega), List.take_of_length_le (by omega), hv]
  rw [fldA, e, if_neg (by omega)]
  congr 1
  rw [List.drop_append, List.drop_of_length_le (by omega), h]; simp
theorem num4 {n : Int} (h0 : 0 ≤ n) (h : n < 10000) : numI (rdg n 4) = n := numI_rdg 3 h0 (show n < ((10 ^ 4 : Nat) : Int) by rw [tp4]; exact h) (by omega)
theorem num2 {n : Int} (h0 : 0 ≤ n) (h : n < 100) : numI (rdg n 2) = n := numI_rdg 1 h0 (show n < ((10 ^ 2 : Nat) : Int) by rw [tp2]; exact h) (by omega)
theorem num3 {n : Int} (h0 : 0 ≤ n) (h : n < 1000) : numI (rdg n 3) = n := numI_rdg 2 h0 (show n < ((10 ^ 3 : Nat) : Int) by rw [tp3]; exact h) (by omega)
theorem trim_one (u : List UInt8) (c : UInt8) : Lib.trimSuffix (u ++ [c]) [c] = u := by
  unfold Lib.trimSuffix Lib.hasSuffix
  rw [if_pos (by rw [List.isSuffixOf_iff_suffix]; exact List.suffix_append u [c])]
  rw [List.length_append, List.take_append_of_le_length (by simp), List.take_of_length_le (by simp)]
theorem pad_facts : ((List.range 1000).all fun k => decide (0 < k → padS (Lib.trimPrefix (fracS (k : Int)) [46]) = rdg (k : Int) 3 ∧ (Lib.trimPrefix (fracS (k : Int)) [46]).length ≤ 3 ∧ Lib.hasPrefix (fracS (k : Int)) [46] = true)) = true := by decide +kernel
theorem pad_at {x : Int} (h0 : 0 < x) (h : x ≤ 999) : padS (Lib.trimPrefix (fracS x) [46]) = rdg x 3 ∧ (Lib.trimPrefix (fracS x) [46]).length ≤ 3 ∧ Lib.hasPrefix (fracS x) [46] = true := by
  obtain ⟨k, rfl⟩ := Int.eq_ofNat_of_zero_le (show 0 ≤ x by omega)
  have := List.all_eq_true.1 pad_facts k (List.mem_range.2 (by omega))
  exact (of_decide_eq_true this) (by omega)
theorem readGP_gen {t : Int} (h : tIn t = true) : readGP (rgenS t) = some t := by
  obtain ⟨y, m, d, hh, i, s, x, p⟩ := parts h
  have ⟨y0, y1⟩ := p.hy; have ⟨m0, m1⟩ := p.hm; have ⟨d0, _⟩ := p.hd; have d1 := p.hd31; have ⟨h0, h1⟩ := p.hh; have ⟨i0, i1⟩ := p.hi; have ⟨s0, s1⟩ := p.hs; have ⟨x0, x1⟩ := p.hx
  obtain ⟨dk1, dk2, dk3⟩ := dateE_zero p.hy p.hm p.hd
  have hs := p.sum
  have hg := genS_eq h
  have hp := rgenS_parts p
  generalize hS : rgenS t = S at *
  have hf : flds S = [y, m, d, hh, i, s] := by
    unfold flds fldR
    rw [show List.drop 0 szL = [4, 2, 2, 2, 2, 2] from rfl, show List.drop (off 0) S = S from rfl, hp]
    unfold headN
    simp only [List.append_assoc]
    rw [fldA_cons (rdg_l4 y) (num4 (by omega) (by omega)) (by omega), fldA_cons (rdg_l2 m) (num2 (by omega) (by omega)) (by omega), fldA_cons (rdg_l2 d) (num2 (by omega) (by omega)) (by omega), fldA_cons (rdg_l2 hh) (num2 (by omega) (by omega)) (by omega), fldA_cons (rdg_l2 i) (num2 (by omega) (by omega)) (by omega), fldA_cons (rdg_l2 s) (num2 (by omega) (by omega)) (by omega)]
    rfl
  have hb : baseT S = Cal.num y m d * 86400000 + ((hh * 60 + i) * 60 + s) * 1000 := by
    unfold baseT at6
    rw [hf]
    show daysA y m d * 86400000 + ((hh * 60 + i) * 60 + s) * 1000 = _
    rw [dk3]
  have hd14 : S.drop 14 = fracS x ++ [90] := by
    rw [hp, List.append_assoc, List.drop_append, List.drop_of_length_le (by rw [headN_len]; decide), headN_len]; rfl
  have hr : restS S = Lib.trimPrefix (fracS x) [46] := by unfold restS; rw [hd14, trim_one]
  have hdot : hasDot S = Lib.hasPrefix (fracS x) [46] := by unfold hasDot; rw [hd14, trim_one]
  have hw : wholeT S = t := by
    by_cases e0 : x = 0
    · rw [wholeT_no (by rw [hdot, frac0 e0]; rintro ⟨q, _⟩; exact absurd q (by decide)), hb]; omega
    · obtain ⟨q1, q2, q3⟩ := pad_at (x := x) (by omega) (by omega)
      rw [wholeT_dot (by rw [hdot]; exact q3) (by rw [hr]; exact q2), hr, q1, hb]
      have : fldN 3 (rdg x 3) = x := by
        unfold fldN
        rw [if_pos (by rw [rdg_l3]; decide), List.take_of_length_le (by rw [rdg_l3]; decide), num3 (by omega) (by omega)]
      rw [this]; omega
  rw [readGP_ok (by rw [hf]; simp) (by rw [hf]; exact dk1) (by rw [hw]; exact ⟨h, hg⟩), hw]
theorem readGP_sound {s : List UInt8} {t : Int} (h : readGP s = some t) : tIn t = true ∧ rgenS t = s := by
  unfold readGP at h
  split at h
  · cases h
  · split at h
    · rename_i h2
      injection h with h
      rw [h] at h2
      exact ⟨h2.1, by rw [← genS_eq h2.1]; exact h2.2⟩
    · cases h
/-- The program reads what the document reads. -/
theorem readGP_eq (s : List UInt8) : readGP s = rread s := by
  cases e : readGP s with
  | some t =>
    obtain ⟨h1, h2⟩ := readGP_sound e
    rw [← h2, rread_gen h1]
  | none =>
    cases e' : rread s with
    | none => rfl
    | some t =>
      obtain ⟨h1, h2⟩ := rread_sound e'
      rw [← h2, readGP_gen h1] at e
      cases e
theorem rgen_inj {t u : Int} (h : tIn t = true) (h' : tIn u = true) (e : rgenS t = rgenS u) : t = u := by
  have h1 := rread_gen h
  rw [e, rread_gen h'] at h1
  injection h1 with h1
  exact h1.symm
/-! short texts -/
theorem head_take {t y m d h i s x : Int} (p : PartsOk t y m d h i s x) : (rgenS t).take 4 = rdg y 4 := by
  rw [rgenS_parts p]
  unfold headN
  simp only [List.append_assoc]
  rw [List.take_append_of_le_length (by rw [rdg_l4]; decide), List.take_of_length_le (by rw [rdg_l4]; decide)]
theorem less_facts : ((List.range 8030).all fun k => decide (Op.bytesLess (rdg ((k + 1970 : Nat) : Int) 4) [50, 48, 53, 48] = decide (k < 80))) = true := by decide +kernel
theorem less_at {y : Int} (h0 : 1970 ≤ y) (h1 : y ≤ 9999) : Op.bytesLess (rdg y 4) [50, 48, 53, 48] = decide (y < 2050) := by
  obtain ⟨k, hk⟩ := Int.eq_ofNat_of_zero_le (show 0 ≤ y - 1970 by omega)
  have := of_decide_eq_true (List.all_eq_true.1 less_facts k (List.mem_range.2 (by omega)))
  rw [show y = ((k + 1970 : Nat) : Int) by omega, this]
  congr 1
  simp only [eq_iff_iff]; omega
theorem shortOk_eq (t : Int) : shortOk t = rshortOk t := by
  unfold shortOk rshortOk
  cases h : tIn t with
  | false => rfl
  | true =>
    obtain ⟨y, m, d, hh, i, s, x, p⟩ := parts h
    rw [head_take p, less_at p.hy.1 p.hy.2, p.ey, tmodn (tIn_of h).1]
theorem shortO_eq (t : Int) : shortO t = rshortO t := by
  unfold shortO rshortO
  rw [shortOk_eq]
  cases h : rshortOk t with
  | false => rfl
  | true =>
    have : tIn t = true := by
      unfold rshortOk at h
      cases e : tIn t with
      | true => rfl
      | false => rw [e] at h; cases h
    rw [if_pos rfl, if_pos rfl, genS_eq this]
end Go.Proofs.YtfbodageccednaaDoor.Oa
namespace Go.Proofs.YtfbodageccednaaDoor.Oa
open Go Go.RowKit Go.Proofs.YtfbodageccednaaDoor.Vm Go.IntWalk
theorem year_two {y : Int} (h0 : 1970 ≤ y) (h1 : y ≤ 9999) : rdg y 4 = rdg (y / 100) 2 ++ rdg (y % 100) 2 := by
  rw [show (2 : Int) = (2 : Nat) from rfl, rdg_join 2 2 (by omega) (by omega) (by rw [tp2]; omega), tp2, show y / 100 * 100 + y % 100 = y by omega]; rfl
theorem frac_zero {x : Int} (h0 : 0 ≤ x) (h : x ≤ 999) : (fracS x).length = 0 ↔ x = 0 := by
  rcases frac_cases h0 h with ⟨e, ef⟩ | ⟨k, n, hk1, hk3, ef, hn, hn10, hmil⟩
  · rw [ef]; simp [e]
  · rw [ef, List.length_cons]
    constructor
    · intro q; omega
    · intro q
      have := (frac_mil hk1 hk3 hn hn10).2.2.2
      rw [hmil] at this; exact absurd q this
theorem sh_parts {t y m d h i s x : Int} (p : PartsOk t y m d h i s x) : rgenS t = rdg (y / 100) 2 ++ (rgenS t).drop 2 ∧ numR (((rgenS t).drop 2).take 2) = y % 100 ∧ ((rgenS t).drop 2).length = 13 + (fracS x).length := by
  have ⟨y0, y1⟩ := p.hy
  have hc : ∃ r, rgenS t = rdg (y / 100) 2 ++ (rdg (y % 100) 2 ++ r) ∧ r.length = 11 + (fracS x).length := by
    refine ⟨rdg m 2 ++ (rdg d 2 ++ (rdg h 2 ++ (rdg i 2 ++ (rdg s 2 ++ (fracS x ++ [90]))))), ?_, ?_⟩
    · rw [rgenS_parts p]
      unfold headN
      rw [year_two y0 y1]
      simp only [List.append_assoc]
    · simp only [List.length_append, rdg_l2, List.length_cons, List.length_nil]; omega
  obtain ⟨r, hr, hl⟩ := hc
  have hd : (rgenS t).drop 2 = rdg (y % 100) 2 ++ r := by
    rw [hr, List.drop_append, List.drop_of_length_le (by rw [rdg_l2]; decide), rdg_l2]; rfl
  rw [hd]
  refine ⟨hr, ?_, ?_⟩
  · rw [List.take_append_of_le_length (by rw [rdg_l2]; decide), List.take_of_length_le (by rw [rdg_l2]; decide)]
    exact numR_rdg 2 (by omega) (by rw [tp2]; omega)
  · rw [List.length_append, rdg_l2, hl]; omega
theorem ok_parts {t y m d h i s x : Int} (ht : tIn t = true) (p : PartsOk t y m d h i s x) : shortOk t = true ↔ x = 0 ∧ y < 2050 := by
  unfold shortOk
  rw [ht, p.ey]
  have := p.ex
  have := (tIn_of ht).1
  simp only [Bool.true_and, Bool.and_eq_true, decide_eq_true_eq]
  omega
theorem ok_in {t : Int} (h : shortOk t = true) : tIn t = true := by
  unfold shortOk at h
  cases e : tIn t with
  | true => rfl
  | false => rw [e] at h; cases h
theorem shortO_ok {t : Int} (h : shortOk t = true) : shortO t = (rgenS t).drop 2 := by
  unfold shortO; rw [h, if_pos rfl, genS_eq (ok_in h)]
theorem d19 : rdg 19 2 = [49, 57] := by decide +kernel
theorem d20 : rdg 20 2 = [50, 48] := by decide +kernel
theorem of_d {a b : Int} (h0 : 0 ≤ a) (h1 : a < 100) (h2 : 0 ≤ b) (h3 : b < 100) (h : rdg a 2 = rdg b 2) : a = b := by
  have e1 := numR_rdg (n := a) 2 h0 (by rw [tp2]; exact h1)
  have e2 := numR_rdg (n := b) 2 h2 (by rw [tp2]; exact h3)
  have h' : rdg a ((2 : Nat) : Int) = rdg b ((2 : Nat) : Int) := h
  rw [h'] at e1
  omega
/-- Which text a short text is the end of. -/
theorem short_whole {t : Int} (h : shortOk t = true) : ∃ y : Int, 1970 ≤ y ∧ y < 2050 ∧ numR ((shortO t).take 2) = y % 100 ∧ (shortO t).length = 13 ∧ rgenS t = (if y < 2000 then [49, 57] else [50, 48]) ++ shortO t := by
  have hi := ok_in h
  obtain ⟨y, m, d, hh, i, s, x, p⟩ := parts hi
  obtain ⟨q1, q2, q3⟩ := sh_parts p
  obtain ⟨e1, e2⟩ := (ok_parts hi p).1 h
  have hx := (frac_zero p.hx.1 p.hx.2).2 e1
  have hy := p.hy
  rw [shortO_ok h]
  refine ⟨y, hy.1, e2, q2, by rw [q3, hx], ?_⟩
  refine q1.trans ?_
  by_cases e : y < 2000
  · rw [if_pos e, show y / 100 = 19 by omega, d19]
  · rw [if_neg e, show y / 100 = 20 by omega, d20]
/-- The other way about. -/
theorem whole_short {t : Int} {c : Int} {s : List UInt8} (h : tIn t = true) (hc : c = 19 ∨ c = 20) (e : rgenS t = rdg c 2 ++ s) (hl : s.length = 13) :
    ∃ y, 1970 ≤ y ∧ y = 100 * c + numR (s.take 2) ∧ (y < 2050 → shortOk t = true ∧ shortO t = s) := by
  obtain ⟨y, m, d, hh, i, u, x, p⟩ := parts h
  obtain ⟨q1, q2, q3⟩ := sh_parts p
  have hy := p.hy
  have hd : (rgenS t).drop 2 = s := by
    rw [e, List.drop_append, List.drop_of_length_le (by rw [rdg_l2]; decide), rdg_l2]; rfl
  rw [hd] at q1 q2 q3
  have hcc : y / 100 = c := by
    refine of_d (by omega) (by omega) (by omega) (by omega) ?_
    exact List.append_cancel_right (q1.symm.trans e)
  have hx0 : x = 0 := (frac_zero p.hx.1 p.hx.2).1 (by omega)
  refine ⟨y, hy.1, by rw [q2]; omega, fun hlt => ?_⟩
  have hok := (ok_parts h p).2 ⟨hx0, hlt⟩
  exact ⟨hok, by rw [shortO_ok hok, hd]⟩
theorem tryS_sound {b s : List UInt8} {t : Int} (h : tryS b s = some t) : rgenS t = b ++ s ∧ shortOk t = true ∧ shortO t = s := by
  unfold tryS at h
  cases e : readGP (b ++ s) with
  | none => rw [e] at h; cases h
  | some u =>
    rw [e] at h
    dsimp only at h
    split at h
    · rename_i h2
      injection h with h
      subst h
      exact ⟨(readGP_sound e).2, h2⟩
    · cases h
theorem readShP_sound {s : List UInt8} {t : Int} (h : readShP s = some t) : shortOk t = true ∧ shortO t = s := by
  unfold readShP at h
  split at h
  · rename_i u e
    injection h with h; subst h
    exact (tryS_sound e).2
  · exact (tryS_sound h).2
theorem readShP_short {t : Int} (h : shortOk t = true) : readShP (shortO t) = some t := by
  obtain ⟨y, y0, y1, hn, hl, hg⟩ := short_whole h
  have hr : readGP (rgenS t) = some t := readGP_gen (ok_in h)
  unfold readShP
  by_cases e : y < 2000
  · rw [if_pos e] at hg
    rw [hg] at hr
    rw [tryS_yes hr ⟨h, rfl⟩]
  · rw [if_neg e] at hg
    rw [hg] at hr
    cases e' : tryS [49, 57] (shortO t) with
    | none => exact tryS_yes hr ⟨h, rfl⟩
    | some u =>
      obtain ⟨a1, a2, a3⟩ := tryS_sound e'
      obtain ⟨z, z0, z1, zn, zl, zg⟩ := short_whole a2
      rw [a3] at zn zg
      rw [a1] at zg
      have : z < 2000 := by
        by_cases q : z < 2000
        · exact q
        · rw [if_neg q] at zg
          have := List.append_cancel_right zg
          exact absurd this (by decide)
      omega
theorem rreadSh_short {t : Int} (h : shortOk t = true) : rreadSh (shortO t) = some t := by
  obtain ⟨y, y0, y1, hn, hl, hg⟩ := short_whole h
  have hr : rread (rgenS t) = some t := rread_gen (ok_in h)
  unfold rreadSh
  rw [if_pos hl, hn]
  by_cases e : y < 2000
  · rw [if_pos e] at hg
    rw [if_neg (by omega), if_neg (by omega), ← hg, hr]
  · rw [if_neg e] at hg
    rw [if_neg (by omega), if_pos (by omega), ← hg, hr]
theorem rreadSh_sound {s : List UInt8} {t : Int} (h : rreadSh s = some t) : shortOk t = true ∧ shortO t = s := by
  unfold rreadSh at h
  split at h
  · rename_i hl
    split at h
    · cases h
    · rename_i hn
      split at h
      · rename_i hn5
        obtain ⟨a1, a2⟩ := rread_sound h
        obtain ⟨y, b1, b2, b3⟩ := whole_short a1 (c := 20) (.inr rfl) (by rw [d20]; exact a2) hl
        exact b3 (by omega)
      · rename_i hn5
        obtain ⟨a1, a2⟩ := rread_sound h
        obtain ⟨y, b1, b2, b3⟩ := whole_short a1 (c := 19) (.inl rfl) (by rw [d19]; exact a2) hl
        have hb := numA_le (s.take 2) 0
        have hl2 : (s.take 2).length = 2 := by rw [List.length_take]; omega
        rw [hl2] at hb
        have hb' : numR (s.take 2) < 100 := by have := hb.2; unfold numR; omega
        exact b3 (by omega)
  · cases h
theorem readSh_eq (s : List UInt8) : readShP s = rreadSh s := by
  cases e : readShP s with
  | some t =>
    obtain ⟨h1, h2⟩ := readShP_sound e
    rw [← h2, rreadSh_short h1]
  | none =>
    cases e' : rreadSh s with
    | none => rfl
    | some t =>
      obtain ⟨h1, h2⟩ := rreadSh_sound e'
      rw [← h2, readShP_short h1] at e
      cases e
end Go.Proofs.YtfbodageccednaaDoor.Oa
namespace Go.Proofs.YtfbodageccednaaDoor.Oa
open Go Go.RowKit Go.Proofs.YtfbodageccednaaDoor.Vm Go.IntWalk
/-! the next day -/
theorem at_of {n y m d : Int} (hy : 1970 ≤ y ∧ y ≤ 9999) (hm : 1 ≤ m ∧ m ≤ 12) (hd : 1 ≤ d ∧ d ≤ Cal.long y m) (h : Cal.num y m d = n) : Cal.atY n = y ∧ Cal.atM n = m ∧ Cal.atD n = d := by
  rw [← h]; exact Cal.at_num y m d hy.1 hy.2 hm.1 hm.2 hd.1 hd.2
theorem num_top : Cal.num 9999 12 31 = 2932896 := by decide
theorem next_day {n : Int} (h0 : 0 ≤ n) (h1 : n ≤ 2932895) :
    (Cal.atY (n + 1) = Cal.atY n ∧ Cal.atM (n + 1) = Cal.atM n ∧ Cal.atD (n + 1) = Cal.atD n + 1) ∨
    (Cal.atY (n + 1) = Cal.atY n ∧ Cal.atM (n + 1) = Cal.atM n + 1 ∧ Cal.atD (n + 1) = 1 ∧ 28 ≤ Cal.atD n) ∨
    (Cal.atY (n + 1) = Cal.atY n + 1 ∧ Cal.atM (n + 1) = 1 ∧ Cal.atD (n + 1) = 1 ∧ Cal.atM n = 12 ∧ Cal.atD n = 31) := by
  obtain ⟨c1, c2, c3, c4, c5⟩ := Cal.at_ok n (by omega) (by omega)
  have cy := at_year n (by omega) (by omega)
  have cl := long_le (Cal.atY n) (Cal.atM n)
  generalize Cal.atY n = y at *
  generalize Cal.atM n = m at *
  generalize Cal.atD n = d at *
  by_cases e1 : d < Cal.long y m
  · refine .inl (at_of cy ⟨c2, c3⟩ ⟨by omega, by omega⟩ ?_)
    unfold Cal.num at c1 ⊢; omega
  · have ed : d = Cal.long y m := by omega
    by_cases e2 : m < 12
    · have cl2 := long_le y (m + 1)
      have hs := Cal.C_succ y m c2 (by omega)
      obtain ⟨a1, a2, a3⟩ := at_of (n := n + 1) (y := y) (m := m + 1) (d := 1) cy ⟨by omega, by omega⟩ ⟨by omega, by omega⟩ (by unfold Cal.num at c1 ⊢; omega)
      exact .inr (.inl ⟨a1, a2, a3, by omega⟩)
    · have em : m = 12 := by omega
      subst em
      have h31 : Cal.long y 12 = 31 := by simp [Cal.long]
      have hc := Cal.C_12 y
      have hC1 : Cal.C (y + 1) 1 = 0 := by simp [Cal.C]
      have hY := Cal.Y_succ y
      have hy9 : y ≠ 9999 := fun q => by
        subst q
        have := num_top
        rw [ed, h31] at c1
        omega
      have cl2 := long_le (y + 1) 1
      obtain ⟨a1, a2, a3⟩ := at_of (n := n + 1) (y := y + 1) (m := 1) (d := 1) ⟨by omega, by omega⟩ ⟨by omega, by omega⟩ ⟨by omega, by omega⟩ (by unfold Cal.num at c1 ⊢; omega)
      exact .inr (.inr ⟨a1, a2, a3, rfl, by omega⟩)
theorem days_back {n : Int} (h0 : 0 ≤ n) (h1 : n ≤ 2932896) : daysA (Cal.atY n) (Cal.atM n) (Cal.atD n) = n ∧ daysE (Cal.atY n) (Cal.atM n) (Cal.atD n) = 0 := by
  obtain ⟨c1, c2, c3, c4, c5⟩ := Cal.at_ok n (by omega) (by omega)
  have cy := at_year n (by omega) (by omega)
  obtain ⟨q1, q2, q3⟩ := dateE_zero cy ⟨c2, c3⟩ ⟨c4, c5⟩
  exact ⟨q3.trans c1, q2⟩
theorem date_e {n : Int} (h0 : 0 ≤ n) (h1 : n ≤ 2932896) : dateE n = 0 := by unfold dateE dateIn; rw [decide_eq_true ⟨h0, h1⟩]; rfl
/-! who is surely ahead -/
theorem ordN_cases (a b v w : Int) : (ordN a b v w = -1 ∧ v + w < (b - a) * 1000) ∨ (ordN a b v w = 1 ∧ ¬ v + w < (b - a) * 1000 ∧ v + w < -((b - a) * 1000)) ∨ (ordN a b v w = 0 ∧ ¬ v + w < (b - a) * 1000 ∧ ¬ v + w < -((b - a) * 1000)) := by
  unfold ordN
  split
  · exact .inl ⟨rfl, by assumption⟩
  · split
    · exact .inr (.inl ⟨rfl, by assumption, by assumption⟩)
    · exact .inr (.inr ⟨rfl, by assumption, by assumption⟩)
theorem ord_comm (a b s1 s2 s3 r1 r2 r3 : Int) : ordOk b a r1 r2 r3 s1 s2 s3 = ordOk a b s1 s2 s3 r1 r2 r3 := by
  unfold ordOk
  rw [Bool.and_comm (widOk s1 s2 s3)]
  congr 1
  simp only [decide_eq_decide]; omega
theorem ord_facts {a b s1 s2 s3 r1 r2 r3 : Int} (h : ordOk a b s1 s2 s3 r1 r2 r3 = true) : (0 ≤ a ∧ a ≤ 253402300799999 ∧ 0 ≤ b ∧ b ≤ 253402300799999) ∧ widOk s1 s2 s3 = true ∧ widOk r1 r2 r3 = true := by
  unfold ordOk at h
  simp only [Bool.and_eq_true] at h
  exact ⟨of_decide_eq_true h.1, h.2⟩
theorem wid_zero : widOk 0 0 0 = true ∧ widN 0 0 0 = 0 := ⟨by decide, by decide⟩
/-! whole seconds -/
theorem less_dgts : ∀ (f n m : Nat) (r r' : List UInt8), n < 10 ^ f → m < 10 ^ f → Op.bytesLess (dgts f n [] ++ r) (dgts f m [] ++ r') = if n = m then Op.bytesLess r r' else decide (n < m)
  | 0, n, m, r, r', hn, hm => by
    have h1 : n = 0 := by simpa using hn
    have h2 : m = 0 := by simpa using hm
    subst h1 h2
    rw [if_pos rfl]; rfl
  | f + 1, n, m, r, r', hn, hm => by
    rw [dgts_succ, dgts_succ, List.append_assoc, List.append_assoc, less_dgts f (n / 10) (m / 10) _ _ (by rw [Nat.pow_succ] at hn; omega) (by rw [Nat.pow_succ] at hm; omega)]
    rw [List.cons_append, List.cons_append, List.nil_append, List.nil_append, Op.bytesLess]
    have b1 := byte_48 (n % 10) (Nat.mod_lt _ (by decide))
    have b2 := byte_48 (m % 10) (Nat.mod_lt _ (by decide))
    by_cases e : n = m
    · subst e
      rw [if_pos rfl, if_pos rfl]
      simp
    · rw [if_neg e]
      by_cases e2 : n / 10 = m / 10
      · rw [if_pos e2]
        have hne : (UInt8.ofNat (48 + n % 10) == UInt8.ofNat (48 + m % 10)) = false := by
          refine beq_eq_false_iff_ne.2 fun q => ?_
          have := congrArg UInt8.toNat q
          rw [b1, b2] at this
          omega
        rw [hne, Bool.false_and, Bool.or_false]
        simp only [UInt8.lt_iff_toNat_lt, b1, b2]
        congr 1
        simp only [eq_iff_iff]; omega
      · rw [if_neg e2]
        congr 1
        simp only [eq_iff_iff]; omega
theorem C_less {y m m' d d' : Int} (h : m' < m) (h1 : 1 ≤ m') (h2 : m ≤ 12) (hd : 1 ≤ d) (hd' : d' ≤ Cal.long y m') : Cal.C y m' + d' < Cal.C y m + d := by
  have := Cal.lp_01 y
  unfold Cal.long at hd'
  unfold Cal.C
  have hm : m' = 1 ∨ m' = 2 ∨ m' = 3 ∨ m' = 4 ∨ m' = 5 ∨ m' = 6 ∨ m' = 7 ∨ m' = 8 ∨ m' = 9 ∨ m' = 10 ∨ m' = 11 := by omega
  rw [if_neg (show ¬ m = 1 by omega)]
  rcases hm with e | e | e | e | e | e | e | e | e | e | e <;> subst e <;> simp at hd' ⊢ <;> split <;> omega
theorem num_mono {t u y m d h i s x y' m' d' h' i' s' x' : Int} (p : PartsOk t y m d h i s x) (q : PartsOk u y' m' d' h' i' s' x') (hx : x = 0) (hx' : x' = 0) (hlt : t < u) : numN y m d h i s < numN y' m' d' h' i' s' := by
  have ⟨y0, y1⟩ := p.hy; have ⟨m0, m1⟩ := p.hm; have ⟨d0, dl⟩ := p.hd; have d1 := p.hd31; have ⟨h0, h1⟩ := p.hh; have ⟨i0, i1⟩ := p.hi; have ⟨s0, s1⟩ := p.hs
  have ⟨y0', y1'⟩ := q.hy; have ⟨m0', m1'⟩ := q.hm; have ⟨d0', dl'⟩ := q.hd; have d1' := q.hd31; have ⟨h0', h1'⟩ := q.hh; have ⟨i0', i1'⟩ := q.hi; have ⟨s0', s1'⟩ := q.hs
  have hp := p.sum; have hq := q.sum; have np := p.num; have nq := q.num
  by_cases e : t / 86400000 = u / 86400000
  · have a1 := p.ey; have a2 := p.em; have a3 := p.ed
    rw [e] at a1 a2 a3
    have b1 := a1.symm.trans q.ey; have b2 := a2.symm.trans q.em; have b3 := a3.symm.trans q.ed
    subst b1 b2 b3
    unfold numN
    omega
  · have hl : Cal.num y m d < Cal.num y' m' d' := by omega
    have r1 := Cal.C_range y m d m0 m1 d0 dl
    have r2 := Cal.C_range y' m' d' m0' m1' d0' dl'
    have s1 := Cal.Y_succ y
    have s2 := Cal.Y_succ y'
    have key : y < y' ∨ (y = y' ∧ (m < m' ∨ (m = m' ∧ d < d'))) := by
      unfold Cal.num at hl
      by_cases e1 : y' < y
      · have := Cal.Y_mono y' y e1
        omega
      · by_cases e2 : y = y'
        · subst e2
          refine .inr ⟨rfl, ?_⟩
          by_cases e3 : m' < m
          · have := C_less (y := y) e3 m0' m1 d0 dl'
            omega
          · by_cases e4 : m = m'
            · subst e4; exact .inr ⟨rfl, by omega⟩
            · exact .inl (by omega)
        · exact .inl (by omega)
    unfold numN
    omega
/-- A time of whole seconds. -/
theorem whole {t : Int} (h : tIn t = true) (h1 : t % 1000 = 0) : ∃ y m d hh i s, PartsOk t y m d hh i s 0 ∧ rgenS t = rdg (numN y m d hh i s) 14 ++ [90] := by
  obtain ⟨y, m, d, hh, i, s, x, p⟩ := parts h
  have hx : x = 0 := by have := p.ex; omega
  subst hx
  exact ⟨y, m, d, hh, i, s, p, by rw [rgenS_parts p, headN_eq p, frac0 rfl, List.append_nil]⟩
theorem rises_lt {t u : Int} (h : tIn t = true) (h' : tIn u = true) (h1 : t % 1000 = 0) (h1' : u % 1000 = 0) : Op.bytesLess (rgenS t) (rgenS u) = decide (t < u) := by
  obtain ⟨y, m, d, hh, i, s, p, e⟩ := whole h h1
  obtain ⟨y', m', d', hh', i', s', q, e'⟩ := whole h' h1'
  have hp := numN_rng p; have hq := numN_rng q
  have mono1 := fun hl : t < u => num_mono p q rfl rfl hl
  have mono2 := fun hl : u < t => num_mono q p rfl rfl hl
  rw [e, e']
  unfold rdg
  rw [show (14 : Int).toNat = 14 from rfl, less_dgts 14 _ _ _ _ (by omega) (by omega)]
  by_cases c1 : t < u
  · have := mono1 c1
    rw [if_neg (by omega), decide_eq_true c1, decide_eq_true (by omega)]
  · rw [decide_eq_false c1]
    by_cases c2 : u < t
    · have := mono2 c2
      rw [if_neg (by omega), decide_eq_false (by omega)]
    · have : t = u := by omega
      subst this
      have h2 := e.symm.trans e'
      have h3 := List.append_cancel_right h2
      have n1 := numR_rdg 14 hp.1 (by rw [tp14]; exact hp.2)
      have n2 := numR_rdg 14 hq.1 (by rw [tp14]; exact hq.2)
      have h3' : rdg (numN y m d hh i s) ((14 : Nat) : Int) = rdg (numN y' m' d' hh' i' s') ((14 : Nat) : Int) := h3
      rw [h3', n2] at n1
      rw [if_pos (by omega)]
      decide
theorem rises_eq {t u : Int} (h : tIn t = true) (h' : tIn u = true) : decide (rgenS t = rgenS u) = decide (t = u) := by
  congr 1
  simp only [eq_iff_iff]
  exact ⟨rgen_inj h h', fun e => by rw [e]⟩
theorem whole_len {t : Int} (h : tIn t = true) (h1 : t % 1000 = 0) : (rgenS t).length = 15 := by
  obtain ⟨y, m, d, hh, i, s, p, e⟩ := whole h h1
  rw [e, List.length_append, rdg_len]; rfl
theorem zeros2 : rdg 0 2 = [48, 48] := by decide +kernel
/-- A day's beginning. -/
theorem day_text {t : Int} (h : tIn t = true) : tIn (t - t % 86400000) = true ∧ (rgenS (t - t % 86400000)).take 8 = (rgenS t).take 8 ∧ (rgenS (t - t % 86400000)).drop 8 = [48, 48, 48, 48, 48, 48, 90] := by
  obtain ⟨y, m, d, hh, i, s, x, p⟩ := parts h
  have hs := p.sum
  have ht := tIn_of h
  have hn := p.num
  obtain ⟨u1, u2⟩ := unparts p.hy p.hm p.hd (h := 0) (i := 0) (s := 0) (x := 0) (by omega) (by omega) (by omega) (by omega)
  have e : t - t % 86400000 = Cal.num y m d * 86400000 + (3600 * 0 + 60 * 0 + 0) * 1000 + 0 := by
    rw [hn]; omega
  rw [← e] at u1 u2
  refine ⟨u1, ?_, ?_⟩
  · rw [rgenS_parts u2, rgenS_parts p]
    unfold headN
    have h8 : (rdg y 4 ++ rdg m 2 ++ rdg d 2).length = 8 := by simp only [List.length_append, rdg_l4, rdg_l2]
    generalize rdg y 4 ++ rdg m 2 ++ rdg d 2 = A at *
    simp only [List.append_assoc]
    rw [List.take_append_of_le_length (by omega), List.take_append_of_le_length (by omega)]
  · rw [rgenS_parts u2, frac0 rfl]
    unfold headN
    have h8 : (rdg y 4 ++ rdg m 2 ++ rdg d 2).length = 8 := by simp only [List.length_append, rdg_l4, rdg_l2]
    generalize rdg y 4 ++ rdg m 2 ++ rdg d 2 = A at *
    rw [zeros2]
    simp only [List.append_assoc]
    rw [List.drop_append, List.drop_of_length_le (by omega), h8]; rfl
end Go.Proofs.YtfbodageccednaaDoor.Oa

