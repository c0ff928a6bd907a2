/- What functions of the program, of its library and of the document compute: their contracts, and laws about what they compute (X11). No condition. -/
import Derived.Test.YtpajpkbipagjpaaGreatDoorX10
import Derived.Test.YtpajpkbipagjpaaGreatDoorX04
import Derived.Test.YtpajpkbipagjpaaGreatDoorX09
import Derived.Test.YtpajpkbipagjpaaGreatDoorX06
import Derived.Test.YtpajpkbipagjpaaGreatDoorX08
import Derived.Test.YtpajpkbipagjpaaGreatDoorRows
import Derived.WalkKit
import Derived.ProofKit
import Derived.OpenShut
import Derived.LaidLaws
import Derived.Lib.LaidTab
import Derived.Test.YtpajpkbipagjpaaGreatDoorX05
set_option linter.unusedVariables false
set_option linter.unusedSimpArgs false
namespace Go.Proofs.YtpajpkbipagjpaaGreatDoor.Oc
open Go Go.RowKit Go.Proofs.YtpajpkbipagjpaaGreatDoor.Vm Go.Proofs.YtpajpkbipagjpaaGreatDoor.Tr Go.IntWalk
set_option maxRecDepth 100000
set_option maxHeartbeats 4000000
theorem rint_size (q : Int) : rintB (sizeH q) = intB (sizeH q) := rint_eq (sizeH_in q).1 (sizeH_in q).2
theorem rsaN_at {q : Int} (h : ¬ sizeH q = 0) : ([[.str []], [.str [114, 115, 97, 50, 50, 52]], [.str [114, 115, 97, 50, 53, 54]], [.str [114, 115, 97, 51, 56, 52]], [.str [114, 115, 97, 53, 49, 50]]] : List (List Vm.Data)).getD q.toNat [] = [.str (rsaN q)] := by
  have hh : q = 1 ∨ q = 2 ∨ q = 3 ∨ q = 4 := by unfold sizeH at h; (repeat' split at h) <;> omega
  rcases hh with rfl | rfl | rfl | rfl <;> rfl
theorem sEr {w q : Int} (h : sizeH q = 0 ∨ ¬ w = 1 ∧ ¬ w = 2) : signT w q = T.zero ∧ signE w q = 200 := by
  by_cases h0 : sizeH q = 0
  · exact signT_0 h0
  · rcases h with h | ⟨h1, h2⟩
    · exact absurd h h0
    · exact signT_3 h0 h1 h2
theorem q_in {q : Int} (h : ¬ sizeH q = 0) : 0 ≤ q ∧ q < 5 := by unfold sizeH at h; (repeat' split at h) <;> omega
noncomputable def ΦRSg : Fns := tab [(12, rhalgF), (70, rsizeF), (65, rcnamedF), (66, rnullF), (64, rseqF), (71, rinF), (69, rintF)]
theorem ΦRSg_ok : Sound E ΦRSg := sound_cons (by kernel_rfl) rhalg_ok (sound_cons (by kernel_rfl) rsize_ok (sound_cons (by kernel_rfl) rcnamed_ok (sound_cons (by kernel_rfl) rnull_ok (sound_cons (by kernel_rfl) rseq_ok (sound_cons (by kernel_rfl) rin_ok (sound_cons (by kernel_rfl) rint_ok (sound_nil)))))))
@[go_sem] theorem ΦRSg_r : ΦRSg 12 = some rhalgF ∧ ΦRSg 70 = some rsizeF ∧ ΦRSg 65 = some rcnamedF ∧ ΦRSg 66 = some rnullF ∧ ΦRSg 64 = some rseqF ∧ ΦRSg 71 = some rinF ∧ ΦRSg 69 = some rintF := ⟨rfl, rfl, rfl, rfl, rfl, rfl, rfl⟩
@[go_sem] noncomputable def rsalgF : PFn := PF [SI .i64, SI .i64] (fun (w : Int) (q : Int) => True) (fun (w : Int) (q : Int) => [nodeD (signT w q), .int .i64 (signE w q)])
theorem rsalg_ok : Pure E 14 rsalgF := Pure.of_sig (rs := [.cell 4 25, .tmp 5]) (n := 61) Tryz.func14 rfl rfl rfl (Nat.le_of_ble_eq_true rfl) (by
 intro (w : Int) (q : Int) hds
 have hs := sizeH_in q
 have hn := nameH_len q
 have hq := hashT_sz q true
 have hb1 := namedB_len (rsaN q)
 have hb2 := namedB_len [112, 115, 115]
 have hb3 := namedB_len [109, 103, 102, 49]
 have hi := intB_len (sizeH q)
 refine st0 ?_
 refine rg ΦRSg_ok [0, 1, 4] szE ?_
 refine rg ΦRSg_ok [0, 1, 4, 6, 7] szE ?_
 refine rB ΦRSg_ok [0, 1, 4, 6, 26] szE fun K' hK => ?_
 repeat' first | (refine lf hK szE ?_; clear hK K') | with_reducible apply And.intro | refine sA szE (fun _ => ?_) fun _ => ?_ | refine sAb szE (fun _ => ?_) fun _ => ?_ | refine sAl szE (fun g => ?_) fun g => ?_ | exact sd | exact sde szE | exact sdp szE | refine stk szE ?_ | fail
 all_goals
  refine cn ?_ ?_
  · intro h; try exact absurd h (by decide)
    try (exfalso; (try simp only [Bool.not_eq_eq_eq_not, Bool.not_true, Bool.not_false, decide_eq_false_iff_not, decide_eq_true_eq] at *); omega)
    all_goals
     have hy := And.intro (sEr (w := w) (q := q) (by by_cases h0 : sizeH q = 0 <;> simp_all)) zeroE
     refine rg ΦRSg_ok [4, 5] szE ?_
     first
     | exact fz hy
  · intro h; try exact absurd h (by decide)
    try (exfalso; (try simp only [Bool.not_eq_eq_eq_not, Bool.not_true, Bool.not_false, decide_eq_false_iff_not, decide_eq_true_eq] at *); omega)
    all_goals
     have hz : ¬ sizeH q = 0 := by intro h0; simp_all
     have hl := hn.2 hz
     have hm := nm_eq hz
     have hm2 := nm_eq2
     refine rg ΦRSg_ok [1, 4, 6, 29] szE ?_
     refine cn ?_ ?_
     · intro h; try exact absurd h (by decide)
       try (exfalso; (try simp only [Bool.not_eq_eq_eq_not, Bool.not_true, Bool.not_false, decide_eq_false_iff_not, decide_eq_true_eq] at *); omega)
       all_goals
        have hq5 := q_in hz
        have hr := rsaN_at hz
        have hy := signT_1 hz (by assumption)
        refine rg ΦRSg_ok [4, 8] (And.intro hr szE) ?_
        refine rg ΦRSg_ok [4, 5] (And.intro hm szE) ?_
        first
        | exact fz hy
     · intro h; try exact absurd h (by decide)
       try (exfalso; (try simp only [Bool.not_eq_eq_eq_not, Bool.not_true, Bool.not_false, decide_eq_false_iff_not, decide_eq_true_eq] at *); omega)
       all_goals
        have hy := signT_2 hz (by assumption) (by omega)
        refine rdA ΦRSg_ok 4 9 25 [1, 4, 6, 9] (And.intro hm2 szE) ?_
        refine rg ΦRSg_ok [4, 6, 9, 10] (And.intro (rint_size q) szE) ?_
        refine rdA ΦRSg_ok 11 11 25 [4, 11] szE ?_
        refine rd ΦRSg_ok 4 [4, 5] (And.intro hm2 szE) ?_
        first
        | exact fz hy)
end Go.Proofs.YtpajpkbipagjpaaGreatDoor.Oc
namespace Go.Proofs.YtpajpkbipagjpaaGreatDoor.Oc
open Go Go.RowKit Go.Proofs.YtpajpkbipagjpaaGreatDoor.Vm Go.Proofs.YtpajpkbipagjpaaGreatDoor.Tr Go.IntWalk
set_option maxRecDepth 100000
set_option maxHeartbeats 4000000
noncomputable def ΦRV : Fns := tab [(14, rsalgF), (15, rsame0F)]
theorem ΦRV_ok : Sound E ΦRV := sound_cons (by kernel_rfl) rsalg_ok (sound_cons (by kernel_rfl) rsame0_ok (sound_nil))
@[go_sem] theorem ΦRV_r : ΦRV 14 = some rsalgF ∧ ΦRV 15 = some rsame0F := ⟨rfl, rfl⟩
@[go_sem] noncomputable def rrdsalgF : PFn := PF [ST] (fun (t : T) => t.sz ≤ 90000) (fun (t : T) => [.int .i64 (rdSW t), .int .i64 (rdSH t), .int .i64 (rdSE t)])
theorem rrdsalg_ok : Pure E 20 rrdsalgF := Pure.of_sig (rs := [.tmp 2, .tmp 3, .tmp 4]) (n := 30) Tryz.func20 rfl rfl rfl (Nat.le_of_ble_eq_true rfl) (by
 intro (t : T) hds
 refine st0 ?_
 refine rg ΦRV_ok [1] trE ?_
 refine rg ΦRV_ok [1, 5] trE ?_
 refine nx ?_
 refine VC.loopP (ι := Nat) [1] (fun i => [(5, .dat (.int .i64 (i : Int)))]) (fun _ => [(1, .cells [.dat (.int .i64 t.cls), .dat (.int .i64 t.tag), .dat (.bool t.cons), .dat (.lst (bytesD t.bytes)), .dat (.lst (nodesD t.kids))] false)]) (fun i => (1 ≤ i ∧ i ≤ 3) ∧ rdAt t i 1) (fun i => 3 - i) 1 (⟨by omega, rfl⟩) (ete trE) ?_
 rintro w hp; try dsimp only at hp
 have hpw := hp
 refine st0 ?_
 refine rg ΦRV_ok [1, 5, 11] trE ?_
 refine cn ?_ ?_
 · intro h; try exact absurd h (by decide)
   all_goals
    refine rg ΦRV_ok [1, 5, 6] trE ?_
    refine nx ?_
    refine VC.loopP (ι := Nat) [1, 5] (fun i => [(6, .dat (.int .i64 (i : Int)))]) (fun _ => [(1, .cells [.dat (.int .i64 t.cls), .dat (.int .i64 t.tag), .dat (.bool t.cons), .dat (.lst (bytesD t.bytes)), .dat (.lst (nodesD t.kids))] false)]) (fun i => (1 ≤ i ∧ i ≤ 5) ∧ rdAt t w i) (fun i => 5 - i) 1 (⟨by omega, hpw.2⟩) (ete trE) ?_
    rintro k hp; try dsimp only at hp
    refine st0 ?_
    refine rg ΦRV_ok [1, 5, 6, 15] trE ?_
    refine cn ?_ ?_
    · intro h; try exact absurd h (by decide)
      all_goals
       have hsz := signT_sz (w : Int) (k : Int)
       refine rg ΦRV_ok [1, 5, 6, 7] trE ?_
       refine rg ΦRV_ok [1, 5, 6, 9] trE ?_
       refine rg ΦRV_ok [1, 5, 6, 27] trE ?_
       refine cn ?_ ?_
       · intro h; try exact absurd h (by decide)
         all_goals
          have hy := rdAt_hit (by omega) (by omega) hp.2 (by simp_all)
          refine rg ΦRV_ok [2, 3, 4] trE ?_
          exact fz hy
       · intro h; try exact absurd h (by decide)
         all_goals
          refine rgL ΦRV_ok trE ?_
          refine nx ?_
          exact ⟨k + 1, ⟨by omega, rdAt_next (by omega) (by omega) hp.2 (by simp_all)⟩, ete trE, by omega⟩
    · intro h; try exact absurd h (by decide)
      all_goals
       refine rgL ΦRV_ok trE ?_
       refine nx ?_
       exact ⟨w + 1, ⟨by omega, rdAt_row (by rw [show 5 = k by omega]; exact hp.2)⟩, ete trE, by omega⟩
 · intro h; try exact absurd h (by decide)
   all_goals
    have hy := rdAt_fin (by omega) hp.2
    refine rg ΦRV_ok [2, 3, 4] trE ?_
    exact fz hy)
end Go.Proofs.YtpajpkbipagjpaaGreatDoor.Oc
namespace Go.Proofs.YtpajpkbipagjpaaGreatDoor.Oc
open Go Go.RowKit Go.Proofs.YtpajpkbipagjpaaGreatDoor.Vm Go.Proofs.YtpajpkbipagjpaaGreatDoor.Tr Go.IntWalk
set_option maxRecDepth 100000
set_option maxHeartbeats 4000000
theorem eqT : (∀ t : T, (t = t) = True) ∧ decide True = true ∧ (∀ i : Int, (i = i) = True) ∧ (∀ b : Bool, (b = b) = True) := ⟨fun _ => eq_self _, rfl, fun _ => eq_self _, fun _ => eq_self _⟩
theorem sz_le {t : T} (h : decide (5000 < t.sz) = false) : t.sz ≤ 5000 := by have := of_decide_eq_false h; omega
noncomputable def ΦLA : Fns := tab [(10, wideF), (11, halgF), (12, rhalgF), (13, salgF), (14, rsalgF), (15, rsame0F), (16, twin0F), (17, rdhalgF), (18, rrdhalgF), (19, rdsalgF), (20, rrdsalgF)]
theorem ΦLA_ok : Sound E ΦLA := sound_cons (by kernel_rfl) wide_ok (sound_cons (by kernel_rfl) halg_ok (sound_cons (by kernel_rfl) rhalg_ok (sound_cons (by kernel_rfl) salg_ok (sound_cons (by kernel_rfl) rsalg_ok (sound_cons (by kernel_rfl) rsame0_ok (sound_cons (by kernel_rfl) twin0_ok (sound_cons (by kernel_rfl) rdhalg_ok (sound_cons (by kernel_rfl) rrdhalg_ok (sound_cons (by kernel_rfl) rdsalg_ok (sound_cons (by kernel_rfl) rrdsalg_ok (sound_nil)))))))))))
@[go_sem] theorem ΦLA_r : ΦLA 10 = some wideF ∧ ΦLA 11 = some halgF ∧ ΦLA 12 = some rhalgF ∧ ΦLA 13 = some salgF ∧ ΦLA 14 = some rsalgF ∧ ΦLA 15 = some rsame0F ∧ ΦLA 16 = some twin0F ∧ ΦLA 17 = some rdhalgF ∧ ΦLA 18 = some rrdhalgF ∧ ΦLA 19 = some rdsalgF ∧ ΦLA 20 = some rrdsalgF := ⟨rfl, rfl, rfl, rfl, rfl, rfl, rfl, rfl, rfl, rfl, rfl⟩
@[go_sem] noncomputable def lalgsF : PFn := PF [SI .i64, SI .i64, SB, ST] (fun (w : Int) (q : Int) (nl : Bool) (t : T) => t.sz ≤ 1048576) (fun (w : Int) (q : Int) (nl : Bool) (t : T) => [.bool true])
theorem lalgs_ok : Pure E 3 lalgsF := Pure.of_sig (rs := [.tmp 8]) (n := 135) Tryz.func3 rfl rfl rfl (Nat.le_of_ble_eq_true rfl) (by
 intro (w : Int) (q : Int) (nl : Bool) (t : T) hds
 have hq1 := hashT_sz q nl
 have hq2 := signT_sz w q
 refine st0 ?_
 refine rg ΦLA_ok [0, 1, 2, 7] (And.intro trE eqT) ?_
 refine rg ΦLA_ok [0, 1, 2, 7, 31] (And.intro trE eqT) ?_
 refine cn ?_ ?_
 · intro h; try exact absurd h (by decide)
   all_goals
    refine rg ΦLA_ok [8] (And.intro trE eqT) ?_
    first
    | exact fz (And.intro trE eqT)
 · intro h; try exact absurd h (by decide)
   all_goals
    have hw : t.sz ≤ 5000 := sz_le (by simp_all)
    refine rg ΦLA_ok [0, 1, 2, 7, 9, 10] (And.intro trE eqT) ?_
    refine rg ΦLA_ok [0, 1, 7, 9, 10, 11, 12] (And.intro trE eqT) ?_
    refine rg ΦLA_ok [0, 1, 7, 9, 10, 11, 12, 13, 14] (And.intro trE eqT) ?_
    refine rg ΦLA_ok [7, 9, 10, 11, 12, 13, 14, 15, 16] (And.intro trE eqT) ?_
    refine rB ΦLA_ok [7, 75] (And.intro trE eqT) fun K' hK => ?_
    repeat' first | (refine lf hK (And.intro trE eqT) ?_; clear hK K') | with_reducible apply And.intro | refine sA (And.intro trE eqT) (fun _ => ?_) fun _ => ?_ | refine sAb (And.intro trE eqT) (fun _ => ?_) fun _ => ?_ | refine sAl (And.intro trE eqT) (fun g => ?_) fun g => ?_ | exact sd | exact sde (And.intro trE eqT) | exact sdp (And.intro trE eqT) | refine stk (And.intro trE eqT) ?_ | fail
    all_goals
     refine cn ?_ ?_
     · intro h; try exact absurd h (by decide)
       all_goals
        refine rg ΦLA_ok [8] (And.intro trE eqT) ?_
        first
        | exact fz (And.intro trE eqT)
     · intro h; try exact absurd h (by decide)
       all_goals
        refine rg ΦLA_ok [7, 17] (And.intro trE eqT) ?_
        refine rg ΦLA_ok [7, 17, 18, 19, 20] (And.intro trE eqT) ?_
        refine rg ΦLA_ok [7, 17, 18, 19, 20, 21, 22, 23] (And.intro trE eqT) ?_
        refine rg ΦLA_ok [7, 17, 18, 19, 20, 21, 22, 23, 24, 25, 26] (And.intro trE eqT) ?_
        refine rg ΦLA_ok [7, 17, 18, 19, 20, 21, 22, 23, 24, 25, 26, 27, 28, 29] (And.intro trE eqT) ?_
        refine rB ΦLA_ok [8] (And.intro trE (And.intro eqT (rr_eq t))) fun K' hK => ?_
        repeat' first | (refine lf hK (And.intro trE (And.intro eqT (rr_eq t))) ?_; clear hK K') | with_reducible apply And.intro | refine sA (And.intro trE (And.intro eqT (rr_eq t))) (fun _ => ?_) fun _ => ?_ | refine sAb (And.intro trE (And.intro eqT (rr_eq t))) (fun _ => ?_) fun _ => ?_ | refine sAl (And.intro trE (And.intro eqT (rr_eq t))) (fun g => ?_) fun g => ?_ | exact sd | exact sde (And.intro trE (And.intro eqT (rr_eq t))) | exact sdp (And.intro trE (And.intro eqT (rr_eq t))) | refine stk (And.intro trE (And.intro eqT (rr_eq t))) ?_ | fail
        all_goals
         first
         | exact fz (And.intro trE eqT))
end Go.Proofs.YtpajpkbipagjpaaGreatDoor.Oc
namespace Go.Proofs.YtpajpkbipagjpaaGreatDoor.Oc
open Go Go.RowKit Go.Proofs.YtpajpkbipagjpaaGreatDoor.Vm Go.ChangeShapes Go.WideShapes Go.Proofs.YtpajpkbipagjpaaGreatDoor
set_option maxRecDepth 100000
set_option maxHeartbeats 4000000
theorem laid_get {P : Program} {W : World} : ∀ (l : List (String × DataW Unit)) (ps : List MemPlace), DataW.LaidVars P W l ps → ∀ n d, (n, d) ∈ l →
    ∃ g t cs fuel p, P.globalNamed n = some g ∧ (P.globals[g]?).map (·.type) = some t ∧ W.var? P n = some cs ∧ DataW.trod (fun _ => ()) P W 0 (fun _ => true) false fuel t cs.toList = some (d, p) ∧ ∀ x ∈ MemPlace.row ⟨g, 0, none⟩ cs.size, x ∈ ps
  | [], ps, h, n, d, hm => absurd hm List.not_mem_nil
  | (n0, d0) :: r, ps, h, n, d, hm => by
    obtain ⟨g, t, cs, fuel, p, q, h1, h2, h3, h4, h5, h6⟩ := h
    rcases List.mem_cons.1 hm with e | e
    · injection e with e1 e2
      subst e1 e2
      exact ⟨g, t, cs, fuel, p, h1, h2, h3, h4, fun x hx => by rw [h6]; simp [hx]⟩
    · obtain ⟨g', t', cs', fuel', p', a1, a2, a3, a4, a5⟩ := laid_get r q h5 n d e
      exact ⟨g', t', cs', fuel', p', a1, a2, a3, a4, fun x hx => by rw [h6]; simp [a5 x hx]⟩
theorem lt_cell {W : World} {b o : Nat} {v : Value} (h : W.cell? ⟨b, o, none⟩ = some v) : b < W.heap.size := by
  rcases Nat.lt_or_ge b W.heap.size with h' | h'
  · exact h'
  · simp [World.cell?, Array.getElem?_eq_none h'] at h
theorem glob_tab {l : List (String × DataW Unit)} {W : World} (h : laidMet Tryz.prog l W) (n : String) (g0 t e N : Nat) (k : IntKind) (L : List Int) (lay : DataW Unit) (hm : (n, lay) ∈ l) (h1 : Tryz.prog.globalNamed n = some g0) (h2 : (Tryz.prog.globals[g0]?).map (·.type) = some t)
    (he : lay = Lib.tabData k L) (ha : Tryz.prog.underlying t = some (.array N e)) (hu : Tryz.prog.underlying e = some (.int k)) (hce : Tryz.prog.cellsOf e = 1) (hct : Tryz.prog.cellsOf t = N) : RC W (All W) (L.map fun z => .int k z) g0 0 := by
  obtain ⟨ps, hl, _, _⟩ := h
  obtain ⟨g, t', cs, fuel, p, hg, ht, hv, hd, _⟩ := laid_get l ps hl _ _ hm
  obtain rfl := Option.some.inj (h1.symm.trans hg)
  obtain rfl := Option.some.inj (h2.symm.trans ht)
  rw [he] at hd
  have hcs := Lib.cells_of_tab (P := Tryz.prog) ha hu hce hct hd
  refine RC.mk fun j d hj => ?_
  rw [List.getElem?_map] at hj
  obtain ⟨z, hz, rfl⟩ := Option.map_eq_some_iff.1 hj
  have hc : W.cell? ⟨g0, 0 + j, none⟩ = some (.int k z) := by
    rw [Nat.zero_add, World.var?_cell hg hv j, ← Array.getElem?_toList, hcs, List.getElem?_map, hz]; rfl
  exact ⟨_, hc, lt_cell hc, rfl, by simp only [RV]⟩
theorem nm_star : "*" ++ "errors.errorString" = "*errors.errorString" := by decide
theorem nm_row (u : TypeId) (h : Tryz.prog.typeName? 3 u = some "*errors.errorString") : u = 351 :=
  typeName_ptr_named (nm := "errors.errorString") (by rw [nm_star]; kernel_rfl) (by kernel_rfl) (by decide) u (by rw [nm_star]; exact h)
theorem es_under : ∃ f : Field, Tryz.prog.underlying 353 = some (.struct #[f]) ∧ f.type = 9 ∧ f.offset = 0 := ⟨_, Tryz.underlying353, rfl, rfl⟩
theorem err_iface : ∃ ms, Tryz.prog.underlying 198 = some (.interface ms) := ⟨_, Tryz.underlying198⟩
theorem glob_err {l : List (String × DataW Unit)} {W : World} (h : laidMet Tryz.prog l W) (n : String) (g0 : Nat) (text : List UInt8) (hm : (n, (.iface "*errors.errorString" (.ptr (.agg [.lit (.string text)])) : DataW Unit)) ∈ l)
    (h1 : Tryz.prog.globalNamed n = some g0) (h2 : (Tryz.prog.globals[g0]?).map (·.type) = some 198) : RC W (All W) [errD] g0 0 := by
  obtain ⟨ps, hl, hnd, hrows⟩ := h
  obtain ⟨g, t, cs, fuel, p, hg, ht, hv, hd, hin⟩ := laid_get l ps hl _ _ hm
  obtain rfl := Option.some.inj (h1.symm.trans hg)
  obtain rfl := Option.some.inj (h2.symm.trans ht)
  obtain ⟨f, hf1, hf2, hf3⟩ := es_under
  obtain ⟨ms, hms⟩ := err_iface
  have ok : ∀ u v, cs.toList = [.iface u v] → Value.okWide Tryz.prog W .any 0 u v := fun u v e => by
    have hc := World.var?_cell hg hv 0
    rw [← Array.getElem?_toList, e] at hc
    have hsz : 0 < cs.size := by rw [← Array.length_toList, e]; simp
    exact (hrows g0 0 (hin _ (by simp [MemPlace.row]; exact hsz))).2 u v (by simpa using hc)
  obtain ⟨a, s, e1, hc1, _, _, _⟩ := errorString_of_trod hms nm_row Tryz.underlying351 hf1 hf2 hf3 Tryz.underlying9 (by kernel_rfl) (by kernel_rfl) hd ok
  have hc := World.var?_cell hg hv 0
  rw [← Array.getElem?_toList, e1] at hc
  have hc : W.cell? ⟨g0, 0, none⟩ = some (.iface 351 (.pointer (some a))) := by simpa using hc
  have ha : a = ⟨a.block, a.off, none⟩ := by
    obtain ⟨b, off, sp⟩ := a
    cases sp with
    | none => rfl
    | some x =>
      unfold World.cell? at hc1
      split at hc1
      · simp at hc1
      · cases hc1
  simp only [RC, errD, RV]
  refine ⟨⟨_, hc, lt_cell hc, rfl, _, rfl, a.block, a.off, ?_, trivial⟩, trivial⟩
  rw [← ha]
theorem glob_known {l : List (String × DataW Unit)} {W : World} (h : laidMet Tryz.prog l W) (hm : ("postmark/oid.known", (Rows.laid_postmark_oid_known : DataW Unit)) ∈ l) : RC W (All W) (knownCs knownP) 1 0 := by
  obtain ⟨ps, hl, _, _⟩ := h
  obtain ⟨g, t, cs, fuel, p, hg, ht, hv, hd, _⟩ := laid_get l ps hl _ _ hm
  obtain rfl := Option.some.inj ((show Tryz.prog.globalNamed "postmark/oid.known" = some 1 by kernel_rfl).symm.trans hg)
  obtain rfl := Option.some.inj ((show (Tryz.prog.globals[1]?).map (·.type) = some 150 by kernel_rfl).symm.trans ht)
  have e : (Rows.laid_postmark_oid_known : DataW Unit) = .agg (knownP.map fun x => .agg [.lit (.string x.1), .lit (.string x.2)]) := by kernel_rfl
  rw [e] at hd
  obtain ⟨xs, m, rfl, hx, hlen, hn, hel⟩ := DataW.trod_array (n := 26) (e := 149) Tryz.underlying150 hd
  have c73 : Tryz.prog.cellsOf 149 = 2 := by kernel_rfl
  have c9 : Tryz.prog.cellsOf 9 = 1 := by kernel_rfl
  have hx1 : xs.map (·.1) = knownP.map fun x => .agg [.lit (.string x.1), .lit (.string x.2)] := by
    simp only [Prod.mk.injEq, DataW.agg.injEq] at hx; exact hx.1.symm
  have at2 : ∀ i, i < 26 → W.cell? ⟨1, 2 * i, none⟩ = some (.string ⟨(kn i).toArray⟩) ∧ W.cell? ⟨1, 2 * i + 1, none⟩ = some (.string ⟨(kt i).toArray⟩) := by
    intro i hi
    have h1 := hel i hi
    rw [c73] at h1
    have hxi : (xs.map (·.1))[i]? = some (.agg [.lit (.string (kn i)), .lit (.string (kt i))]) := by
      have hk : i < knownP.length := by rw [knownP_len]; exact hi
      rw [hx1, List.getElem?_map, List.getElem?_eq_getElem hk]
      simp only [Option.map_some, kn, kt, List.getD_eq_getElem?_getD, List.getElem?_eq_getElem hk, Option.getD_some]
    rw [List.getElem?_map] at hxi
    obtain ⟨y, hy1, hy2⟩ := Option.map_eq_some_iff.1 hxi
    rw [hy1] at h1
    obtain ⟨ys, m2, rfl, hy, hyl, hyn, hyel⟩ := DataW.trod_array (n := 2) (e := 9) Tryz.underlying149 h1
    have hys : ys.map (·.1) = [.lit (.string (kn i)), .lit (.string (kt i))] := by
      rw [hy] at hy2; simpa using hy2
    have one : ∀ j s, j < 2 → (ys.map (·.1))[j]? = some (.lit (.string s)) → W.cell? ⟨1, 2 * i + j, none⟩ = some (.string ⟨s.toArray⟩) := by
      intro j s hj hs
      have h2 := hyel j hj
      rw [c9] at h2
      rw [List.getElem?_map] at hs
      obtain ⟨z, hz1, hz2⟩ := Option.map_eq_some_iff.1 hs
      rw [hz1] at h2
      obtain ⟨b, hb1, hb2, _⟩ := DataW.trod_string Tryz.underlying9 h2
      rw [hb2] at hz2
      simp only [DataW.lit.injEq, Lit.string.injEq] at hz2
      have hb3 : b = ⟨s.toArray⟩ := by rw [← hz2]
      rw [World.var?_cell hg hv (2 * i + j), ← Array.getElem?_toList, ← hb3]
      have h0 : ((((cs.toList.drop (i * 2)).take 2).drop (j * 1)).take 1)[0]? = some (.string b) := by rw [hb1]; rfl
      rw [List.getElem?_take, if_pos (by decide), List.getElem?_drop, List.getElem?_take, if_pos (by omega), List.getElem?_drop] at h0
      rw [show 2 * i + j = i * 2 + (j * 1 + 0) by omega]
      exact h0
    refine ⟨?_, one 1 (kt i) (by decide) (by rw [hys]; rfl)⟩
    have := one 0 (kn i) (by decide) (by rw [hys]; rfl)
    rw [Nat.add_zero] at this
    exact this
  refine RC.mk fun j d hj => ?_
  have hj2 : j < 52 := by
    rcases Nat.lt_or_ge j 52 with h' | h'
    · exact h'
    · rw [List.getElem?_eq_none (by rw [knownCs_len]; exact h')] at hj; cases hj
  have hd2 := known_at (show j / 2 < 26 by omega)
  have hg2 : (knownCs knownP)[j]? = (((knownCs knownP).drop (j / 2 * 2)).take 2)[j % 2]? := by
    rw [List.getElem?_take, if_pos (Nat.mod_lt _ (by decide)), List.getElem?_drop]
    congr 1; omega
  rw [hg2, hd2] at hj
  obtain ⟨a1, a2⟩ := at2 (j / 2) (by omega)
  rw [Nat.zero_add]
  rcases Nat.mod_two_eq_zero_or_one j with h0 | h0
  · rw [h0] at hj
    simp only [List.getElem?_cons_zero, Option.some.injEq] at hj
    subst hj
    rw [show 2 * (j / 2) = j by omega] at a1
    exact ⟨_, a1, lt_cell a1, rfl, by simp only [RV]⟩
  · rw [h0] at hj
    simp only [List.getElem?_cons_succ, List.getElem?_cons_zero, Option.some.injEq] at hj
    subst hj
    rw [show 2 * (j / 2) + 1 = j by omega] at a2
    exact ⟨_, a2, lt_cell a2, rfl, by simp only [RV]⟩
theorem f349 : ∃ f0 f1 : Field, Tryz.prog.underlying 349 = some (.struct #[f0, f1]) ∧ f0.type = 5 ∧ f1.type = 5 ∧ f0.offset = 0 ∧ f1.offset = 1 := ⟨_, _, Tryz.underlying349, rfl, rfl, rfl, rfl⟩
def accP : List (Int × Int) := [(128, 191), (160, 191), (128, 159), (144, 191), (128, 143)] ++ List.replicate 11 (0, 0)
theorem accP_eq : acceptD = accP.flatMap fun x => [.int .u8 x.1, .int .u8 x.2] := by rfl
theorem acc_at {j : Nat} {d : Vm.Data} (h : acceptD[j]? = some d) : ∃ i x, accP[i]? = some x ∧ (j = 2 * i ∧ d = .int .u8 x.1 ∨ j = 2 * i + 1 ∧ d = .int .u8 x.2) := by
  rw [accP_eq] at h
  generalize accP = l at h
  induction l generalizing j with
  | nil => simp at h
  | cons x l ih =>
    match j, h with
    | 0, h => exact ⟨0, x, rfl, .inl ⟨rfl, by simpa using h.symm⟩⟩
    | 1, h => exact ⟨0, x, rfl, .inr ⟨rfl, by simpa using h.symm⟩⟩
    | j + 2, h =>
      obtain ⟨i, y, h1, h2⟩ := ih (j := j) (by simpa using h)
      exact ⟨i + 1, y, by simpa using h1, h2.elim (fun h => .inl ⟨by omega, h.2⟩) fun h => .inr ⟨by omega, h.2⟩⟩
theorem glob_accept {l : List (String × DataW Unit)} {W : World} (h : laidMet Tryz.prog l W) (hm : ("unicode/utf8.acceptRanges", (Rows.laid_unicode_utf8_acceptRanges : DataW Unit)) ∈ l) : RC W (All W) acceptD 7 0 := by
  obtain ⟨ps, hl, _, _⟩ := h
  obtain ⟨g, t, cs, fuel, p, hg, ht, hv, hd, _⟩ := laid_get l ps hl _ _ hm
  obtain rfl := Option.some.inj ((show Tryz.prog.globalNamed "unicode/utf8.acceptRanges" = some 7 by kernel_rfl).symm.trans hg)
  obtain rfl := Option.some.inj ((show (Tryz.prog.globals[7]?).map (·.type) = some 350 by kernel_rfl).symm.trans ht)
  have e : (Rows.laid_unicode_utf8_acceptRanges : DataW Unit) = .agg (accP.map fun x => .agg [.lit (.int .u8 x.1), .lit (.int .u8 x.2)]) := by kernel_rfl
  rw [e] at hd
  obtain ⟨xs, m, rfl, hx, hlen, hn, hel⟩ := DataW.trod_array (n := 16) (e := 349) Tryz.underlying350 hd
  have c1 : Tryz.prog.cellsOf 349 = 2 := by kernel_rfl
  have c2 : Tryz.prog.cellsOf 5 = 1 := by kernel_rfl
  have hx1 : xs.map (·.1) = accP.map fun x => .agg [.lit (.int .u8 x.1), .lit (.int .u8 x.2)] := by
    simp only [Prod.mk.injEq, DataW.agg.injEq] at hx; exact hx.1.symm
  obtain ⟨f0, f1, hu, t0, t1, o0, o1⟩ := f349
  have at2 : ∀ i x, accP[i]? = some x → W.cell? ⟨7, 2 * i, none⟩ = some (.int .u8 x.1) ∧ W.cell? ⟨7, 2 * i + 1, none⟩ = some (.int .u8 x.2) := by
    intro i x hxi0
    have hi : i < 16 := by
      have := (List.getElem?_eq_some_iff.1 hxi0).1
      rwa [show accP.length = 16 by decide] at this
    have h1 := hel i hi
    rw [c1] at h1
    have hxi : (xs.map (·.1))[i]? = some (.agg [.lit (.int .u8 x.1), .lit (.int .u8 x.2)]) := by
      rw [hx1, List.getElem?_map, hxi0]; rfl
    rw [List.getElem?_map] at hxi
    obtain ⟨y, hy1, hy2⟩ := Option.map_eq_some_iff.1 hxi
    rw [hy1] at h1
    obtain ⟨y0, y1, n', rfl, hl', a0, a1⟩ := trod_struct2 hu h1
    simp only [DataW.agg.injEq, List.cons.injEq, and_true] at hy2
    rw [t0, o0, c2] at a0
    rw [t1, o1, c2] at a1
    obtain ⟨z0, b0, rfl, _⟩ := DataW.trod_int Tryz.underlying5 a0
    obtain ⟨z1, b1, rfl, _⟩ := DataW.trod_int Tryz.underlying5 a1
    simp only [DataW.lit.injEq, Lit.int.injEq, true_and] at hy2
    obtain ⟨rfl, rfl⟩ := hy2
    refine ⟨?_, ?_⟩
    · rw [World.var?_cell hg hv (2 * i), ← Array.getElem?_toList]
      have h0 : ((((cs.toList.drop (i * 2)).take 2).drop 0).take 1)[0]? = some (.int .u8 x.1) := by rw [b0]; rfl
      rw [List.getElem?_take, if_pos (by decide), List.getElem?_drop, List.getElem?_take, if_pos (by omega), List.getElem?_drop] at h0
      rw [show 2 * i = i * 2 + (0 + 0) by omega]
      exact h0
    · rw [World.var?_cell hg hv (2 * i + 1), ← Array.getElem?_toList]
      have h0 : ((((cs.toList.drop (i * 2)).take 2).drop 1).take 1)[0]? = some (.int .u8 x.2) := by rw [b1]; rfl
      rw [List.getElem?_take, if_pos (by decide), List.getElem?_drop, List.getElem?_take, if_pos (by omega), List.getElem?_drop] at h0
      rw [show 2 * i + 1 = i * 2 + (1 + 0) by omega]
      exact h0
  refine RC.mk fun j d hj => ?_
  obtain ⟨i, x, hi, hh⟩ := acc_at hj
  obtain ⟨a1, a2⟩ := at2 i x hi
  rw [Nat.zero_add]
  rcases hh with ⟨rfl, rfl⟩ | ⟨rfl, rfl⟩
  · exact ⟨_, a1, lt_cell a1, rfl, by simp only [RV]⟩
  · exact ⟨_, a2, lt_cell a2, rfl, by simp only [RV]⟩
theorem powD_eq : powD = ((List.range 20).map fun j => ((10 ^ j : Nat) : Int)).map fun z => .int .u64 z := by rw [List.map_map]; rfl
theorem firstD_eq : firstD = ((List.range 256).map fun j => (fstU j : Int)).map fun z => .int .u8 z := by rw [List.map_map]; rfl
theorem glob_of {l : List (String × DataW Unit)} {W : World} (h : laidMet Tryz.prog l W) (h1 : ("internal/strconv.uint64pow10", (Rows.laid_internal_strconv_uint64pow10 : DataW Unit)) ∈ l) (h2 : ("strconv.ErrRange", (Rows.laid_strconv_ErrRange : DataW Unit)) ∈ l) (h3 : ("strconv.ErrSyntax", (Rows.laid_strconv_ErrSyntax : DataW Unit)) ∈ l)
    (h4 : ("postmark/oid.known", (Rows.laid_postmark_oid_known : DataW Unit)) ∈ l) (h5 : ("postmark/mask.sizes", (Rows.laid_postmark_mask_sizes : DataW Unit)) ∈ l) (h6 : ("unicode/utf8.first", Rows.laid_unicode_utf8_first) ∈ l) (h7 : ("unicode/utf8.acceptRanges", (Rows.laid_unicode_utf8_acceptRanges : DataW Unit)) ∈ l) : Glob E W (All W) := by
  intro g cs hg
  have hg : Gl g = some cs := hg
  match g, hg with
  | 1, hg => injection hg with hg; rw [← hg]; exact glob_known h h4
  | 2, hg => injection hg with hg; rw [← hg]; exact glob_tab h "postmark/mask.sizes" 2 212 3 5 .i64 [0, 224, 256, 384, 512] _ h5 (by kernel_rfl) (by kernel_rfl) rfl Tryz.underlying212 Tryz.underlying3 (by kernel_rfl) (by kernel_rfl)
  | 3, hg => injection hg with hg; rw [← hg]; exact glob_err h "strconv.ErrSyntax" 3 _ h3 (by kernel_rfl) (by kernel_rfl)
  | 4, hg => injection hg with hg; rw [← hg]; exact glob_err h "strconv.ErrRange" 4 _ h2 (by kernel_rfl) (by kernel_rfl)
  | 5, hg => injection hg with hg; rw [← hg, powD_eq]; exact glob_tab h "internal/strconv.uint64pow10" 5 323 158 20 .u64 _ _ h1 (by kernel_rfl) (by kernel_rfl) (by kernel_rfl) Tryz.underlying323 Tryz.underlying158 (by kernel_rfl) (by kernel_rfl)
  | 6, hg => injection hg with hg; rw [← hg, firstD_eq]; exact glob_tab h "unicode/utf8.first" 6 347 5 256 .u8 _ _ h6 (by kernel_rfl) (by kernel_rfl) (by kernel_rfl) Tryz.underlying347 Tryz.underlying5 (by kernel_rfl) (by kernel_rfl)
  | 7, hg => injection hg with hg; rw [← hg]; exact glob_accept h h7
end Go.Proofs.YtpajpkbipagjpaaGreatDoor.Oc
namespace Go.Proofs.YtpajpkbipagjpaaGreatDoor.Tr
open Go Go.RowKit Go.Proofs.YtpajpkbipagjpaaGreatDoor.Vm
section
variable {P : Program} {t : TypeId} {n : Nat} {ds : List Vm.Data}
theorem CT_bool (h : P.underlying t = some .bool) (c : CT P n t ds) : ∃ b, ds = [.bool b] := by
  cases n with
  | zero => exact c.elim
  | succ n => rw [CT, h] at c; exact c
theorem CT_int {k : IntKind} (h : P.underlying t = some (.int k)) (c : CT P n t ds) : ∃ i, ds = [.int k i] ∧ (Lit.int k i).wf = true := by
  cases n with
  | zero => exact c.elim
  | succ n => rw [CT, h] at c; exact c
theorem CT_str (h : P.underlying t = some .string) (c : CT P n t ds) : ∃ s, ds = [.str s] ∧ s.length ≤ maxLen := by
  cases n with
  | zero => exact c.elim
  | succ n => rw [CT, h] at c; exact c
theorem CT_slice {e : TypeId} (h : P.underlying t = some (.slice e)) (c : CT P n t ds) : ∃ m xs, n = m + 1 ∧ ds = [.lst xs] ∧ xs.length ≤ maxLen ∧ ∀ x ∈ xs, CT P m e x := by
  cases n with
  | zero => exact c.elim
  | succ n =>
    rw [CT, h] at c
    obtain ⟨xs, h1, h2, h3⟩ := c
    exact ⟨n, xs, rfl, h1, h2, h3⟩
theorem CT_struct {fs : Array Field} (h : P.underlying t = some (.struct fs)) (c : CT P n t ds) : ∃ m, n = m + 1 ∧ ds.length = P.cellsOf t ∧ ∀ f ∈ fs.toList, CT P m f.type ((ds.drop f.offset).take (P.cellsOf f.type)) := by
  cases n with
  | zero => exact c.elim
  | succ n =>
    rw [CT, h] at c
    exact ⟨n, rfl, c⟩
theorem CT_array {k : Nat} {e : TypeId} (h : P.underlying t = some (.array k e)) (c : CT P n t ds) : ∃ m, n = m + 1 ∧ ds.length = P.cellsOf t ∧ ∀ i, i < k → CT P m e ((ds.drop (i * P.cellsOf e)).take (P.cellsOf e)) := by
  cases n with
  | zero => exact c.elim
  | succ n =>
    rw [CT, h] at c
    exact ⟨n, rfl, c⟩
theorem bytes_rows {e : TypeId} (he : P.underlying e = some (.int .u8)) : ∀ (xs : List (List Vm.Data)), (∀ x ∈ xs, CT P n e x) → ∃ l : List UInt8, xs = bytesD l
  | [], _ => ⟨[], rfl⟩
  | x :: xs, h => by
    obtain ⟨i, rfl, hi⟩ := CT_int he (h x (by simp))
    obtain ⟨l, rfl⟩ := bytes_rows he xs fun y hy => h y (by simp [hy])
    obtain ⟨m, hm, _⟩ := bytes_of [i] (by simpa using hi)
    have : ∃ b : UInt8, m = [b] := by
      cases m with
      | nil => simp [bytesD] at hm
      | cons b m => cases m with
        | nil => exact ⟨b, rfl⟩
        | cons => simp [bytesD] at hm
    obtain ⟨b, rfl⟩ := this
    refine ⟨b :: l, ?_⟩
    simp only [List.map_cons, List.map_nil, bytesD, List.cons.injEq, and_true] at hm ⊢
    exact hm
theorem CT_bytes {e : TypeId} (h : P.underlying t = some (.slice e)) (he : P.underlying e = some (.int .u8)) (c : CT P n t ds) : ∃ l : List UInt8, ds = [.lst (bytesD l)] := by
  obtain ⟨m, xs, _, rfl, _, hx⟩ := CT_slice h c
  obtain ⟨l, rfl⟩ := bytes_rows he xs hx
  exact ⟨l, rfl⟩
theorem len5 {α : Type} {l : List α} (h : l.length = 5) : ∃ a b c d e, l = [a, b, c, d, e] := by
  match l, h with
  | [a, b, c, d, e], _ => exact ⟨a, b, c, d, e, rfl⟩
theorem bk_bytes (s : List UInt8) : bkE (bytesD s) = s.length := by
  induction s with
  | nil => rfl
  | cons b s ih =>
    have : bytesD (b :: s) = [.int .u8 (b.toNat : Int)] :: bytesD s := rfl
    rw [this, bkE, ih, List.length_cons]
    simp only [bkC, bk]; omega
theorem bk_nodes (n : Nat) : ∀ l : List T, T.szs l ≤ n → bkE (nodesD l) = T.szs l := by
  induction n with
  | zero => intro l h; cases l with
    | nil => rw [nodesD_nil, bkE, T.szs_nil]
    | cons t l => rw [T.szs_cons, T.sz_eq t] at h; omega
  | succ n ih => intro l h; cases l with
    | nil => rw [nodesD_nil, bkE, T.szs_nil]
    | cons t l =>
      rw [T.szs_cons, T.sz_eq t] at h
      rw [nodesD_cons, bkE, ih l (by omega), T.szs_cons, nodeC_eq, T.sz_eq t]
      simp only [bkC, bk, bk_bytes, ih t.kids (by omega)]; omega
theorem bk_node (t : T) : bkC (nodeC t) = t.sz := by
  rw [nodeC_eq, T.sz_eq t]
  simp only [bkC, bk, bk_bytes, bk_nodes _ t.kids (Nat.le_refl _)]; omega
structure NodeTy (P : Program) (tn ti tb ty tu tk : TypeId) : Prop where
  node : ∃ f0 f1 f2 f3 f4 : Field, P.underlying tn = some (.struct #[f0, f1, f2, f3, f4]) ∧ f0.type = ti ∧ f1.type = ti ∧ f2.type = tb ∧ f3.type = ty ∧ f4.type = tk ∧ f0.offset = 0 ∧ f1.offset = 1 ∧ f2.offset = 2 ∧ f3.offset = 3 ∧ f4.offset = 4
  int : P.underlying ti = some (.int .i64)
  bool : P.underlying tb = some .bool
  bytes : P.underlying ty = some (.slice tu)
  u8 : P.underlying tu = some (.int .u8)
  kids : P.underlying tk = some (.slice tn)
  cells : P.cellsOf tn = 5 ∧ P.cellsOf ti = 1 ∧ P.cellsOf tb = 1 ∧ P.cellsOf ty = 1 ∧ P.cellsOf tk = 1
theorem CT_node {tn ti tb ty tu tk : TypeId} (N : NodeTy P tn ti tb ty tu tk) : ∀ (n : Nat) (ds : List Vm.Data), CT P n tn ds → ∃ t : T, ds = nodeC t := by
  intro n
  induction n using Nat.strongRecOn with
  | _ n ih =>
    intro ds c
    obtain ⟨f0, f1, f2, f3, f4, hu, t0, t1, t2, t3, t4, o0, o1, o2, o3, o4⟩ := N.node
    obtain ⟨c5, ci, cb, cy, ck⟩ := N.cells
    obtain ⟨m, rfl, hl, hf⟩ := CT_struct hu c
    obtain ⟨d0, d1, d2, d3, d4, rfl⟩ := len5 (hl.trans c5)
    have g0 := hf f0 (by simp)
    have g1 := hf f1 (by simp)
    have g2 := hf f2 (by simp)
    have g3 := hf f3 (by simp)
    have g4 := hf f4 (by simp)
    rw [t0, o0, ci] at g0
    rw [t1, o1, ci] at g1
    rw [t2, o2, cb] at g2
    rw [t3, o3, cy] at g3
    rw [t4, o4, ck] at g4
    obtain ⟨i0, e0, _⟩ := CT_int N.int g0
    obtain ⟨i1, e1, _⟩ := CT_int N.int g1
    obtain ⟨b, e2⟩ := CT_bool N.bool g2
    obtain ⟨s, e3⟩ := CT_bytes N.bytes N.u8 g3
    obtain ⟨q, xs, rfl, e4, _, hx⟩ := CT_slice N.kids g4
    have hk : ∀ xs : List (List Vm.Data), (∀ x ∈ xs, CT P q tn x) → ∃ l : List T, xs = nodesD l := by
      intro xs
      induction xs with
      | nil => intro _; exact ⟨[], nodesD_nil.symm⟩
      | cons x xs ihx =>
        intro h
        obtain ⟨t, rfl⟩ := ih q (by omega) x (h x (by simp))
        obtain ⟨l, rfl⟩ := ihx fun y hy => h y (by simp [hy])
        exact ⟨t :: l, (nodesD_cons t l).symm⟩
    obtain ⟨l, rfl⟩ := hk xs hx
    simp only [List.drop_zero, List.drop_succ_cons, List.take_succ_cons, List.take_zero, List.cons.injEq, and_true] at e0 e1 e2 e3 e4
    subst e0 e1 e2 e3 e4
    exact ⟨.mk i0 i1 b s l, by rw [nodeC]⟩
end
section
variable {H : Type} {enc : TypeId × Value → H} {P : Program} {w : World} {S : List TypeId} {B : DataW H → Nat} {BA : List (DataW H) → Nat}
theorem told_agg (hB : Bulk B BA) (hS : closedT P S = true) {t : TypeId} {v : Value} {d : DataW H} {ps : List MemPlace} {cs : Array Value} (ht : t ∈ S) (hv : v = .agg cs) (h : DataW.Trod enc P w 0 (fun _ => true) true t v d ps) :
    ∃ n ds, CT P n t ds ∧ RV w (All w) (.agg ds) v ∧ bkC ds ≤ B d := by
  subst hv
  obtain ⟨fuel, hf⟩ := h
  obtain ⟨ds, h1, h2, _, h4⟩ := trod_told hB hS fuel t _ _ ht hf
  exact ⟨fuel, ds, h1, by simp only [RV]; exact ⟨cs, rfl, by simpa [Value.cells] using h2⟩, h4⟩
theorem told_one (hB : Bulk B BA) (hS : closedT P S = true) {t : TypeId} {v : Value} {d : DataW H} {ps : List MemPlace} (ht : t ∈ S) (hv : v.cells = #[v]) (h : DataW.Trod enc P w 0 (fun _ => true) true t v d ps) :
    ∃ n d', CT P n t [d'] ∧ RV w (All w) d' v ∧ bk d' ≤ B d := by
  obtain ⟨fuel, hf⟩ := h
  obtain ⟨ds, h1, h2, _, h4⟩ := trod_told hB hS fuel t _ _ ht hf
  rw [hv] at h2
  cases ds with
  | nil => simp [RVs] at h2
  | cons d1 r =>
    simp only [RVs] at h2
    obtain ⟨u, r', e, q1, q2⟩ := h2
    injection e with e1 e2
    subst e1 e2
    cases r with
    | cons => simp [RVs] at q2
    | nil => exact ⟨fuel, d1, h1, q1, by simpa [bkC] using h4⟩
end
end Go.Proofs.YtpajpkbipagjpaaGreatDoor.Tr

