/- What slices.Insert and Read compute: their contracts. No condition. -/
import Derived.Test.YtgfadocohpinmaaDoorOaA
import Derived.Shelf.Spec.SlicesInsert
import Derived.Lib.AppendZerosOnto
import Derived.Laws.NewBlocks
import Derived.Test.YtgfadocohpinmaaDoorVmD
set_option linter.unusedVariables false
set_option linter.unusedSimpArgs false
namespace Go.Proofs.YtgfadocohpinmaaDoor.Oa
open Go Go.RowKit Go.Lib
theorem LI.mixed : Tryd.prog.follows .mixedOrders = true := by kernel_rfl
theorem LI.t0 : Tryd.prog.underlying 0 = some (TypeDesc.tuple #[]) := by kernel_rfl
theorem LI.a0 : ∀ w, (isAgg 0).run Tryd.prog w = .ok false w := fun w => by kernel_rfl
theorem LI.z0 : ∀ w, (Go.sizeOf 0).run Tryd.prog w = .ok 1 w := fun w => by kernel_rfl
theorem LI.v0 : ∀ w, (zeroValue 0).run Tryd.prog w = .ok (Value.tuple #[]) w := fun w => by kernel_rfl
theorem LI.t3 : Tryd.prog.underlying 3 = some (TypeDesc.int IntKind.i64) := by kernel_rfl
theorem LI.a3 : ∀ w, (isAgg 3).run Tryd.prog w = .ok false w := fun w => by kernel_rfl
theorem LI.z3 : ∀ w, (Go.sizeOf 3).run Tryd.prog w = .ok 1 w := fun w => by kernel_rfl
theorem LI.v3 : ∀ w, (zeroValue 3).run Tryd.prog w = .ok (Value.int IntKind.i64 0) w := fun w => by kernel_rfl
theorem LI.t4 : Tryd.prog.underlying 4 = some (TypeDesc.bool) := by kernel_rfl
theorem LI.a4 : ∀ w, (isAgg 4).run Tryd.prog w = .ok false w := fun w => by kernel_rfl
theorem LI.z4 : ∀ w, (Go.sizeOf 4).run Tryd.prog w = .ok 1 w := fun w => by kernel_rfl
theorem LI.v4 : ∀ w, (zeroValue 4).run Tryd.prog w = .ok (Value.bool false) w := fun w => by kernel_rfl
theorem LI.t36 : Tryd.prog.underlying 36 = some (TypeDesc.int IntKind.u64) := by kernel_rfl
theorem LI.a36 : ∀ w, (isAgg 36).run Tryd.prog w = .ok false w := fun w => by kernel_rfl
theorem LI.z36 : ∀ w, (Go.sizeOf 36).run Tryd.prog w = .ok 1 w := fun w => by kernel_rfl
theorem LI.v36 : ∀ w, (zeroValue 36).run Tryd.prog w = .ok (Value.int IntKind.u64 0) w := fun w => by kernel_rfl
theorem LI.t22 : Tryd.prog.underlying 22 = some (TypeDesc.slice 36) := by kernel_rfl
theorem LI.a22 : ∀ w, (isAgg 22).run Tryd.prog w = .ok false w := fun w => by kernel_rfl
theorem LI.z22 : ∀ w, (Go.sizeOf 22).run Tryd.prog w = .ok 1 w := fun w => by kernel_rfl
theorem LI.v22 : ∀ w, (zeroValue 22).run Tryd.prog w = .ok (Value.slice none 0 0) w := fun w => by kernel_rfl
theorem LI.i36 : (Tryd.prog.info? 36).map (fun i => (i.zero, i.size, i.bytes)) = some (some (Value.int IntKind.u64 0), 1, 8) := by kernel_rfl
set_option maxHeartbeats 4000000 in
set_option maxRecDepth 100000 in
theorem ins_shift (b off n c i vb voff m vc : Nat) (cs vs : List Value) (w : World) (hi : i < n) (hm : 0 < m) (hroom : n + m ≤ c) (hc63 : c ≤ 9223372036854775807) (hvb : vb ≠ b)
    (hcl : cs.length = n) (hvl : vs.length = m)
    (hcs : ∀ j v, cs[j]? = some v → w.cell? ⟨b, off + j, none⟩ = some v) (hsp : ∀ j, j < n + m → (w.cell? ⟨b, off + j, none⟩).isSome = true) (hfz : ∀ j, j < n + m → w.frozen? ⟨b, off + j, none⟩ = false)
    (hvs : ∀ j v, vs[j]? = some v → w.cell? ⟨vb, voff + j, none⟩ = some v) (h1c : ∀ v ∈ cs, v.oneCell' = true) (h1v : ∀ v ∈ vs, v.oneCell' = true)
    (tA tB : TypeId) (kA kB : Nat) (hsa : w.shape? vb = some (tA, kA)) (hsb : w.shape? b = some (tB, kB)) (hkB : kB ≠ 0) (hfa : w.frozen? ⟨vb, voff, none⟩ = false) (hfe : w.frozen? ⟨vb, kA, none⟩ = false) :
    Calls Tryd.prog 34 #[.slice (some ⟨b, off, none⟩) n c, .int .i64 i, .slice (some ⟨vb, voff, none⟩) m vc] w fun e w' =>
      e = .returned (.slice (some ⟨b, off, none⟩) (n + m) c) ∧ w' = (w.drew.setCells b (off + (i + m)) (cs.drop i)).setCells b (off + i) vs := by
  have t0 := LI.t0; have a0 := LI.a0; have z0 := LI.z0; have v0 := LI.v0; have t3 := LI.t3; have a3 := LI.a3; have z3 := LI.z3; have v3 := LI.v3; have t4 := LI.t4; have a4 := LI.a4; have z4 := LI.z4; have v4 := LI.v4; have t36 := LI.t36; have a36 := LI.a36; have z36 := LI.z36; have v36 := LI.v36; have t22 := LI.t22; have a22 := LI.a22; have z22 := LI.z22; have v22 := LI.v22
  have u0 := run_underlying LI.t0; have u3 := run_underlying LI.t3; have u4 := run_underlying LI.t4; have u36 := run_underlying LI.t36; have u22 := run_underlying LI.t22
  have hz1 : ¬ ((m : Int) = 0) := by omega
  have hz2 : ¬ ((i : Int) = (n : Int)) := by omega
  have hsz : (Tryd.prog.info? 36).map (·.size) = some 1 := by
    obtain ⟨i0, hi0, h0, h1, h2⟩ := info_parts LI.i36
    rw [hi0]; simp [h1]
  have hov : ∀ lb cb, (callFunc 46 #[.slice (some ⟨vb, voff, none⟩) m vc, .slice (some ⟨b, off + (i + m), none⟩) lb cb]).run Tryd.prog w = .ok (.value (.bool false)) w := fun lb cb => by
    rw [run_callFunc_extern Tryd.func46 (by kernel_rfl) (by kernel_rfl) (by kernel_rfl) (e := Extern.SlicesOverlaps.overlaps #[22, 22] #[4]) (by kernel_rfl),
      Lib.run_overlaps_apart w 22 4 36 LI.t22 1 LI.z36 ⟨vb, voff, none⟩ ⟨b, off + (i + m), none⟩ m vc lb cb hvb tA tB kA kB hsa hsb hkB hfa hfe]
    rfl
  have hdl : (cs.drop i).length = n - i := by rw [List.length_drop, hcl]
  have mixed := LI.mixed
  have hw1 : IntKind.i64.wrap ((i : Int) + (m : Int)) = (i : Int) + (m : Int) := by rw [IntKind.wrap_i64]; omega
  have hb1 : (0 : Int) ≤ (i : Int) + (m : Int) := by omega
  have hin : i ≤ n := by omega
  have htn : ((i : Int) + (m : Int)).toNat = i + m := by omega
  have hb2 : ¬ (c = i + m) := by omega
  have hb3 : (i : Int) ≤ (n : Int) + (m : Int) := by omega
  have hb4 : ¬ (c = i) := by omega
  have hcp1 : ∀ ty dc sc, (Builtin.copy_ #[22, 22] ty #[.slice (some ⟨b, off + (i + m), none⟩) (n + m - (i + m)) dc, .slice (some ⟨b, off + i, none⟩) (n + m - i) sc]).run Tryd.prog w.drew = .ok (goInt (cs.drop i).length) (w.drew.setCells b (off + (i + m)) (cs.drop i)) := fun ty dc sc =>
    run_copy_cells w.drew _ _ ty 36 b (off + (i + m)) (n + m - (i + m)) dc ⟨b, off + i, none⟩ (n + m - i) sc (cs.drop i) LI.t22 hsz (by rw [hdl]; simp only [Nat.min_def]; split <;> omega)
      (fun j v hj => by rw [Addr.add_lit, Nat.add_assoc]; exact hcs (i + j) v (by rwa [List.getElem?_drop] at hj))
      (fun j hj => by rw [Nat.add_assoc]; exact hsp _ (by omega)) (fun j hj => by rw [Nat.add_assoc]; exact hfz _ (by omega)) (fun v hv => h1c v (List.mem_of_mem_drop hv))
  obtain ⟨W1, hW1⟩ : ∃ W1, W1 = w.drew.setCells b (off + (i + m)) (cs.drop i) := ⟨_, rfl⟩
  have hsp1 : ∀ k, k < n + m → (W1.cell? ⟨b, off + k, none⟩).isSome = true := fun k hk => by
    rw [hW1]
    exact isSome_setCells b _ _ _ (fun j hj => by rw [Nat.add_assoc]; exact hsp _ (by omega)) _ (hsp k hk)
  have hcp2 : ∀ (W : World), (∀ x, W.cell? x = W1.cell? x) → (∀ x, W.frozen? x = W1.frozen? x) → ∀ ty dc, (Builtin.copy_ #[22, 22] ty #[.slice (some ⟨b, off + i, none⟩) (n + m - i) dc, .slice (some ⟨vb, voff, none⟩) m vc]).run Tryd.prog W = .ok (goInt vs.length) (W.setCells b (off + i) vs) := fun W hWc hWf ty dc =>
    run_copy_cells W _ _ ty 36 b (off + i) (n + m - i) dc ⟨vb, voff, none⟩ m vc vs LI.t22 hsz (by rw [hvl]; simp only [Nat.min_def]; split <;> omega)
      (fun j v hj => by
        rw [Addr.add_lit, hWc, hW1, World.cell?_setCells_out b _ _ _ _ (fun h _ => absurd h hvb)]
        exact hvs j v hj)
      (fun j hj => by rw [hWc, Nat.add_assoc]; exact hsp1 _ (by omega)) (fun j hj => by rw [hWf, hW1, World.frozen?_setCells, Nat.add_assoc]; exact hfz _ (by omega)) h1v
  rw [← hW1] at hcp1
  go_enter Tryd.func34, Tryd.ntmps34
  go_wp2_with (simp only [hov])
  go_region_law_o (refine step_copy_runI rfl _ _ 22 22 rfl _ _ (by simp [Act.eval, Act.put]) (by simp [Act.eval, Act.put]) (hcp1 _ _ _) ?_)
  go_wp2_with (at_builtin; refine wpList_copy_runI _ rfl _ _ 22 22 rfl _ _ rfl rfl (hcp2 _ (fun _ => rfl) (fun _ => rfl) _ _) ?_)
  go_ret
  first | exact ⟨rfl, rfl⟩ | exact ⟨rfl, by rw [hW1]⟩
set_option maxHeartbeats 4000000 in
set_option maxRecDepth 100000 in
theorem ins_grow (b off n c i vb voff m vc : Nat) (cs vs : List Value) (w : World) (hi : i < n) (hm : 0 < m) (hnc : n ≤ c) (hroom : c < n + m) (hbig : (n + m) * 8 ≤ 140737488355328)
    (hcl : cs.length = n) (hvl : vs.length = m)
    (hcs : ∀ j v, cs[j]? = some v → w.cell? ⟨b, off + j, none⟩ = some v)
    (hvs : ∀ j v, vs[j]? = some v → w.cell? ⟨vb, voff + j, none⟩ = some v) (h1c : ∀ v ∈ cs, v.oneCell' = true) (h1v : ∀ v ∈ vs, v.oneCell' = true) :
    Calls Tryd.prog 34 #[.slice (some ⟨b, off, none⟩) n c, .int .i64 i, .slice (some ⟨vb, voff, none⟩) m vc] w fun e w' =>
      e = .returned (.slice (some ⟨w.heap.size, 0, none⟩) (n + m) (grownCap w (n + m) c 36)) ∧
      w' = (((w.alloc (.cells ((cs.take i).toArray ++ Builtin.zeroCells (Value.int .u64 0).cells (n + m - i) ++ Builtin.zeroCells (Value.int .u64 0).cells (grownCap w (n + m) c 36 - (n + m))) 36)).drew.setCells w.heap.size i vs).drew).setCells w.heap.size (i + m) (cs.drop i) := by
  have t0 := LI.t0; have a0 := LI.a0; have z0 := LI.z0; have v0 := LI.v0; have t3 := LI.t3; have a3 := LI.a3; have z3 := LI.z3; have v3 := LI.v3; have t4 := LI.t4; have a4 := LI.a4; have z4 := LI.z4; have v4 := LI.v4; have t36 := LI.t36; have a36 := LI.a36; have z36 := LI.z36; have v36 := LI.v36; have t22 := LI.t22; have a22 := LI.a22; have z22 := LI.z22; have v22 := LI.v22
  have u0 := run_underlying LI.t0; have u3 := run_underlying LI.t3; have u4 := run_underlying LI.t4; have u36 := run_underlying LI.t36; have u22 := run_underlying LI.t22
  have mixed := LI.mixed
  obtain ⟨i0, hi0, hz0, hzs, hzb⟩ := info_parts LI.i36
  have hz1 : ¬ ((m : Int) = 0) := by omega
  have hz2 : ¬ ((i : Int) = (n : Int)) := by omega
  have hz3 : (c : Int) < (n : Int) + (m : Int) := by omega
  have hsz : (Tryd.prog.info? 36).map (·.size) = some 1 := by rw [hi0]; simp [hzs]
  have hbw : b < w.heap.size := block_lt_of_cell (hcs 0 _ (List.getElem?_eq_getElem (by omega)))
  have hvw : vb < w.heap.size := block_lt_of_cell (hvs 0 _ (List.getElem?_eq_getElem (by omega)))
  have hkk : (n : Int) + (m : Int) - (i : Int) = ((n + m - i : Nat) : Int) := by omega
  have hik : i + (n + m - i) = n + m := by omega
  have hold : (Builtin.firstCells i0.size i (.slice (some ⟨b, off, none⟩) i c)).run Tryd.prog w.drew = .ok (cs.take i).toArray w.drew := by
    rw [hzs]
    exact run_firstCells_some w.drew 1 i ⟨b, off, none⟩ i c (cs.take i) (by rw [List.length_take]; omega) (fun j v hj => by
      rw [Addr.add_lit]
      rw [List.getElem?_take] at hj
      split at hj
      · exact hcs j v hj
      · cases hj)
  have hrz : ∀ ty, (Builtin.append_ #[22, 3] ty #[.slice (some ⟨b, off, none⟩) i c, .int .i64 ((n : Int) + (m : Int) - (i : Int))]).run Tryd.prog w =
      .ok (.slice (some ⟨w.heap.size, 0, none⟩) (n + m) (grownCap w (n + m) c 36)) (w.drew.alloc (.cells ((cs.take i).toArray ++ Builtin.zeroCells (Value.int .u64 0).cells (n + m - i) ++ Builtin.zeroCells (Value.int .u64 0).cells (grownCap w (n + m) c 36 - (n + m))) 36)) := fun ty => by
    have h := Lib.run_append_grow_zeros w 22 3 ty 36 i0 _ .i64 .i64 LI.t22 LI.t3 hi0 hz0 (some ⟨b, off, none⟩) i c (cs.take i) hold (n + m - i) (by omega) (by omega) (by omega) (by omega) (by rw [hzb]; omega) (by rw [hzb, hik]; exact growslice_fits hroom hbig)
    rw [hik] at h
    rw [hkk]
    exact h
  obtain ⟨G, hG⟩ : ∃ G, G = grownCap w (n + m) c 36 := ⟨_, rfl⟩
  obtain ⟨ROW, hROW⟩ : ∃ ROW : Array Value, ROW = (cs.take i).toArray ++ Builtin.zeroCells (Value.int .u64 0).cells (n + m - i) ++ Builtin.zeroCells (Value.int .u64 0).cells (G - (n + m)) := ⟨_, rfl⟩
  rw [← hG] at hrz ⊢
  rw [← hROW] at hrz ⊢
  have hRl : n + m ≤ ROW.size := by
    rw [hROW]
    simp [Builtin.zeroCells, Value.cells]
    omega
  obtain ⟨W1, hW1⟩ : ∃ W1, W1 = w.drew.alloc (.cells ROW 36) := ⟨_, rfl⟩
  rw [← hW1] at hrz
  have hN : ∀ j, j < n + m → (W1.cell? ⟨w.heap.size, j, none⟩).isSome = true := fun j hj => by
    rw [hW1, World.cell?_alloc_at (w := w.drew) ROW _ w.heap.size j rfl, Array.getElem?_eq_getElem (by omega)]; rfl
  have hNf : ∀ j, W1.frozen? ⟨w.heap.size, j, none⟩ = false := fun j => by rw [hW1]; exact World.frozen?_alloc_at (w := w.drew) ROW _ w.heap.size j rfl
  have hOb : ∀ j v, w.cell? ⟨b, j, none⟩ = some v → W1.cell? ⟨b, j, none⟩ = some v := fun j v h => by rw [hW1, World.cell?_alloc_past (w := w.drew) _ b j hbw]; exact h
  have hOv : ∀ j v, w.cell? ⟨vb, j, none⟩ = some v → W1.cell? ⟨vb, j, none⟩ = some v := fun j v h => by rw [hW1, World.cell?_alloc_past (w := w.drew) _ vb j hvw]; exact h
  have hcpA : ∀ (W : World), (∀ x, W.cell? x = W1.cell? x) → (∀ x, W.frozen? x = W1.frozen? x) → ∀ ty dc, (Builtin.copy_ #[22, 22] ty #[.slice (some ⟨w.heap.size, i, none⟩) (n + m - i) dc, .slice (some ⟨vb, voff, none⟩) m vc]).run Tryd.prog W = .ok (goInt vs.length) (W.setCells w.heap.size i vs) := fun W hWc hWf ty dc =>
    run_copy_cells W _ _ ty 36 w.heap.size i (n + m - i) dc ⟨vb, voff, none⟩ m vc vs LI.t22 hsz (by rw [hvl]; simp only [Nat.min_def]; split <;> omega)
      (fun j v hj => by rw [Addr.add_lit, hWc]; exact hOv _ v (hvs j v hj))
      (fun j hj => by rw [hWc]; exact hN _ (by omega)) (fun j hj => by rw [hWf]; exact hNf _) h1v
  have hGn : n + m ≤ G := by rw [hG]; exact grownCap_ge w _ _ _
  have hG63 : G ≤ 9223372036854775807 := by
    have := grownCap_le_maxLen w (n + m) c 36 (by unfold maxLen; omega)
    rw [← hG] at this
    unfold maxLen at this
    omega
  have hGi : ¬ (G = i) := by omega
  have hGim : ¬ (G = i + m) := by omega
  have hci : ¬ (c = i) := by omega
  have hbN : b ≠ w.heap.size := by omega
  have hdl : (cs.drop i).length = n - i := by rw [List.length_drop, hcl]
  have hcpB : ∀ (W : World), (∀ x, W.cell? x = (W1.setCells w.heap.size i vs).cell? x) → (∀ x, W.frozen? x = (W1.setCells w.heap.size i vs).frozen? x) → ∀ ty dc sc, (Builtin.copy_ #[22, 22] ty #[.slice (some ⟨w.heap.size, i + m, none⟩) (n + m - (i + m)) dc, .slice (some ⟨b, off + i, none⟩) (n - i) sc]).run Tryd.prog W = .ok (goInt (cs.drop i).length) (W.setCells w.heap.size (i + m) (cs.drop i)) := fun W hWc hWf ty dc sc =>
    run_copy_cells W _ _ ty 36 w.heap.size (i + m) (n + m - (i + m)) dc ⟨b, off + i, none⟩ (n - i) sc (cs.drop i) LI.t22 hsz (by rw [hdl]; simp only [Nat.min_def]; split <;> omega)
      (fun j v hj => by
        rw [Addr.add_lit, hWc, World.cell?_setCells_out _ _ _ _ _ (fun h _ => absurd h hbN), Nat.add_assoc]
        exact hOb _ v (hcs (i + j) v (by rwa [List.getElem?_drop] at hj)))
      (fun j hj => by rw [hWc]; exact isSome_setCells _ _ _ _ (fun t ht => hN _ (by omega)) _ (hN _ (by omega)))
      (fun j hj => by rw [hWf, World.frozen?_setCells]; exact hNf _) (fun v hv => h1c v (List.mem_of_mem_drop hv))
  subst hW1
  have hE1 : ∀ x, ((w.alloc (.cells ROW 36)).drew).cell? x = (w.drew.alloc (.cells ROW 36)).cell? x := fun x => rfl
  have hE2 : ∀ x, ((w.alloc (.cells ROW 36)).drew).frozen? x = (w.drew.alloc (.cells ROW 36)).frozen? x := fun x => rfl
  have hF1 : ∀ x, (((w.alloc (.cells ROW 36)).drew.setCells w.heap.size i vs).drew).cell? x = ((w.drew.alloc (.cells ROW 36)).setCells w.heap.size i vs).cell? x := fun x => rfl
  have hF2 : ∀ x, (((w.alloc (.cells ROW 36)).drew.setCells w.heap.size i vs).drew).frozen? x = ((w.drew.alloc (.cells ROW 36)).setCells w.heap.size i vs).frozen? x := fun x => rfl
  have hw1 : IntKind.i64.wrap ((i : Int) + (m : Int)) = (i : Int) + (m : Int) := by rw [IntKind.wrap_i64]; omega
  have hb1 : (0 : Int) ≤ (i : Int) + (m : Int) := by omega
  have hin : i ≤ n := by omega
  have htn : ((i : Int) + (m : Int)).toNat = i + m := by omega
  have hb3 : (i : Int) ≤ (n : Int) := by omega
  clear hkk hik hold hROW hG hRl
  go_enter Tryd.func34, Tryd.ntmps34
  go_wp2_with (first
    | (at_builtin; refine Lib.wpList_append_run _ rfl _ _ _ _ rfl _ _ rfl rfl _ _ (hrz _) ?_)
    | (at_builtin; refine wpList_copy_runI _ rfl _ _ 22 22 rfl _ _ rfl rfl (hcpA _ hE1 hE2 _ _) ?_)
    | (at_builtin; refine wpList_copy_runI _ rfl _ _ 22 22 rfl _ _ rfl rfl (hcpB _ (fun _ => rfl) (fun _ => rfl) _ _ _) ?_))
  go_region_law_o (refine step_copy_runI rfl _ _ 22 22 rfl (.slice (some ⟨w.heap.size, i + m, none⟩) (n + m - (i + m)) (G - (i + m))) (.slice (some ⟨b, off + i, none⟩) (n - i) (c - i)) (by simp [Act.eval, Act.put]) (by simp [Act.eval, Act.put]) (hcpB _ hF1 hF2 3 (G - (i + m)) (c - i)) ?_)
  go_wp2
  go_ret
  exact ⟨rfl, rfl⟩
end Go.Proofs.YtgfadocohpinmaaDoor.Oa
namespace Go.Proofs.YtgfadocohpinmaaDoor.Oa
open Go Go.RowKit Go.Proofs.YtgfadocohpinmaaDoor.Vm
/-- A row in memory: what is known of its place. -/
theorem Sim.rowAt {Γ : Ctx} {st : St} {a : Act} {aL : List Act} {β : Nat → Pl} {w : World} (S : Sim Γ st a aL β w) {l e fz n : Nat} {xs : List (List Vm.Data)} {v : Value} (hf : find st.h l = some (.arr e 1 xs fz)) (hn : xs.length = n) (h1 : 1 ≤ n) (hv : RVD w (Im Γ β st.h w) β (.sl l 0 n) v) :
    ∃ b cap cur, β l = .blk b cap 1 ∧ v = .slice (some ⟨b, 0, none⟩) n cap ∧ n ≤ cap ∧ cap ≤ maxLen ∧ w.heap[b]? = some (.cells cur e (0, 0)) ∧ cur.size = cap ∧ Γ.w0.heap.size ≤ b ∧ (∀ x ∈ xs, x.length = 1) ∧
      ∀ (j : Nat) (d : Vm.Data), xs.flatten[j]? = some d → d.one = true ∧ ∃ u, cur[j]? = some u ∧ RV w (Im Γ β st.h w) d u := by
  obtain ⟨p1, p2, p3, p4⟩ := S.heap l _ hf
  rcases p4 with h | ⟨b, cap, cur, hb, hge, hh, hc1, hc2, hcs, hcells⟩
  · have := h.2; subst this; simp at hn; omega
  · simp only [RVD] at hv
    rcases hv with ⟨hn', _⟩ | ⟨b', c', sz', ad, hb', hcap, rfl, had⟩
    · rw [hb] at hn'; cases hn'
    · rw [hb] at hb'; injection hb' with e1 e2 e3; subst e1 e2 e3
      have : ad = some ⟨b, 0, none⟩ := by
        rcases had with h | h
        · simpa using h
        · exact absurd h.2 (by omega)
      subst this
      exact ⟨b, cap, cur, hb, by simp, by omega, hc2, hh, by simpa using hcs, hge, p3, hcells⟩
theorem flat1 {xs : List (List Vm.Data)} (h : ∀ x ∈ xs, x.length = 1) : xs.flatten.length = xs.length := by
  induction xs with
  | nil => rfl
  | cons x r ih => simp only [List.flatten_cons, List.length_append, List.length_cons]; rw [ih fun y hy => h y (by simp [hy]), h x (by simp)]; omega
theorem cell_at {w : World} {b e j : Nat} {cur : Array Value} (h : w.heap[b]? = some (.cells cur e (0, 0))) : w.cell? ⟨b, j, none⟩ = cur[j]? := by simp [World.cell?, h]
theorem frz_at {w : World} {b e j : Nat} {cur : Array Value} (h : w.heap[b]? = some (.cells cur e (0, 0))) : w.frozen? ⟨b, j, none⟩ = false := by simp [World.frozen?, h]
theorem insert_ok {st : St} {l l2 n fz2 : Nat} {xs : List (List Vm.Data)} {x : Vm.Data} {K : D → St → Prop} (hf : find st.h l = some (.arr 36 1 xs 0)) (hn : xs.length = n) (h1 : 1 ≤ n) (hn2 : n ≤ 1000000) (hf2 : find st.h l2 = some (.arr 36 1 [[x]] fz2)) (hne : l ≠ l2) (hm : st.noMark l)
    (hK : K (.sl l 0 (n + 1)) ((st.erase l).add l (.arr 36 1 ([x] :: xs) 0))) : VCcall E 34 [.sl l 0 n, .dat (.int .i64 0), .sl l2 0 1] st K := by
  intro Γ a aL β w args hΓ S hargs
  simp only [RVDs] at hargs
  obtain ⟨v1, r1, e1, hv1, v2, r2, e2, hv2, v3, r3, e3, hv3, e4⟩ := hargs
  subst e4
  have hA : args = #[v1, v2, v3] := by
    apply Array.ext'; rw [e1, e2, e3]
  subst hA
  simp only [RVD, RV] at hv2
  subst hv2
  obtain ⟨b, cap, cur, hb, rfl, hnc, hcm, hh, hcs, hge, hx1, hcells⟩ := Sim.rowAt S hf hn h1 hv1
  obtain ⟨vb, vc, cur2, hb2, rfl, hnc2, hcm2, hh2, hcs2, hge2, hx2, hcells2⟩ := Sim.rowAt S hf2 rfl (by simp) hv3
  have hvb : vb ≠ b := by
    rintro rfl
    exact hne (S.apart l l2 _ _ _ _ _ _ _ hf hf2 hb hb2)
  have hP : E.P = Γ.P := by rw [← hΓ]
  have hfl := flat1 hx1
  obtain ⟨hx1o, u, hu, hru⟩ := hcells2 0 x (by simp)
  have hblt : b < w.heap.size := (Array.getElem?_eq_some_iff.1 hh).1
  -- the old values
  let cs : List Value := cur.toList.take n
  have hcl : cs.length = n := by simp [cs, hcs]; omega
  have hcsj : ∀ j v, cs[j]? = some v → cur[j]? = some v := fun j v hj => by
    simp only [cs] at hj
    rw [List.getElem?_take] at hj
    split at hj
    · simpa using hj
    · cases hj
  have hcsj' : ∀ j, j < n → cs[j]? = cur[j]? := fun j hj => by
    simp only [cs]
    rw [List.getElem?_take, if_pos hj]; simp
  have h1c : ∀ v ∈ cs, v.oneCell' = true := by
    intro v hv
    obtain ⟨j, hj, e⟩ := List.mem_iff_getElem.1 hv
    have hj' : j < n := by rw [hcl] at hj; exact hj
    have hd : xs.flatten[j]? = some (xs.flatten[j]'(by omega)) := List.getElem?_eq_getElem (by omega)
    obtain ⟨ho, y, hy, hr⟩ := hcells j _ hd
    have : cs[j]? = some v := by rw [List.getElem?_eq_getElem hj, e]
    rw [hcsj j v this] at hy
    injection hy with hy
    subst hy
    exact RV.one hr ho
  have h1v : ∀ v ∈ [u], v.oneCell' = true := by
    intro v hv
    simp at hv; subst hv
    exact RV.one hru hx1o
  have hfinal : ∀ (cur' : Array Value) (cap' : Nat), n + 1 ≤ cap' → cur'.size = cap' → cur'[0]? = some u → (∀ j, j < n → cur'[1 + j]? = cs[j]?) → ∀ (j : Nat) (d : Vm.Data), ([x] :: xs).flatten[j]? = some d → d.one = true ∧ ∃ v, cur'[j]? = some v ∧ RV w (Im Γ β st.h w) d v := by
    intro cur' cap' _ _ h0 hs j d hj
    cases j with
    | zero => simp at hj; subst hj; exact ⟨hx1o, u, h0, hru⟩
    | succ j =>
      have hj' : xs.flatten[j]? = some d := by simpa using hj
      have hlt : j < n := by
        have := (List.getElem?_eq_some_iff.1 hj').1
        omega
      obtain ⟨ho, y, hy, hr⟩ := hcells j d hj'
      refine ⟨ho, y, ?_, hr⟩
      rw [show j + 1 = 1 + j by omega, hs j hlt, hcsj' j hlt, hy]
  have hxl : ∀ y ∈ [x] :: xs, y.length = 1 := by
    intro y hy
    rcases List.mem_cons.1 hy with rfl | hy
    · rfl
    · exact hx1 y hy
  have hcsw : ∀ j v, cs[j]? = some v → w.cell? ⟨b, 0 + j, none⟩ = some v := fun j v hj => by rw [Nat.zero_add, cell_at hh]; exact hcsj j v hj
  have hvsw : ∀ j v, [u][j]? = some v → w.cell? ⟨vb, 0 + j, none⟩ = some v := fun j v hj => by
    rw [cell_at hh2]
    cases j with
    | zero => simp at hj; subst hj; exact hu
    | succ j => simp at hj
  refine (callsIn_wide (n := 0)).2 ?_
  show Calls Tryd.prog 34 _ _ _
  by_cases hroom : n + 1 ≤ cap
  · refine (ins_shift b 0 n cap 0 vb 0 1 vc cs [u] w (by omega) (by omega) hroom (by unfold maxLen at hcm; omega) hvb hcl rfl hcsw (fun j hj => by rw [Nat.zero_add, cell_at hh, Array.getElem?_eq_getElem (by omega)]; rfl) (fun j _ => frz_at hh) hvsw h1c h1v
      36 36 vc cap (by simp [World.shape?, hh2, hcs2]) (by simp [World.shape?, hh, hcs]) (by omega) (frz_at hh2) (frz_at hh2)).mono ?_
    rintro e w' ⟨rfl, rfl⟩
    obtain ⟨c1, g1, g2, g3, g4⟩ := setCells_at (b := b) (e := 36) (fr := (0, 0)) (cs.drop 0) (0 + (0 + 1)) w.drew cur hh (by simp [hcl]; omega)
    obtain ⟨c2, k1, k2, k3, k4⟩ := setCells_at (b := b) (e := 36) (fr := (0, 0)) [u] (0 + 0) _ c1 g1 (by simp; omega)
    have S1 := S.refill (l := l) (xs' := [x] :: xs) (w' := (w.drew.setCells b (0 + (0 + 1)) (cs.drop 0)).setCells b (0 + 0) [u]) (cur' := c2) hf hb
      (setCells_below hge _ _ _ (setCells_below hge _ _ _ S.below.drew)) (by rw [setCells_size, setCells_size]; rfl) (fun k hk => by rw [setCells_other hk, setCells_other hk]; rfl) k1 (by rw [k2, g2, hcs, Nat.mul_one]) (by simp; omega) hxl
      (hfinal c2 cap hroom (by rw [k2, g2, hcs]) (by have := k3 0 (by simp); simpa using this) fun j hj => by
        rw [k4 (1 + j) (by simp)]
        have := g3 j (by simp [hcl]; omega)
        simpa using this)
    have hf' : find (st.setB l (.arr 36 1 ([x] :: xs) 0)).h l = some (.arr 36 1 ([x] :: xs) 0) := by simp only [St.setB, find_hSet, if_true, hf, Option.map_some]
    have R := S1.rename (l := l) (l' := l) hf' hm hm
    refine ⟨_, .sl l 0 (n + 1), _, _, rfl, R.1, ?_, ?_⟩
    · refine RVD.row (b := b) (cap := cap) (sz := 1) ?_ hroom
      rw [upd_same]; exact hb
    · have he : (st.setB l (.arr 36 1 ([x] :: xs) 0)).erase l = st.erase l := by
        have key : ∀ (h : List (Nat × Blk)) (B : Blk), hErase l (hSet l B h) = hErase l h := by
          intro h B
          induction h with
          | nil => rfl
          | cons y r ih =>
            simp only [hSet]
            by_cases e : y.1 = l
            · rw [if_pos e]; simp only [hErase, if_true, if_pos e]
            · rw [if_neg e]; simp only [hErase, if_neg e, ih]
        simp only [St.erase, St.setB, key]
      rw [he]; exact hK
  · have hcapn : cap = n := by omega
    refine (ins_grow b 0 n cap 0 vb 0 1 vc cs [u] w (by omega) (by omega) hnc (by omega) (by omega) hcl rfl hcsw hvsw h1c h1v).mono ?_
    rintro e w' ⟨rfl, rfl⟩
    have hG : n + 1 ≤ grownCap w (n + 1) cap 36 := grownCap_ge _ _ _ _
    have hG2 : grownCap w (n + 1) cap 36 ≤ maxLen := grownCap_le_maxLen _ _ _ _ (by unfold maxLen; omega)
    generalize grownCap w (n + 1) cap 36 = G at hG hG2 ⊢
    have hR : ((cs.take 0).toArray ++ Builtin.zeroCells (Value.int .u64 0).cells (n + 1 - 0) ++ Builtin.zeroCells (Value.int .u64 0).cells (G - (n + 1))).size = G := by
      simp [Builtin.zeroCells, Value.cells]; omega
    generalize (cs.take 0).toArray ++ Builtin.zeroCells (Value.int .u64 0).cells (n + 1 - 0) ++ Builtin.zeroCells (Value.int .u64 0).cells (G - (n + 1)) = ROW at hR ⊢
    have S2 := (S.drop l hm).row l 36 1 0 G [] ROW ⟨hm.1, noMark_erase l l _ hm.2⟩ (by decide) (Nat.zero_le _) (fun y hy => by cases hy) (Nat.zero_le _) hG2 (by omega) (fun j d hj => by simp at hj)
    have hnew : (w.alloc (.cells ROW 36)).heap[w.heap.size]? = some (.cells ROW 36 (0, 0)) := World.alloc_heap_new w _
    have hsz : (w.alloc (.cells ROW 36)).heap.size = w.heap.size + 1 := World.size_alloc _ _
    obtain ⟨c1, g1, g2, g3, g4⟩ := setCells_at (b := w.heap.size) (e := 36) (fr := (0, 0)) [u] 0 (w.alloc (.cells ROW 36)).drew ROW hnew (by simp; omega)
    obtain ⟨c2, k1, k2, k3, k4⟩ := setCells_at (b := w.heap.size) (e := 36) (fr := (0, 0)) (cs.drop 0) (0 + 1) ((w.alloc (.cells ROW 36)).drew.setCells w.heap.size 0 [u]).drew c1 g1 (by simp [hcl]; omega)
    have hge' : Γ.w0.heap.size ≤ w.heap.size := S.below.size
    have K1 : Keeps w (Im Γ β st.h w) w (Im Γ β (st.erase l).h w) := Im.drop Γ st β w l
    have K2 := Im.alloc (S.drop l hm) l (.arr 36 1 [] 0) (.cells ROW 36) G 1
    have S3 := S2.refill (l := l) (xs := []) (xs' := [x] :: xs) (w' := ((w.alloc (.cells ROW 36)).drew.setCells w.heap.size 0 [u]).drew.setCells w.heap.size (0 + 1) (cs.drop 0)) (cur' := c2) (by show find ((l, _) :: _) l = _; rw [find_cons, if_pos rfl]) (upd_same _ _ _)
      (setCells_below hge' _ _ _ (setCells_below hge' _ _ _ S2.below.drew).drew) (by rw [setCells_size]; show ((w.alloc (.cells ROW 36)).drew.setCells w.heap.size 0 [u]).heap.size = _; rw [setCells_size]; rfl) (fun k hk => by rw [setCells_other hk]; show ((w.alloc (.cells ROW 36)).drew.setCells w.heap.size 0 [u]).heap[k]? = _; rw [setCells_other hk]; rfl) k1 (by rw [k2, g2, hR, Nat.mul_one]) (by simp; omega) hxl
      (fun j d hj => by
        obtain ⟨ho, y, hy, hr⟩ := hfinal c2 G hG (by rw [k2, g2, hR]) (by
          rw [k4 0 (by omega)]
          have := g3 0 (by simp)
          simpa using this) (fun j hj => by
          have := k3 j (by simp [hcl]; omega)
          simpa using this) j d hj
        exact ⟨ho, y, hy, RV.keeps K2 d y (RV.keeps K1 d y hr)⟩)
    refine ⟨_, .sl l 0 (n + 1), _, _, rfl, S3, ?_, ?_⟩
    · exact RVD.row (upd_same _ _ _) hG
    · rw [setB_add]; exact hK
end Go.Proofs.YtgfadocohpinmaaDoor.Oa
namespace Go.Proofs.YtgfadocohpinmaaDoor.Oa
open Go Go.RowKit Go.Proofs.YtgfadocohpinmaaDoor.Vm Go.IntWalk
set_option maxRecDepth 100000
set_option maxHeartbeats 4000000
noncomputable def ΦR : Fns := tab [(16, bytesF), (35, beqF)]
theorem ΦR_ok : Sound E ΦR := sound_cons (by kernel_rfl) bytes_ok (sound_cons (by kernel_rfl) beq_ok (sound_nil))
@[go_sem] theorem ΦR_34 : ΦR 34 = none := rfl
@[go_sem] theorem ΦR_c34 : callable Tryd.prog 34 = true := by kernel_rfl
@[go_sem] theorem ΦR_16 : ΦR 16 = some bytesF := rfl
@[go_sem] theorem ΦR_35 : ΦR 35 = some beqF := rfl
def scanS (p : Nat × List Nat) (c : UInt8) : Nat × List Nat := if c.toNat < 128 then (0, p.2 ++ [p.1 * 128 + c.toNat % 128]) else (p.1 * 128 + c.toNat % 128, p.2)
def scanN (b : List UInt8) (k : Nat) : Nat × List Nat := (b.take k).foldl scanS (0, [])
def okS (b : List UInt8) : Bool := (List.range b.length).all fun k => decide ((scanN b k).1 ≤ 72057594037927935)
def fixS : List Nat → List Nat
  | [] => []
  | x :: r => min (x / 40) 2 :: (x - 40 * min (x / 40) 2) :: r
def readX (b : List UInt8) : List Nat := fixS (scanN b b.length).2
def readS (b : List UInt8) : Option (List Nat) := if okS b = true ∧ may (readX b) = true ∧ enc (readX b) = b then some (readX b) else none
theorem scanN_zero (b : List UInt8) : scanN b 0 = (0, []) := rfl
theorem scanN_succ (b : List UInt8) (k : Nat) (h : k < b.length) : scanN b (k + 1) = scanS (scanN b k) (b.getD k 0) := by
  unfold scanN
  rw [List.take_add_one, List.getElem?_eq_getElem h, Option.toList_some, List.foldl_append, List.getD_eq_getElem?_getD, List.getElem?_eq_getElem h]
  rfl
theorem scanN_len (b : List UInt8) (k : Nat) (h : k ≤ b.length) : (scanN b k).2.length ≤ k := by
  induction k with
  | zero => simp [scanN_zero]
  | succ k ih =>
    rw [scanN_succ b k (by omega)]
    have := ih (by omega)
    unfold scanS
    split <;> simp <;> omega
theorem encO_len (l : List Nat) : (encO l).length ≤ 200 := by
  unfold encO
  split
  · rename_i h
    have := of_decide_eq_true h
    have := encN_len l (l.length - 1)
    unfold enc; omega
  · simp
theorem scanN_le (b : List UInt8) (k : Nat) (h : k ≤ b.length) (hj : ∀ j, j < k → (scanN b j).1 ≤ 72057594037927935) : ∀ x ∈ (scanN b k).2, x ≤ 9223372036854775807 := by
  induction k with
  | zero => simp [scanN_zero]
  | succ k ih =>
    rw [scanN_succ b k (by omega)]
    have h1 := ih (by omega) fun j hj' => hj j (by omega)
    have h2 := hj k (by omega)
    unfold scanS
    split
    · intro x hx
      simp only [List.mem_append, List.mem_singleton] at hx
      rcases hx with hx | rfl
      · exact h1 x hx
      · have := Nat.mod_lt (b.getD k 0).toNat (show 0 < 128 by decide); omega
    · exact h1
theorem numsD_cons (x : Nat) (r : List Nat) : numsD (x :: r) = [.int .u64 (x : Int)] :: numsD r := rfl
theorem min40 (x : Nat) (h : x ≤ 9223372036854775807) : (if (2 : Int) < IntKind.u64.wrap ((x : Int) / 40) then (2 : Int) else IntKind.u64.wrap ((x : Int) / 40)) = ((min (x / 40) 2 : Nat) : Int) := by
  rw [u64_in _ (by omega)]; split <;> omega
theorem sub40 (x : Nat) (h : x ≤ 9223372036854775807) : IntKind.u64.wrap ((x : Int) - IntKind.u64.wrap (40 * ((min (x / 40) 2 : Nat) : Int))) = ((x - 40 * min (x / 40) 2 : Nat) : Int) := by
  rw [u64_in (40 * _) (by omega), u64_in _ (by omega)]; omega
theorem fixS_len (l : List Nat) : (fixS l).length ≤ l.length + 1 := by
  cases l <;> simp [fixS]
theorem readX_len (b : List UInt8) : (readX b).length ≤ b.length + 1 := by
  have := fixS_len (scanN b b.length).2
  have := scanN_len b b.length (Nat.le_refl _)
  unfold readX; omega
theorem okS_no (b : List UInt8) (k : Nat) (h : k < b.length) (h' : ¬ (scanN b k).1 ≤ 72057594037927935) : okS b = false := by
  cases e : okS b with
  | false => rfl
  | true =>
    unfold okS at e
    have := List.all_eq_true.1 e k (List.mem_range.2 h)
    exact absurd (of_decide_eq_true this) h'
theorem okS_yes (b : List UInt8) (h : ∀ k, k < b.length → (scanN b k).1 ≤ 72057594037927935) : okS b = true := by
  unfold okS
  refine List.all_eq_true.2 fun k hk => decide_eq_true (h k (List.mem_range.1 hk))
theorem readS_none (b : List UInt8) (h : ¬ (okS b = true ∧ may (readX b) = true ∧ enc (readX b) = b)) : readS b = none := if_neg h
theorem readS_some (b : List UInt8) (h : okS b = true ∧ may (readX b) = true ∧ enc (readX b) = b) : readS b = some (readX b) := if_pos h
theorem or7 (n c : Nat) (h : n ≤ 72057594037927935) (hc : c < 128) : bits .or .u64 ((n * 128 : Nat) : Int) (c : Int) = ((n * 128 + c : Nat) : Int) := by
  have e1 : BitVec.ofInt 64 ((n * 128 : Nat) : Int) = BitVec.ofNat 64 (n * 128) := BitVec.ofInt_natCast ..
  have e2 : BitVec.ofInt 64 (c : Int) = BitVec.ofNat 64 c := BitVec.ofInt_natCast ..
  show IntKind.u64.wrap (((BitVec.ofInt 64 ((n * 128 : Nat) : Int)) ||| (BitVec.ofInt 64 (c : Int))).toNat : Int) = _
  rw [e1, e2, BitVec.toNat_or, BitVec.toNat_ofNat, BitVec.toNat_ofNat, Nat.mod_eq_of_lt (by omega), Nat.mod_eq_of_lt (by omega)]
  have := Nat.shiftLeft_add_eq_or_of_lt (i := 7) (b := c) (by omega) n
  rw [Nat.shiftLeft_eq] at this
  rw [← this, IntKind.wrap_u64]
  omega
theorem and7 (c : UInt8) : bits .and .u8 (c.toNat : Int) 127 = ((c.toNat % 128 : Nat) : Int) := and127 ⟨c.toNat, UInt8.toNat_lt c⟩
theorem shl7 (n : Nat) (h : n ≤ 72057594037927935) : IntKind.u64.wrap ((n : Int) * 2 ^ min (7 : Int).toNat 64) = ((n * 128 : Nat) : Int) := by
  rw [show min (7 : Int).toNat 64 = 7 from rfl, IntKind.wrap_u64]; omega
theorem conv7 (c : Nat) : IntKind.u64.wrap ((c % 128 : Nat) : Int) = ((c % 128 : Nat) : Int) := u64_in _ (by omega)
def readA (b : List UInt8) : List Vm.Data := [.lst (bytesD b)]
noncomputable def readF : PFn := PFn.of readA (fun b => b.length ≤ 100000) (fun b => [.lst (numsD ((readS b).getD [])), .int .i64 (if (readS b).isSome then 0 else 140)])
theorem read_inj (x y : List UInt8) (h : readA x = readA y) : x = y := by
  simpa [readA, Prod.ext_iff, numsD_inj, bytesD_inj, Vm.Data.lst.injEq, Int.natCast_inj] using h
@[go_sem] theorem read_pre (b : List UInt8) : readF.pre [.lst (bytesD b)] = (b.length ≤ 100000) := PFn.of_pre read_inj b
@[go_sem] theorem read_res (b : List UInt8) : readF.res [.lst (bytesD b)] = [.lst (numsD ((readS b).getD [])), .int .i64 (if (readS b).isSome then 0 else 140)] := PFn.of_res read_inj b
theorem read_ok : Pure E 17 readF := by
  apply Pure.of_body (rs := [.tmp 2, .tmp 3]) (n := 65) Tryd.func17 rfl rfl rfl
  intro ds hds
  obtain ⟨b, rfl, hds⟩ := hds
  (try dsimp only at hds)
  rw [show readF.res (readA b) = [.lst (numsD ((readS b).getD [])), .int .i64 (if (readS b).isSome then 0 else 140)] from read_res b]
  skip
  refine ⟨Nat.le_of_ble_eq_true rfl, ?_⟩
  show VC E none _ (pureSt 65 [.lst (bytesD b)]) _
  apply VC.regt ΦR_ok [0]; intro K' hK; dsimp only [List.take, List.drop, List.map, strip, stripG]; simp -implicitDefEqProofs only [go_sem, Nat.reduceLT, Nat.reduceAdd, Nat.reduceEqDiff, reduceIte, Nat.reduceMul, Nat.reduceSub, reduceCtorEq, Int.reduceNe, Int.reduceEq, ne_eq, Nat.reduceLeDiff, Nat.reduceMod, Nat.reduceDiv]
  (repeat' first | (refine hK _ ?_; clear hK K') | with_reducible apply And.intro | (simp -implicitDefEqProofs (disch := omega) only [bytesD_at, numsD_at, u64_in, i64_in, List.length_cons, List.length_nil, Nat.reduceAdd]; done) | (simp only [maxLen]; omega) | omega)
  all_goals
    apply VC.at
    · simp -implicitDefEqProofs only [go_sem, Nat.reduceLT, Nat.reduceAdd, Nat.reduceEqDiff, reduceIte, Nat.reduceMul, Nat.reduceSub, reduceCtorEq, Int.reduceNe, Int.reduceEq, ne_eq, Nat.reduceLeDiff, Nat.reduceMod, Nat.reduceDiv]; (try simp (disch := omega) only [i64_in, tmodn, tdivn]); exact rfl
    apply VC.regt ΦR_ok [0, 4]; intro K' hK; dsimp only [List.take, List.drop, List.map, strip, stripG]; simp -implicitDefEqProofs only [go_sem, Nat.reduceLT, Nat.reduceAdd, Nat.reduceEqDiff, reduceIte, Nat.reduceMul, Nat.reduceSub, reduceCtorEq, Int.reduceNe, Int.reduceEq, ne_eq, Nat.reduceLeDiff, Nat.reduceMod, Nat.reduceDiv]
    (repeat' first | (refine hK _ ?_; clear hK K') | with_reducible apply And.intro | (simp -implicitDefEqProofs (disch := omega) only [bytesD_at, numsD_at, u64_in, i64_in, List.length_cons, List.length_nil, Nat.reduceAdd]; done) | (simp only [maxLen]; omega) | omega)
    all_goals
      apply VC.at
      · simp -implicitDefEqProofs only [go_sem, Nat.reduceLT, Nat.reduceAdd, Nat.reduceEqDiff, reduceIte, Nat.reduceMul, Nat.reduceSub, reduceCtorEq, Int.reduceNe, Int.reduceEq, ne_eq, Nat.reduceLeDiff, Nat.reduceMod, Nat.reduceDiv]; (try simp (disch := omega) only [i64_in, tmodn, tdivn]); exact rfl
      apply VC.regt ΦR_ok [0, 4, 5]; intro K' hK; dsimp only [List.take, List.drop, List.map, strip, stripG]; simp -implicitDefEqProofs only [go_sem, Nat.reduceLT, Nat.reduceAdd, Nat.reduceEqDiff, reduceIte, Nat.reduceMul, Nat.reduceSub, reduceCtorEq, Int.reduceNe, Int.reduceEq, ne_eq, Nat.reduceLeDiff, Nat.reduceMod, Nat.reduceDiv]
      (repeat' first | (refine hK _ ?_; clear hK K') | with_reducible apply And.intro | (simp -implicitDefEqProofs (disch := omega) only [bytesD_at, numsD_at, u64_in, i64_in, List.length_cons, List.length_nil, Nat.reduceAdd]; done) | (simp only [maxLen]; omega) | omega)
      all_goals
        apply VC.at
        · simp -implicitDefEqProofs only [go_sem, Nat.reduceLT, Nat.reduceAdd, Nat.reduceEqDiff, reduceIte, Nat.reduceMul, Nat.reduceSub, reduceCtorEq, Int.reduceNe, Int.reduceEq, ne_eq, Nat.reduceLeDiff, Nat.reduceMod, Nat.reduceDiv]; (try simp (disch := omega) only [i64_in, tmodn, tdivn]); exact rfl
        apply VC.seq
        apply VC.regt ΦR_ok [0, 4, 5, 11, 12, 13]; intro K' hK; dsimp only [List.take, List.drop, List.map, strip, stripG]; simp -implicitDefEqProofs only [go_sem, Nat.reduceLT, Nat.reduceAdd, Nat.reduceEqDiff, reduceIte, Nat.reduceMul, Nat.reduceSub, reduceCtorEq, Int.reduceNe, Int.reduceEq, ne_eq, Nat.reduceLeDiff, Nat.reduceMod, Nat.reduceDiv]
        (repeat' first | (refine hK _ ?_; clear hK K') | with_reducible apply And.intro | (simp -implicitDefEqProofs (disch := omega) only [bytesD_at, numsD_at, u64_in, i64_in, List.length_cons, List.length_nil, Nat.reduceAdd]; done) | (simp only [maxLen]; omega) | omega)
        all_goals
          apply VC.at
          · simp -implicitDefEqProofs only [go_sem, Nat.reduceLT, Nat.reduceAdd, Nat.reduceEqDiff, reduceIte, Nat.reduceMul, Nat.reduceSub, reduceCtorEq, Int.reduceNe, Int.reduceEq, ne_eq, Nat.reduceLeDiff, Nat.reduceMod, Nat.reduceDiv]; (try simp (disch := omega) only [i64_in, tmodn, tdivn]); exact rfl
          apply VC.block
          refine VC.loopP (ι := Nat) [0, 11, 12] (fun k => [(13, .dat (.int .i64 (k : Int))), (5, .dat (.int .u64 (((scanN b k).1 : Nat) : Int))), (4, .sl 1 0 (scanN b k).2.length)]) (fun k => [(1, .arr 36 1 (numsD (scanN b k).2) 0)]) (fun k => k ≤ b.length ∧ ∀ j, j < k → (scanN b j).1 ≤ 72057594037927935) (fun k => b.length - k) 0 ⟨Nat.zero_le _, fun j hj => absurd hj (Nat.not_lt_zero _)⟩ ?_ ?_
          · refine (Ent.nilT 4 1 36 1 (by decide) (by simp -implicitDefEqProofs only [go_sem, Nat.reduceLT, Nat.reduceAdd, Nat.reduceEqDiff, reduceIte, Nat.reduceMul, Nat.reduceSub, reduceCtorEq, Int.reduceNe, Int.reduceEq, ne_eq, Nat.reduceLeDiff, Nat.reduceMod, Nat.reduceDiv]) (by simp -implicitDefEqProofs only [go_sem, Nat.reduceLT, Nat.reduceAdd, Nat.reduceEqDiff, reduceIte, Nat.reduceMul, Nat.reduceSub, reduceCtorEq, Int.reduceNe, Int.reduceEq, ne_eq, Nat.reduceLeDiff, Nat.reduceMod, Nat.reduceDiv])).trans (Ent.to rfl rfl rfl ?_ ?_)
            · simp -implicitDefEqProofs only [go_sem, Nat.reduceLT, Nat.reduceAdd, Nat.reduceEqDiff, reduceIte, Nat.reduceMul, Nat.reduceSub, reduceCtorEq, Int.reduceNe, Int.reduceEq, ne_eq, Nat.reduceLeDiff, Nat.reduceMod, Nat.reduceDiv, scanN_zero]; (try simp only [D.dat.injEq, Vm.Data.int.injEq, true_and, and_true, and_self, eq_self]); (try omega); (try ((repeat' apply And.intro) <;> first | omega | rfl))
            · (repeat' (first | exact all_nil | (refine all_cons ?_ ?_))) <;> (simp -implicitDefEqProofs only [go_sem, Nat.reduceLT, Nat.reduceAdd, Nat.reduceEqDiff, reduceIte, Nat.reduceMul, Nat.reduceSub, reduceCtorEq, Int.reduceNe, Int.reduceEq, ne_eq, Nat.reduceLeDiff, Nat.reduceMod, Nat.reduceDiv]; (try rfl); try rfl)
          · intro k hp; (try dsimp only at hp); obtain ⟨hk, hj⟩ := hp; have hsl := scanN_len b k hk
            apply VC.at
            · simp -implicitDefEqProofs only [go_sem, Nat.reduceLT, Nat.reduceAdd, Nat.reduceEqDiff, reduceIte, Nat.reduceMul, Nat.reduceSub, reduceCtorEq, Int.reduceNe, Int.reduceEq, ne_eq, Nat.reduceLeDiff, Nat.reduceMod, Nat.reduceDiv]; (try simp (disch := omega) only [i64_in, tmodn, tdivn]); exact rfl
            apply VC.regt ΦR_ok [0, 4, 5, 11, 12, 13, 14]; intro K' hK; dsimp only [List.take, List.drop, List.map, strip, stripG]; simp -implicitDefEqProofs only [go_sem, Nat.reduceLT, Nat.reduceAdd, Nat.reduceEqDiff, reduceIte, Nat.reduceMul, Nat.reduceSub, reduceCtorEq, Int.reduceNe, Int.reduceEq, ne_eq, Nat.reduceLeDiff, Nat.reduceMod, Nat.reduceDiv]
            (repeat' first | (refine hK _ ?_; clear hK K') | with_reducible apply And.intro | (simp -implicitDefEqProofs (disch := omega) only [bytesD_at, numsD_at, u64_in, i64_in, List.length_cons, List.length_nil, Nat.reduceAdd]; done) | (simp only [maxLen]; omega) | omega)
            all_goals
              apply VC.at
              · simp -implicitDefEqProofs only [go_sem, Nat.reduceLT, Nat.reduceAdd, Nat.reduceEqDiff, reduceIte, Nat.reduceMul, Nat.reduceSub, reduceCtorEq, Int.reduceNe, Int.reduceEq, ne_eq, Nat.reduceLeDiff, Nat.reduceMod, Nat.reduceDiv]; (try simp (disch := omega) only [i64_in, tmodn, tdivn]); exact rfl
              apply VC.seq
              first | (apply VC.condd; (focus (simp -implicitDefEqProofs only [go_sem, Nat.reduceLT, Nat.reduceAdd, Nat.reduceEqDiff, reduceIte, Nat.reduceMul, Nat.reduceSub, reduceCtorEq, Int.reduceNe, Int.reduceEq, ne_eq, Nat.reduceLeDiff, Nat.reduceMod, Nat.reduceDiv]; with_reducible exact rfl))) | (apply VC.condn; (focus (simp -implicitDefEqProofs only [go_sem, Nat.reduceLT, Nat.reduceAdd, Nat.reduceEqDiff, reduceIte, Nat.reduceMul, Nat.reduceSub, reduceCtorEq, Int.reduceNe, Int.reduceEq, ne_eq, Nat.reduceLeDiff, Nat.reduceMod, Nat.reduceDiv]; with_reducible exact rfl))) | (apply VC.condt; (focus (simp -implicitDefEqProofs only [go_sem, Nat.reduceLT, Nat.reduceAdd, Nat.reduceEqDiff, reduceIte, Nat.reduceMul, Nat.reduceSub, reduceCtorEq, Int.reduceNe, Int.reduceEq, ne_eq, Nat.reduceLeDiff, Nat.reduceMod, Nat.reduceDiv]; with_reducible exact rfl))) | (apply VC.condb; (focus (simp -implicitDefEqProofs only [go_sem, Nat.reduceLT, Nat.reduceAdd, Nat.reduceEqDiff, reduceIte, Nat.reduceMul, Nat.reduceSub, reduceCtorEq, Int.reduceNe, Int.reduceEq, ne_eq, Nat.reduceLeDiff, Nat.reduceMod, Nat.reduceDiv]; exact rfl)))
              · intro h; try exact absurd h (by decide)
                all_goals
                  apply VC.skip
                  refine thenK_n ?_
                  apply VC.seq
                  apply VC.block
                  apply VC.regt ΦR_ok [0, 4, 5, 7, 11, 12, 13]; intro K' hK; dsimp only [List.take, List.drop, List.map, strip, stripG]; simp -implicitDefEqProofs only [go_sem, Nat.reduceLT, Nat.reduceAdd, Nat.reduceEqDiff, reduceIte, Nat.reduceMul, Nat.reduceSub, reduceCtorEq, Int.reduceNe, Int.reduceEq, ne_eq, Nat.reduceLeDiff, Nat.reduceMod, Nat.reduceDiv]
                  (repeat' first | (refine hK _ ?_; clear hK K') | ((first | with_reducible refine runA_id ?_ | with_reducible refine goA_id ?_); simp -implicitDefEqProofs (disch := omega) only [bytesD_at, numsD_at, u64_in, i64_in]; simp -implicitDefEqProofs only [go_sem, Nat.reduceLT, Nat.reduceAdd, Nat.reduceEqDiff, reduceIte, Nat.reduceMul, Nat.reduceSub, reduceCtorEq, Int.reduceNe, Int.reduceEq, ne_eq, Nat.reduceLeDiff, Nat.reduceMod, Nat.reduceDiv]) | with_reducible apply And.intro | (simp -implicitDefEqProofs (disch := omega) only [bytesD_at, numsD_at, u64_in, i64_in, List.length_cons, List.length_nil, Nat.reduceAdd]; done) | (simp only [maxLen]; omega) | omega)
                  all_goals
                    apply VC.at
                    · simp -implicitDefEqProofs only [go_sem, Nat.reduceLT, Nat.reduceAdd, Nat.reduceEqDiff, reduceIte, Nat.reduceMul, Nat.reduceSub, reduceCtorEq, Int.reduceNe, Int.reduceEq, ne_eq, Nat.reduceLeDiff, Nat.reduceMod, Nat.reduceDiv]; (try simp (disch := omega) only [i64_in, tmodn, tdivn]); exact rfl
                    apply VC.seq
                    apply VC.regt ΦR_ok [0, 4, 5, 7, 11, 12, 13, 18]; intro K' hK; dsimp only [List.take, List.drop, List.map, strip, stripG]; simp -implicitDefEqProofs only [go_sem, Nat.reduceLT, Nat.reduceAdd, Nat.reduceEqDiff, reduceIte, Nat.reduceMul, Nat.reduceSub, reduceCtorEq, Int.reduceNe, Int.reduceEq, ne_eq, Nat.reduceLeDiff, Nat.reduceMod, Nat.reduceDiv]
                    (repeat' first | (refine hK _ ?_; clear hK K') | with_reducible apply And.intro | (simp -implicitDefEqProofs (disch := omega) only [bytesD_at, numsD_at, u64_in, i64_in, List.length_cons, List.length_nil, Nat.reduceAdd]; done) | (simp only [maxLen]; omega) | omega)
                    all_goals
                      apply VC.at
                      · simp -implicitDefEqProofs only [go_sem, Nat.reduceLT, Nat.reduceAdd, Nat.reduceEqDiff, reduceIte, Nat.reduceMul, Nat.reduceSub, reduceCtorEq, Int.reduceNe, Int.reduceEq, ne_eq, Nat.reduceLeDiff, Nat.reduceMod, Nat.reduceDiv]; (try simp (disch := omega) only [i64_in, tmodn, tdivn]); exact rfl
                      first | (apply VC.condd; (focus (simp -implicitDefEqProofs only [go_sem, Nat.reduceLT, Nat.reduceAdd, Nat.reduceEqDiff, reduceIte, Nat.reduceMul, Nat.reduceSub, reduceCtorEq, Int.reduceNe, Int.reduceEq, ne_eq, Nat.reduceLeDiff, Nat.reduceMod, Nat.reduceDiv]; with_reducible exact rfl))) | (apply VC.condn; (focus (simp -implicitDefEqProofs only [go_sem, Nat.reduceLT, Nat.reduceAdd, Nat.reduceEqDiff, reduceIte, Nat.reduceMul, Nat.reduceSub, reduceCtorEq, Int.reduceNe, Int.reduceEq, ne_eq, Nat.reduceLeDiff, Nat.reduceMod, Nat.reduceDiv]; with_reducible exact rfl))) | (apply VC.condt; (focus (simp -implicitDefEqProofs only [go_sem, Nat.reduceLT, Nat.reduceAdd, Nat.reduceEqDiff, reduceIte, Nat.reduceMul, Nat.reduceSub, reduceCtorEq, Int.reduceNe, Int.reduceEq, ne_eq, Nat.reduceLeDiff, Nat.reduceMod, Nat.reduceDiv]; with_reducible exact rfl))) | (apply VC.condb; (focus (simp -implicitDefEqProofs only [go_sem, Nat.reduceLT, Nat.reduceAdd, Nat.reduceEqDiff, reduceIte, Nat.reduceMul, Nat.reduceSub, reduceCtorEq, Int.reduceNe, Int.reduceEq, ne_eq, Nat.reduceLeDiff, Nat.reduceMod, Nat.reduceDiv]; exact rfl)))
                      · intro h; try exact absurd h (by decide)
                        all_goals
                          apply VC.regt ΦR_ok [2, 3]; intro K' hK; dsimp only [List.take, List.drop, List.map, strip, stripG]; simp -implicitDefEqProofs only [go_sem, Nat.reduceLT, Nat.reduceAdd, Nat.reduceEqDiff, reduceIte, Nat.reduceMul, Nat.reduceSub, reduceCtorEq, Int.reduceNe, Int.reduceEq, ne_eq, Nat.reduceLeDiff, Nat.reduceMod, Nat.reduceDiv]
                          (repeat' first | (refine hK _ ?_; clear hK K') | with_reducible apply And.intro | (simp -implicitDefEqProofs (disch := omega) only [bytesD_at, numsD_at, u64_in, i64_in, List.length_cons, List.length_nil, Nat.reduceAdd]; done) | (simp only [maxLen]; omega) | omega)
                          all_goals
                            apply VC.at
                            · simp -implicitDefEqProofs only [go_sem, Nat.reduceLT, Nat.reduceAdd, Nat.reduceEqDiff, reduceIte, Nat.reduceMul, Nat.reduceSub, reduceCtorEq, Int.reduceNe, Int.reduceEq, ne_eq, Nat.reduceLeDiff, Nat.reduceMod, Nat.reduceDiv]; (try simp (disch := omega) only [i64_in, tmodn, tdivn]); exact rfl
                            apply VC.ret
                            refine thenK_r ?_
                            refine blockK_r ?_
                            refine thenK_r ?_
                            refine thenK_r ?_
                            refine blockK_r ?_
                            refine thenK_r ?_
                            simp -implicitDefEqProofs only [go_sem, Nat.reduceLT, Nat.reduceAdd, Nat.reduceEqDiff, reduceIte, Nat.reduceMul, Nat.reduceSub, reduceCtorEq, Int.reduceNe, Int.reduceEq, ne_eq, Nat.reduceLeDiff, Nat.reduceMod, Nat.reduceDiv]
                            first
                              | (rw [readS_none b (fun e => by rw [okS_no b k (by omega) (by omega)] at e; exact absurd e.1 (by decide))]; rfl)
                              | (rename_i hq
                                 have em : may (readX b) = false := by
                                   cases e : may (readX b) with
                                   | false => rfl
                                   | true => rw [e] at hq; exact absurd hq (by decide)
                                 rw [readS_none b (fun e => by rw [em] at e; exact absurd e.2.1 (by decide))]; rfl)
                              | (rw [readS_none b (fun e => h (by unfold encO; rw [if_pos e.2.1]; exact e.2.2))]; rfl)
                              | (rename_i hq
                                 have em : may (readX b) = true := by
                                   cases e : may (readX b) with
                                   | true => rfl
                                   | false => rw [e] at hq; exact absurd hq (by decide)
                                 rw [readS_some b ⟨okS_yes b (fun j hj' => hj j (by omega)), em, by unfold encO at h; rw [if_pos em] at h; exact h⟩]; rfl)
                      · intro h; try exact absurd h (by decide)
                        all_goals
                          apply VC.skip
                          refine thenK_n ?_
                          have hm7 : (b.getD k 0).toNat % 128 < 128 := Nat.mod_lt _ (by decide)
                          apply VC.regt ΦR_ok [0, 4, 5, 7, 11, 12, 13]; intro K' hK; dsimp only [List.take, List.drop, List.map, strip, stripG]; simp -implicitDefEqProofs only [go_sem, Nat.reduceLT, Nat.reduceAdd, Nat.reduceEqDiff, reduceIte, Nat.reduceMul, Nat.reduceSub, reduceCtorEq, Int.reduceNe, Int.reduceEq, ne_eq, Nat.reduceLeDiff, Nat.reduceMod, Nat.reduceDiv]
                          (repeat' first | (refine hK _ ?_; clear hK K') | with_reducible apply And.intro | (simp -implicitDefEqProofs (disch := omega) only [bytesD_at, numsD_at, u64_in, i64_in, List.length_cons, List.length_nil, Nat.reduceAdd]; done) | (simp only [maxLen]; omega) | omega)
                          all_goals
                            apply VC.at
                            · simp -implicitDefEqProofs only [go_sem, Nat.reduceLT, Nat.reduceAdd, Nat.reduceEqDiff, reduceIte, Nat.reduceMul, Nat.reduceSub, reduceCtorEq, Int.reduceNe, Int.reduceEq, ne_eq, Nat.reduceLeDiff, Nat.reduceMod, Nat.reduceDiv]; (try simp (disch := omega) only [i64_in, tmodn, tdivn]); (try simp (disch := omega) only [and7, conv7, shl7, or7]); exact rfl
                            apply VC.regt ΦR_ok [0, 4, 5, 11, 12, 13, 26]; intro K' hK; dsimp only [List.take, List.drop, List.map, strip, stripG]; simp -implicitDefEqProofs only [go_sem, Nat.reduceLT, Nat.reduceAdd, Nat.reduceEqDiff, reduceIte, Nat.reduceMul, Nat.reduceSub, reduceCtorEq, Int.reduceNe, Int.reduceEq, ne_eq, Nat.reduceLeDiff, Nat.reduceMod, Nat.reduceDiv]
                            (repeat' first | (refine hK _ ?_; clear hK K') | with_reducible apply And.intro | (simp -implicitDefEqProofs (disch := omega) only [bytesD_at, numsD_at, u64_in, i64_in, List.length_cons, List.length_nil, Nat.reduceAdd]; done) | (simp only [maxLen]; omega) | omega)
                            all_goals
                              apply VC.at
                              · simp -implicitDefEqProofs only [go_sem, Nat.reduceLT, Nat.reduceAdd, Nat.reduceEqDiff, reduceIte, Nat.reduceMul, Nat.reduceSub, reduceCtorEq, Int.reduceNe, Int.reduceEq, ne_eq, Nat.reduceLeDiff, Nat.reduceMod, Nat.reduceDiv]; (try simp (disch := omega) only [i64_in, tmodn, tdivn]); exact rfl
                              first | (apply VC.condd; (focus (simp -implicitDefEqProofs only [go_sem, Nat.reduceLT, Nat.reduceAdd, Nat.reduceEqDiff, reduceIte, Nat.reduceMul, Nat.reduceSub, reduceCtorEq, Int.reduceNe, Int.reduceEq, ne_eq, Nat.reduceLeDiff, Nat.reduceMod, Nat.reduceDiv]; with_reducible exact rfl))) | (apply VC.condn; (focus (simp -implicitDefEqProofs only [go_sem, Nat.reduceLT, Nat.reduceAdd, Nat.reduceEqDiff, reduceIte, Nat.reduceMul, Nat.reduceSub, reduceCtorEq, Int.reduceNe, Int.reduceEq, ne_eq, Nat.reduceLeDiff, Nat.reduceMod, Nat.reduceDiv]; with_reducible exact rfl))) | (apply VC.condt; (focus (simp -implicitDefEqProofs only [go_sem, Nat.reduceLT, Nat.reduceAdd, Nat.reduceEqDiff, reduceIte, Nat.reduceMul, Nat.reduceSub, reduceCtorEq, Int.reduceNe, Int.reduceEq, ne_eq, Nat.reduceLeDiff, Nat.reduceMod, Nat.reduceDiv]; with_reducible exact rfl))) | (apply VC.condb; (focus (simp -implicitDefEqProofs only [go_sem, Nat.reduceLT, Nat.reduceAdd, Nat.reduceEqDiff, reduceIte, Nat.reduceMul, Nat.reduceSub, reduceCtorEq, Int.reduceNe, Int.reduceEq, ne_eq, Nat.reduceLeDiff, Nat.reduceMod, Nat.reduceDiv]; exact rfl)))
                              · intro h; try exact absurd h (by decide)
                                all_goals
                                  apply VC.regLast ΦR_ok; intro K' hK; dsimp only [List.take, List.drop, List.map, strip, stripG]; simp -implicitDefEqProofs only [go_sem, Nat.reduceLT, Nat.reduceAdd, Nat.reduceEqDiff, reduceIte, Nat.reduceMul, Nat.reduceSub, reduceCtorEq, Int.reduceNe, Int.reduceEq, ne_eq, Nat.reduceLeDiff, Nat.reduceMod, Nat.reduceDiv]
                                  (repeat' first | (refine hK _ ?_; clear hK K') | with_reducible apply And.intro | (simp -implicitDefEqProofs (disch := omega) only [bytesD_at, numsD_at, u64_in, i64_in, List.length_cons, List.length_nil, Nat.reduceAdd]; done) | (simp only [maxLen]; omega) | omega)
                                  all_goals
                                    refine blockK_n ?_
                                    refine thenK_n ?_
                                    apply VC.regLast ΦR_ok; intro K' hK; dsimp only [List.take, List.drop, List.map, strip, stripG]; simp -implicitDefEqProofs only [go_sem, Nat.reduceLT, Nat.reduceAdd, Nat.reduceEqDiff, reduceIte, Nat.reduceMul, Nat.reduceSub, reduceCtorEq, Int.reduceNe, Int.reduceEq, ne_eq, Nat.reduceLeDiff, Nat.reduceMod, Nat.reduceDiv]
                                    (repeat' first | (refine hK _ ?_; clear hK K') | with_reducible apply And.intro | (simp -implicitDefEqProofs (disch := omega) only [bytesD_at, numsD_at, u64_in, i64_in, List.length_cons, List.length_nil, Nat.reduceAdd]; done) | (simp only [maxLen]; omega) | omega)
                                    all_goals
                                      refine thenK_n ?_
                                      have es := scanN_succ b k (by omega)
                                      first | rw [scanS, if_pos (by omega)] at es | rw [scanS, if_neg (by omega)] at es
                                      refine ⟨k + 1, ⟨by omega, fun j h' => ?_⟩, Ent.to rfl rfl rfl ?_ ?_, by omega⟩
                                      · rcases Nat.lt_or_ge j k with h2 | h2
                                        · exact hj j h2
                                        · obtain rfl : j = k := by omega
                                          omega
                                      · simp -implicitDefEqProofs only [go_sem, Nat.reduceLT, Nat.reduceAdd, Nat.reduceEqDiff, reduceIte, Nat.reduceMul, Nat.reduceSub, reduceCtorEq, Int.reduceNe, Int.reduceEq, ne_eq, Nat.reduceLeDiff, Nat.reduceMod, Nat.reduceDiv, es]; (try simp (disch := omega) only [i64_in, tmodn, tdivn]); (try simp only [List.length_append, List.length_cons, List.length_nil]); (try simp only [D.dat.injEq, Vm.Data.int.injEq, true_and, and_true, and_self, eq_self]); (try omega); (try ((repeat' apply And.intro) <;> first | omega | rfl))
                                      · (repeat' (first | exact all_nil | (refine all_cons ?_ ?_))) <;> (simp -implicitDefEqProofs only [go_sem, Nat.reduceLT, Nat.reduceAdd, Nat.reduceEqDiff, reduceIte, Nat.reduceMul, Nat.reduceSub, reduceCtorEq, Int.reduceNe, Int.reduceEq, ne_eq, Nat.reduceLeDiff, Nat.reduceMod, Nat.reduceDiv]; (try rfl); try (first | (rw [es]; done) | (rw [es]; simp only [numsD_snoc]; done)))
                              · intro h; try exact absurd h (by decide)
                                all_goals
                                  apply VC.skip
                                  refine blockK_n ?_
                                  refine thenK_n ?_
                                  apply VC.regLast ΦR_ok; intro K' hK; dsimp only [List.take, List.drop, List.map, strip, stripG]; simp -implicitDefEqProofs only [go_sem, Nat.reduceLT, Nat.reduceAdd, Nat.reduceEqDiff, reduceIte, Nat.reduceMul, Nat.reduceSub, reduceCtorEq, Int.reduceNe, Int.reduceEq, ne_eq, Nat.reduceLeDiff, Nat.reduceMod, Nat.reduceDiv]
                                  (repeat' first | (refine hK _ ?_; clear hK K') | with_reducible apply And.intro | (simp -implicitDefEqProofs (disch := omega) only [bytesD_at, numsD_at, u64_in, i64_in, List.length_cons, List.length_nil, Nat.reduceAdd]; done) | (simp only [maxLen]; omega) | omega)
                                  all_goals
                                    refine thenK_n ?_
                                    have es := scanN_succ b k (by omega)
                                    first | rw [scanS, if_pos (by omega)] at es | rw [scanS, if_neg (by omega)] at es
                                    refine ⟨k + 1, ⟨by omega, fun j h' => ?_⟩, Ent.to rfl rfl rfl ?_ ?_, by omega⟩
                                    · rcases Nat.lt_or_ge j k with h2 | h2
                                      · exact hj j h2
                                      · obtain rfl : j = k := by omega
                                        omega
                                    · simp -implicitDefEqProofs only [go_sem, Nat.reduceLT, Nat.reduceAdd, Nat.reduceEqDiff, reduceIte, Nat.reduceMul, Nat.reduceSub, reduceCtorEq, Int.reduceNe, Int.reduceEq, ne_eq, Nat.reduceLeDiff, Nat.reduceMod, Nat.reduceDiv, es]; (try simp (disch := omega) only [i64_in, tmodn, tdivn]); (try simp only [List.length_append, List.length_cons, List.length_nil]); (try simp only [D.dat.injEq, Vm.Data.int.injEq, true_and, and_true, and_self, eq_self]); (try omega); (try ((repeat' apply And.intro) <;> first | omega | rfl))
                                    · (repeat' (first | exact all_nil | (refine all_cons ?_ ?_))) <;> (simp -implicitDefEqProofs only [go_sem, Nat.reduceLT, Nat.reduceAdd, Nat.reduceEqDiff, reduceIte, Nat.reduceMul, Nat.reduceSub, reduceCtorEq, Int.reduceNe, Int.reduceEq, ne_eq, Nat.reduceLeDiff, Nat.reduceMod, Nat.reduceDiv]; (try rfl); try (first | (rw [es]; done) | (rw [es]; simp only [numsD_snoc]; done)))
              · intro h; try exact absurd h (by decide)
                all_goals
                  apply VC.exit
                  refine thenK_e ?_
                  refine thenK_e ?_
                  refine blockK_e ?_
                  refine thenK_n ?_
                  refine VC.cutP (ι := Unit) [0] (fun i => [(4, .sl 1 0 (readX b).length)]) (fun _ => [(1, .arr 36 1 (numsD (readX b)) 0)]) (fun i => True) ?_ ?_
                  · apply VC.regt ΦR_ok [0, 4, 34]; intro K' hK; dsimp only [List.take, List.drop, List.map, strip, stripG]; simp -implicitDefEqProofs only [go_sem, Nat.reduceLT, Nat.reduceAdd, Nat.reduceEqDiff, reduceIte, Nat.reduceMul, Nat.reduceSub, reduceCtorEq, Int.reduceNe, Int.reduceEq, ne_eq, Nat.reduceLeDiff, Nat.reduceMod, Nat.reduceDiv]
                    (repeat' first | (refine hK _ ?_; clear hK K') | with_reducible apply And.intro | (simp -implicitDefEqProofs (disch := omega) only [bytesD_at, numsD_at, u64_in, i64_in, List.length_cons, List.length_nil, Nat.reduceAdd]; done) | (simp only [maxLen]; omega) | omega)
                    all_goals
                      apply VC.at
                      · simp -implicitDefEqProofs only [go_sem, Nat.reduceLT, Nat.reduceAdd, Nat.reduceEqDiff, reduceIte, Nat.reduceMul, Nat.reduceSub, reduceCtorEq, Int.reduceNe, Int.reduceEq, ne_eq, Nat.reduceLeDiff, Nat.reduceMod, Nat.reduceDiv]; (try simp (disch := omega) only [i64_in, tmodn, tdivn]); exact rfl
                      first | (apply VC.condd; (focus (simp -implicitDefEqProofs only [go_sem, Nat.reduceLT, Nat.reduceAdd, Nat.reduceEqDiff, reduceIte, Nat.reduceMul, Nat.reduceSub, reduceCtorEq, Int.reduceNe, Int.reduceEq, ne_eq, Nat.reduceLeDiff, Nat.reduceMod, Nat.reduceDiv]; with_reducible exact rfl))) | (apply VC.condn; (focus (simp -implicitDefEqProofs only [go_sem, Nat.reduceLT, Nat.reduceAdd, Nat.reduceEqDiff, reduceIte, Nat.reduceMul, Nat.reduceSub, reduceCtorEq, Int.reduceNe, Int.reduceEq, ne_eq, Nat.reduceLeDiff, Nat.reduceMod, Nat.reduceDiv]; with_reducible exact rfl))) | (apply VC.condt; (focus (simp -implicitDefEqProofs only [go_sem, Nat.reduceLT, Nat.reduceAdd, Nat.reduceEqDiff, reduceIte, Nat.reduceMul, Nat.reduceSub, reduceCtorEq, Int.reduceNe, Int.reduceEq, ne_eq, Nat.reduceLeDiff, Nat.reduceMod, Nat.reduceDiv]; with_reducible exact rfl))) | (apply VC.condb; (focus (simp -implicitDefEqProofs only [go_sem, Nat.reduceLT, Nat.reduceAdd, Nat.reduceEqDiff, reduceIte, Nat.reduceMul, Nat.reduceSub, reduceCtorEq, Int.reduceNe, Int.reduceEq, ne_eq, Nat.reduceLeDiff, Nat.reduceMod, Nat.reduceDiv]; exact rfl)))
                      · intro h; try exact absurd h (by decide)
                        all_goals
                          obtain ⟨x, r, hxr⟩ : ∃ x r, (scanN b k).2 = x :: r := List.exists_cons_of_length_pos (by omega)
                          have hx : x ≤ 9223372036854775807 := scanN_le b k hk hj x (by rw [hxr]; simp)
                          rw [hxr]; simp only [numsD_cons, List.length_cons]
                          have hrl0 : r.length + 1 ≤ k := by rw [hxr] at hsl; simpa using hsl
                          apply VC.regt ΦR_ok [0, 4, 8]; intro K' hK; dsimp only [List.take, List.drop, List.map, strip, stripG]; simp -implicitDefEqProofs only [go_sem, Nat.reduceLT, Nat.reduceAdd, Nat.reduceEqDiff, reduceIte, Nat.reduceMul, Nat.reduceSub, reduceCtorEq, Int.reduceNe, Int.reduceEq, ne_eq, Nat.reduceLeDiff, Nat.reduceMod, Nat.reduceDiv]
                          (repeat' first | (refine hK _ ?_; clear hK K') | ((first | with_reducible refine runA_id ?_ | with_reducible refine goA_id ?_); simp -implicitDefEqProofs (disch := omega) only [bytesD_at, numsD_at, u64_in, i64_in]; simp -implicitDefEqProofs only [go_sem, Nat.reduceLT, Nat.reduceAdd, Nat.reduceEqDiff, reduceIte, Nat.reduceMul, Nat.reduceSub, reduceCtorEq, Int.reduceNe, Int.reduceEq, ne_eq, Nat.reduceLeDiff, Nat.reduceMod, Nat.reduceDiv]) | with_reducible apply And.intro | (simp -implicitDefEqProofs (disch := omega) only [bytesD_at, numsD_at, u64_in, i64_in, List.length_cons, List.length_nil, Nat.reduceAdd]; done) | (simp only [maxLen]; omega) | omega)
                          all_goals
                            apply VC.at
                            · simp -implicitDefEqProofs only [go_sem, Nat.reduceLT, Nat.reduceAdd, Nat.reduceEqDiff, reduceIte, Nat.reduceMul, Nat.reduceSub, reduceCtorEq, Int.reduceNe, Int.reduceEq, ne_eq, Nat.reduceLeDiff, Nat.reduceMod, Nat.reduceDiv]; (try simp (disch := omega) only [i64_in, tmodn, tdivn]); (try simp only [min40 x hx]); exact rfl
                            apply VC.regt ΦR_ok [0, 4, 8]; intro K' hK; dsimp only [List.take, List.drop, List.map, strip, stripG]; simp -implicitDefEqProofs only [go_sem, Nat.reduceLT, Nat.reduceAdd, Nat.reduceEqDiff, reduceIte, Nat.reduceMul, Nat.reduceSub, reduceCtorEq, Int.reduceNe, Int.reduceEq, ne_eq, Nat.reduceLeDiff, Nat.reduceMod, Nat.reduceDiv]
                            (repeat' first | (refine hK _ ?_; clear hK K') | ((first | with_reducible refine runA_id ?_ | with_reducible refine goA_id ?_); simp -implicitDefEqProofs (disch := omega) only [bytesD_at, numsD_at, u64_in, i64_in]; simp -implicitDefEqProofs only [go_sem, Nat.reduceLT, Nat.reduceAdd, Nat.reduceEqDiff, reduceIte, Nat.reduceMul, Nat.reduceSub, reduceCtorEq, Int.reduceNe, Int.reduceEq, ne_eq, Nat.reduceLeDiff, Nat.reduceMod, Nat.reduceDiv]) | with_reducible apply And.intro | (simp -implicitDefEqProofs (disch := omega) only [bytesD_at, numsD_at, u64_in, i64_in, List.length_cons, List.length_nil, Nat.reduceAdd]; done) | (simp only [maxLen]; omega) | omega)
                            all_goals
                              apply VC.at
                              · simp -implicitDefEqProofs only [go_sem, Nat.reduceLT, Nat.reduceAdd, Nat.reduceEqDiff, reduceIte, Nat.reduceMul, Nat.reduceSub, reduceCtorEq, Int.reduceNe, Int.reduceEq, ne_eq, Nat.reduceLeDiff, Nat.reduceMod, Nat.reduceDiv]; (try simp (disch := omega) only [i64_in, tmodn, tdivn]); (try simp only [sub40 x hx]); exact rfl
                              apply VC.regLast ΦR_ok; intro K' hK; dsimp only [List.take, List.drop, List.map, strip, stripG]; simp -implicitDefEqProofs only [go_sem, Nat.reduceLT, Nat.reduceAdd, Nat.reduceEqDiff, reduceIte, Nat.reduceMul, Nat.reduceSub, reduceCtorEq, Int.reduceNe, Int.reduceEq, ne_eq, Nat.reduceLeDiff, Nat.reduceMod, Nat.reduceDiv]
                              apply insert_ok
                              · simp -implicitDefEqProofs only [go_sem, Nat.reduceLT, Nat.reduceAdd, Nat.reduceEqDiff, reduceIte, Nat.reduceMul, Nat.reduceSub, reduceCtorEq, Int.reduceNe, Int.reduceEq, ne_eq, Nat.reduceLeDiff, Nat.reduceMod, Nat.reduceDiv]; exact rfl
                              · simp only [List.length_cons, numsD_len]
                              · omega
                              · omega
                              · simp -implicitDefEqProofs only [go_sem, Nat.reduceLT, Nat.reduceAdd, Nat.reduceEqDiff, reduceIte, Nat.reduceMul, Nat.reduceSub, reduceCtorEq, Int.reduceNe, Int.reduceEq, ne_eq, Nat.reduceLeDiff, Nat.reduceMod, Nat.reduceDiv]; exact rfl
                              · decide
                              · simp -implicitDefEqProofs only [go_sem, Nat.reduceLT, Nat.reduceAdd, Nat.reduceEqDiff, reduceIte, Nat.reduceMul, Nat.reduceSub, reduceCtorEq, Int.reduceNe, Int.reduceEq, ne_eq, Nat.reduceLeDiff, Nat.reduceMod, Nat.reduceDiv]
                              simp -implicitDefEqProofs only [go_sem, Nat.reduceLT, Nat.reduceAdd, Nat.reduceEqDiff, reduceIte, Nat.reduceMul, Nat.reduceSub, reduceCtorEq, Int.reduceNe, Int.reduceEq, ne_eq, Nat.reduceLeDiff, Nat.reduceMod, Nat.reduceDiv]
                              (repeat' first | (refine hK _ ?_; clear hK K') | ((first | with_reducible refine runA_id ?_ | with_reducible refine goA_id ?_); simp -implicitDefEqProofs (disch := omega) only [bytesD_at, numsD_at, u64_in, i64_in]; simp -implicitDefEqProofs only [go_sem, Nat.reduceLT, Nat.reduceAdd, Nat.reduceEqDiff, reduceIte, Nat.reduceMul, Nat.reduceSub, reduceCtorEq, Int.reduceNe, Int.reduceEq, ne_eq, Nat.reduceLeDiff, Nat.reduceMod, Nat.reduceDiv]) | with_reducible apply And.intro | (simp -implicitDefEqProofs (disch := omega) only [bytesD_at, numsD_at, u64_in, i64_in, List.length_cons, List.length_nil, Nat.reduceAdd]; done) | (simp only [maxLen]; omega) | omega)
                              all_goals
                                refine thenK_n ?_
                                have ek : k = b.length := by omega
                                first
                                  | (have e0 : readX b = [] := by (unfold readX; rw [← ek, List.eq_nil_of_length_eq_zero (show (scanN b k).2.length = 0 by omega)]; rfl)
                                     rw [e0, List.eq_nil_of_length_eq_zero (show (scanN b k).2.length = 0 by omega)]; exact ⟨(), trivial, Ent.to rfl rfl rfl (by simp -implicitDefEqProofs only [go_sem, Nat.reduceLT, Nat.reduceAdd, Nat.reduceEqDiff, reduceIte, Nat.reduceMul, Nat.reduceSub, reduceCtorEq, Int.reduceNe, Int.reduceEq, ne_eq, Nat.reduceLeDiff, Nat.reduceMod, Nat.reduceDiv]) (by (repeat' (first | exact all_nil | (refine all_cons ?_ ?_))) <;> (simp -implicitDefEqProofs only [go_sem, Nat.reduceLT, Nat.reduceAdd, Nat.reduceEqDiff, reduceIte, Nat.reduceMul, Nat.reduceSub, reduceCtorEq, Int.reduceNe, Int.reduceEq, ne_eq, Nat.reduceLeDiff, Nat.reduceMod, Nat.reduceDiv]; (try rfl); skip))⟩)
                                  | (have e0 : readX b = min (x / 40) 2 :: (x - 40 * min (x / 40) 2) :: r := by (unfold readX; rw [← ek, hxr]; rfl)
                                     rw [e0]; simp only [numsD_cons]; exact ⟨(), trivial, Ent.to rfl rfl rfl (by simp -implicitDefEqProofs only [go_sem, Nat.reduceLT, Nat.reduceAdd, Nat.reduceEqDiff, reduceIte, Nat.reduceMul, Nat.reduceSub, reduceCtorEq, Int.reduceNe, Int.reduceEq, ne_eq, Nat.reduceLeDiff, Nat.reduceMod, Nat.reduceDiv]) (by (repeat' (first | exact all_nil | (refine all_cons ?_ ?_))) <;> (simp -implicitDefEqProofs only [go_sem, Nat.reduceLT, Nat.reduceAdd, Nat.reduceEqDiff, reduceIte, Nat.reduceMul, Nat.reduceSub, reduceCtorEq, Int.reduceNe, Int.reduceEq, ne_eq, Nat.reduceLeDiff, Nat.reduceMod, Nat.reduceDiv]; (try rfl); skip))⟩)
                      · intro h; try exact absurd h (by decide)
                        all_goals
                          apply VC.skip
                          refine thenK_n ?_
                          have ek : k = b.length := by omega
                          first
                            | (have e0 : readX b = [] := by (unfold readX; rw [← ek, List.eq_nil_of_length_eq_zero (show (scanN b k).2.length = 0 by omega)]; rfl)
                               rw [e0, List.eq_nil_of_length_eq_zero (show (scanN b k).2.length = 0 by omega)]; exact ⟨(), trivial, Ent.to rfl rfl rfl (by simp -implicitDefEqProofs only [go_sem, Nat.reduceLT, Nat.reduceAdd, Nat.reduceEqDiff, reduceIte, Nat.reduceMul, Nat.reduceSub, reduceCtorEq, Int.reduceNe, Int.reduceEq, ne_eq, Nat.reduceLeDiff, Nat.reduceMod, Nat.reduceDiv]) (by (repeat' (first | exact all_nil | (refine all_cons ?_ ?_))) <;> (simp -implicitDefEqProofs only [go_sem, Nat.reduceLT, Nat.reduceAdd, Nat.reduceEqDiff, reduceIte, Nat.reduceMul, Nat.reduceSub, reduceCtorEq, Int.reduceNe, Int.reduceEq, ne_eq, Nat.reduceLeDiff, Nat.reduceMod, Nat.reduceDiv]; (try rfl); skip))⟩)
                            | (have e0 : readX b = min (x / 40) 2 :: (x - 40 * min (x / 40) 2) :: r := by (unfold readX; rw [← ek, hxr]; rfl)
                               rw [e0]; simp only [numsD_cons]; exact ⟨(), trivial, Ent.to rfl rfl rfl (by simp -implicitDefEqProofs only [go_sem, Nat.reduceLT, Nat.reduceAdd, Nat.reduceEqDiff, reduceIte, Nat.reduceMul, Nat.reduceSub, reduceCtorEq, Int.reduceNe, Int.reduceEq, ne_eq, Nat.reduceLeDiff, Nat.reduceMod, Nat.reduceDiv]) (by (repeat' (first | exact all_nil | (refine all_cons ?_ ?_))) <;> (simp -implicitDefEqProofs only [go_sem, Nat.reduceLT, Nat.reduceAdd, Nat.reduceEqDiff, reduceIte, Nat.reduceMul, Nat.reduceSub, reduceCtorEq, Int.reduceNe, Int.reduceEq, ne_eq, Nat.reduceLeDiff, Nat.reduceMod, Nat.reduceDiv]; (try rfl); skip))⟩)
                  rintro ⟨⟩ -; have hrl := readX_len b; have hel := encO_len (readX b)
                  apply VC.at
                  · simp -implicitDefEqProofs only [go_sem, Nat.reduceLT, Nat.reduceAdd, Nat.reduceEqDiff, reduceIte, Nat.reduceMul, Nat.reduceSub, reduceCtorEq, Int.reduceNe, Int.reduceEq, ne_eq, Nat.reduceLeDiff, Nat.reduceMod, Nat.reduceDiv]; (try simp (disch := omega) only [i64_in, tmodn, tdivn]); exact rfl
                  apply VC.seq
                  apply VC.regt ΦR_ok [0, 4, 9, 10]; intro K' hK; dsimp only [List.take, List.drop, List.map, strip, stripG]; simp -implicitDefEqProofs only [go_sem, Nat.reduceLT, Nat.reduceAdd, Nat.reduceEqDiff, reduceIte, Nat.reduceMul, Nat.reduceSub, reduceCtorEq, Int.reduceNe, Int.reduceEq, ne_eq, Nat.reduceLeDiff, Nat.reduceMod, Nat.reduceDiv]
                  (repeat' first | (refine hK _ ?_; clear hK K') | ((first | with_reducible refine runA_id ?_ | with_reducible refine goA_id ?_); simp -implicitDefEqProofs (disch := omega) only [bytesD_at, numsD_at, u64_in, i64_in]; simp -implicitDefEqProofs only [go_sem, Nat.reduceLT, Nat.reduceAdd, Nat.reduceEqDiff, reduceIte, Nat.reduceMul, Nat.reduceSub, reduceCtorEq, Int.reduceNe, Int.reduceEq, ne_eq, Nat.reduceLeDiff, Nat.reduceMod, Nat.reduceDiv]) | with_reducible apply And.intro | (simp -implicitDefEqProofs (disch := omega) only [bytesD_at, numsD_at, u64_in, i64_in, List.length_cons, List.length_nil, Nat.reduceAdd]; done) | (simp only [maxLen]; omega) | omega)
                  all_goals
                    apply VC.at
                    · simp -implicitDefEqProofs only [go_sem, Nat.reduceLT, Nat.reduceAdd, Nat.reduceEqDiff, reduceIte, Nat.reduceMul, Nat.reduceSub, reduceCtorEq, Int.reduceNe, Int.reduceEq, ne_eq, Nat.reduceLeDiff, Nat.reduceMod, Nat.reduceDiv]; (try simp (disch := omega) only [i64_in, tmodn, tdivn]); exact rfl
                    apply VC.regt ΦR_ok [4, 63]; intro K' hK; dsimp only [List.take, List.drop, List.map, strip, stripG]; simp only [gtmp, List.getElem?_toArray, List.getElem?_cons_succ, List.getElem?_cons_zero, Option.bind_some]; simp -implicitDefEqProofs only [go_sem, Nat.reduceLT, Nat.reduceAdd, Nat.reduceEqDiff, reduceIte, Nat.reduceMul, Nat.reduceSub, reduceCtorEq, Int.reduceNe, Int.reduceEq, ne_eq, Nat.reduceLeDiff, Nat.reduceMod, Nat.reduceDiv]
                    (repeat' first | (refine hK _ ?_; clear hK K') | (first | apply goB_splitD | apply goA_splitD | apply goB_split | apply goA_split | apply goA_all) <;> intro _ <;> simp -implicitDefEqProofs only [go_sem, Nat.reduceLT, Nat.reduceAdd, Nat.reduceEqDiff, reduceIte, Nat.reduceMul, Nat.reduceSub, reduceCtorEq, Int.reduceNe, Int.reduceEq, ne_eq, Nat.reduceLeDiff, Nat.reduceMod, Nat.reduceDiv] | ((first | with_reducible refine runA_id ?_ | with_reducible refine goA_id ?_); simp -implicitDefEqProofs (disch := omega) only [bytesD_at, numsD_at, u64_in, i64_in]; simp -implicitDefEqProofs only [go_sem, Nat.reduceLT, Nat.reduceAdd, Nat.reduceEqDiff, reduceIte, Nat.reduceMul, Nat.reduceSub, reduceCtorEq, Int.reduceNe, Int.reduceEq, ne_eq, Nat.reduceLeDiff, Nat.reduceMod, Nat.reduceDiv]) | with_reducible apply And.intro | (simp -implicitDefEqProofs (disch := omega) only [bytesD_at, numsD_at, u64_in, i64_in, List.length_cons, List.length_nil, Nat.reduceAdd]; done) | (simp only [maxLen]; omega) | omega)
                    all_goals
                      apply VC.at
                      · simp -implicitDefEqProofs only [go_sem, Nat.reduceLT, Nat.reduceAdd, Nat.reduceEqDiff, reduceIte, Nat.reduceMul, Nat.reduceSub, reduceCtorEq, Int.reduceNe, Int.reduceEq, ne_eq, Nat.reduceLeDiff, Nat.reduceMod, Nat.reduceDiv]; (try simp (disch := omega) only [i64_in, tmodn, tdivn]); exact rfl
                      first | (apply VC.condd; (focus (simp -implicitDefEqProofs only [go_sem, Nat.reduceLT, Nat.reduceAdd, Nat.reduceEqDiff, reduceIte, Nat.reduceMul, Nat.reduceSub, reduceCtorEq, Int.reduceNe, Int.reduceEq, ne_eq, Nat.reduceLeDiff, Nat.reduceMod, Nat.reduceDiv]; with_reducible exact rfl))) | (apply VC.condn; (focus (simp -implicitDefEqProofs only [go_sem, Nat.reduceLT, Nat.reduceAdd, Nat.reduceEqDiff, reduceIte, Nat.reduceMul, Nat.reduceSub, reduceCtorEq, Int.reduceNe, Int.reduceEq, ne_eq, Nat.reduceLeDiff, Nat.reduceMod, Nat.reduceDiv]; with_reducible exact rfl))) | (apply VC.condt; (focus (simp -implicitDefEqProofs only [go_sem, Nat.reduceLT, Nat.reduceAdd, Nat.reduceEqDiff, reduceIte, Nat.reduceMul, Nat.reduceSub, reduceCtorEq, Int.reduceNe, Int.reduceEq, ne_eq, Nat.reduceLeDiff, Nat.reduceMod, Nat.reduceDiv]; with_reducible exact rfl))) | (apply VC.condb; (focus (simp -implicitDefEqProofs only [go_sem, Nat.reduceLT, Nat.reduceAdd, Nat.reduceEqDiff, reduceIte, Nat.reduceMul, Nat.reduceSub, reduceCtorEq, Int.reduceNe, Int.reduceEq, ne_eq, Nat.reduceLeDiff, Nat.reduceMod, Nat.reduceDiv]; exact rfl)))
                      · intro h; try exact absurd h (by decide)
                        all_goals
                          apply VC.regt ΦR_ok [2, 3]; intro K' hK; dsimp only [List.take, List.drop, List.map, strip, stripG]; simp -implicitDefEqProofs only [go_sem, Nat.reduceLT, Nat.reduceAdd, Nat.reduceEqDiff, reduceIte, Nat.reduceMul, Nat.reduceSub, reduceCtorEq, Int.reduceNe, Int.reduceEq, ne_eq, Nat.reduceLeDiff, Nat.reduceMod, Nat.reduceDiv]
                          (repeat' first | (refine hK _ ?_; clear hK K') | with_reducible apply And.intro | (simp -implicitDefEqProofs (disch := omega) only [bytesD_at, numsD_at, u64_in, i64_in, List.length_cons, List.length_nil, Nat.reduceAdd]; done) | (simp only [maxLen]; omega) | omega)
                          all_goals
                            apply VC.at
                            · simp -implicitDefEqProofs only [go_sem, Nat.reduceLT, Nat.reduceAdd, Nat.reduceEqDiff, reduceIte, Nat.reduceMul, Nat.reduceSub, reduceCtorEq, Int.reduceNe, Int.reduceEq, ne_eq, Nat.reduceLeDiff, Nat.reduceMod, Nat.reduceDiv]; (try simp (disch := omega) only [i64_in, tmodn, tdivn]); exact rfl
                            apply VC.ret
                            refine thenK_r ?_
                            simp -implicitDefEqProofs only [go_sem, Nat.reduceLT, Nat.reduceAdd, Nat.reduceEqDiff, reduceIte, Nat.reduceMul, Nat.reduceSub, reduceCtorEq, Int.reduceNe, Int.reduceEq, ne_eq, Nat.reduceLeDiff, Nat.reduceMod, Nat.reduceDiv]
                            first
                              | (rw [readS_none b (fun e => by rw [okS_no b k (by omega) (by omega)] at e; exact absurd e.1 (by decide))]; rfl)
                              | (rename_i hq
                                 have em : may (readX b) = false := by
                                   cases e : may (readX b) with
                                   | false => rfl
                                   | true => rw [e] at hq; exact absurd hq (by decide)
                                 rw [readS_none b (fun e => by rw [em] at e; exact absurd e.2.1 (by decide))]; rfl)
                              | (rw [readS_none b (fun e => h (by unfold encO; rw [if_pos e.2.1]; exact e.2.2))]; rfl)
                              | (rename_i hq
                                 have em : may (readX b) = true := by
                                   cases e : may (readX b) with
                                   | true => rfl
                                   | false => rw [e] at hq; exact absurd hq (by decide)
                                 rw [readS_some b ⟨okS_yes b (fun j hj' => hj j (by omega)), em, by unfold encO at h; rw [if_pos em] at h; exact h⟩]; rfl)
                      · intro h; try exact absurd h (by decide)
                        all_goals
                          apply VC.skip
                          refine thenK_n ?_
                          apply VC.regt ΦR_ok [2, 3]; intro K' hK; dsimp only [List.take, List.drop, List.map, strip, stripG]; simp -implicitDefEqProofs only [go_sem, Nat.reduceLT, Nat.reduceAdd, Nat.reduceEqDiff, reduceIte, Nat.reduceMul, Nat.reduceSub, reduceCtorEq, Int.reduceNe, Int.reduceEq, ne_eq, Nat.reduceLeDiff, Nat.reduceMod, Nat.reduceDiv]
                          (repeat' first | (refine hK _ ?_; clear hK K') | with_reducible apply And.intro | (simp -implicitDefEqProofs (disch := omega) only [bytesD_at, numsD_at, u64_in, i64_in, List.length_cons, List.length_nil, Nat.reduceAdd]; done) | (simp only [maxLen]; omega) | omega)
                          all_goals
                            apply VC.at
                            · simp -implicitDefEqProofs only [go_sem, Nat.reduceLT, Nat.reduceAdd, Nat.reduceEqDiff, reduceIte, Nat.reduceMul, Nat.reduceSub, reduceCtorEq, Int.reduceNe, Int.reduceEq, ne_eq, Nat.reduceLeDiff, Nat.reduceMod, Nat.reduceDiv]; (try simp (disch := omega) only [i64_in, tmodn, tdivn]); exact rfl
                            apply VC.ret
                            simp -implicitDefEqProofs only [go_sem, Nat.reduceLT, Nat.reduceAdd, Nat.reduceEqDiff, reduceIte, Nat.reduceMul, Nat.reduceSub, reduceCtorEq, Int.reduceNe, Int.reduceEq, ne_eq, Nat.reduceLeDiff, Nat.reduceMod, Nat.reduceDiv]
                            first
                              | (rw [readS_none b (fun e => by rw [okS_no b k (by omega) (by omega)] at e; exact absurd e.1 (by decide))]; rfl)
                              | (rename_i hq
                                 have em : may (readX b) = false := by
                                   cases e : may (readX b) with
                                   | false => rfl
                                   | true => rw [e] at hq; exact absurd hq (by decide)
                                 rw [readS_none b (fun e => by rw [em] at e; exact absurd e.2.1 (by decide))]; rfl)
                              | (rw [readS_none b (fun e => h (by unfold encO; rw [if_pos e.2.1]; exact e.2.2))]; rfl)
                              | (rename_i hq
                                 have em : may (readX b) = true := by
                                   cases e : may (readX b) with
                                   | true => rfl
                                   | false => rw [e] at hq; exact absurd hq (by decide)
                                 rw [readS_some b ⟨okS_yes b (fun j hj' => hj j (by omega)), em, by unfold encO at h; rw [if_pos em] at h; exact h⟩]; rfl)
end Go.Proofs.YtgfadocohpinmaaDoor.Oa

