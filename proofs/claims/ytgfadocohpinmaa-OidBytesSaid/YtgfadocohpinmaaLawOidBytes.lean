/- For any bytes: they are an object identifier's just if each number's first byte is not 128, the last byte is below 128, and the numbers go so far; one byte more of 0 is one number more: the row of OidBytes. No condition. -/
import Derived.Test.YtgfadocohpinmaaRows
import Derived.Test.YtgfadocohpinmaaOaE
import Derived.WalkKit
import Derived.ProofKit
import Derived.OpenShut
import Derived.ShutString
import Derived.ChangeOld
import Derived.Below
import Derived.SizedLaws
import Derived.Lib.SmallJoins
import Derived.Carry
namespace Go.Proofs.Ytgfadocohpinmaa.oidBytes
open Go.ChangeShapes Go.WideShapes Go.ChangeAt Go.RowKit Go.Joins
set_option linter.unusedVariables false
theorem laidOut : laidOutB Try.prog = true := by kernel_rfl
theorem own : ownKnob Try.prog.godebug = none := by kernel_rfl
open Go.Proofs.Ytgfadocohpinmaa.Vm Go.Proofs.Ytgfadocohpinmaa.Oa in
theorem calls (l : List UInt8) (v0 : Value) (w : World) (h0 : RV w (All w) (.lst (bytesD l)) v0) : Calls Try.prog 4 #[v0] w fun e w' => e = .returned (.bool true) ∧ Below w.heap.size w w' := by
  refine ((obytes_ok w (All w) #[v0] [.lst (bytesD l)] (fun _ _ h => h) (fun g cs h => by cases h) ?_ (by rw [obytes_pre]; trivial)).calls fun _ _ h => by simp [Fw, Fence.wide] at h).mono ?_
  · simp only [RVs]
    exact ⟨_, _, rfl, h0, rfl⟩
  · rintro e w' ⟨v, rfl, hb, hv⟩
    simp only [obytes_res, retD, RVD, RV] at hv
    subst hv
    exact ⟨rfl, hb⟩
set_option maxRecDepth 100000 in
theorem lifted (os : Os) (started : os.Started) (H : Type) (enc : TypeId × Value → H) :
    ReturnsInHanded {} Try.checked os 4 .any (Rows.oidBytesSpec.pre6 enc Try.prog Try.f4 Rows.oidBytesRow.domain false) (Rows.oidBytesSpec.post enc Try.prog Try.f4 false true false false) := by
  refine returnsInHanded_of_change_sized (C := Try.checked) own started (by kernel_rfl) Try.func4
    (ChangeSpec.witness6 (enc := enc) (C := Try.checked) false ⟨#[], #[.slice none 0 0], []⟩ 8 (by kernel_rfl) (by kernel_rfl) (by kernel_rfl) (by kernel_rfl)) ?_
  intro W base args ds gs before hval0 hW hcnd hsz0 _
  have hval : ∀ (j : Nat) t v, Try.f4.params[j]? = some t → args[j]? = some v → Value.okWide Try.prog W .any base t v := hval0
  have hW' := hW
  obtain ⟨p, q, hA0, hV, rfl, hfz, hnd⟩ := hW
  have hA : DataW.TrodAll enc Try.prog W 0 (fun _ => true) true Try.f4.params.toList args.toList ds p := hA0
  rw [Try.params4] at hA hval
  obtain ⟨v0, vs0, d0, ds0, p0, q0, hargs, rfl, rfl, h0, r0⟩ := trodAll_cons hA
  obtain ⟨rfl, rfl, rfl⟩ := trodAll_nil r0
  obtain rfl : args = #[v0] := by cases args; simp_all
  obtain ⟨rfl, rfl⟩ := trodVars_none hV
  have lt0 : ∀ x ∈ p0, x.block < W.heap.size := by obtain ⟨m, hm⟩ := h0; exact DataW.trod_lt m _ _ _ hm
  obtain ⟨z0, w0, y0, g0⟩ := Go.Proofs.Ytgfadocohpinmaa.Vm.open_row Try.underlying24 Try.underlying5 (by kernel_rfl) (hval 0 24 v0 rfl rfl) h0
  obtain ⟨l0, e0, n0⟩ := Go.Proofs.Ytgfadocohpinmaa.Vm.bytes_of z0 w0
  rw [e0] at g0
  refine (calls l0 v0 W g0).mono fun e W' ⟨he, bel⟩ => ?_
  subst he
  exact ⟨_, rfl, _, _, _, [], _, [], hW', trodAll_mk1 (shut_bool Try.underlying4 _), (trodAll_cons_mk (Below.trod laidOut (by kernel_rfl) (of_decide_eq_true (by kernel_rfl)) h0 bel lt0) trodAll_mk0), rfl, bel.frame _, fun h => by cases h⟩
theorem over : Rows.oidBytesRow.holds Try.pinned (OpenSpec.ofChange Rows.oidBytesSpec) :=
  OpenClaim.holds_of_wide 4 Try.f4 rfl rfl rfl rfl rfl rfl rfl ⟨rfl, rfl, rfl, rfl, rfl⟩ rfl rfl rfl rfl rfl (by kernel_rfl) Try.func4 (by kernel_rfl)
    (of_decide_eq_true (by kernel_rfl)) (by unfold Func.isWrapper; first | (rw [if_pos (by decide +kernel)]; kernel_rfl) | (rw [if_neg (by decide +kernel)]; exact ⟨rfl, rfl⟩))
    (fun os started H enc _ => lifted os started H enc)
theorem proved : Rows.OidBytesSaid := over
#print axioms proved
end Go.Proofs.Ytgfadocohpinmaa.oidBytes
namespace Go.Proofs.Ytgfadocohpinmaa
/-- The row, under a short name, for the claim. -/
theorem oidBytes_holds : Rows.OidBytesSaid := oidBytes.proved
end Go.Proofs.Ytgfadocohpinmaa
