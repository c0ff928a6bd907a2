/- The closed facts of the row of CertApart, each by itself. No condition. -/
import Derived.Test.YtpajpkbipagjpaaGreatDoorRows
import Derived.Test.YtpajpkbipagjpaaGreatDoorCards
import Derived.JoinedCond
import Derived.SevenTiedAt
import Derived.KernelRfl
set_option linter.unusedVariables false
set_option linter.unusedSimpArgs false
set_option maxRecDepth 100000
namespace Go.Proofs.YtpajpkbipagjpaaGreatDoor.certApartFacts
open Go Go.ChangeShapes Go.WideShapes Go.ChangeAt
theorem andT {a b : Bool} (ha : a = true) (hb : b = true) : (a && b) = true := by rw [ha, hb]; rfl
theorem j1 : (Rows.certApartUptoRow.wf (OpenSpec.ofChange (Rows.OpenSpec.upto Rows.certApartSpec).bare)) = true := by kernel_rfl
theorem j2 : (laidOutB Tryz.prog) = true := by kernel_rfl
theorem j3 : (mapsRowed Tryz.prog) = true := by kernel_rfl
theorem j4 : (Tryz.f5.params.all (Tryz.prog.readableRec ·)) = true := by kernel_rfl
theorem j5 : (namedTie Tryz.prog Rows.certApartUptoRow.named (Rows.OpenSpec.upto Rows.certApartSpec).bare.vars) = true := by kernel_rfl
theorem j6 : ((Rows.certApartUptoRow.stops == [])) = true := by kernel_rfl
theorem j7 : ((Tryz.prog.stops == [])) = true := by kernel_rfl
theorem j8 : ((Rows.certApartUptoRow.knobs == [])) = true := by kernel_rfl
theorem j9 : ((Tryz.prog.stopKnobs == [])) = true := by kernel_rfl
theorem j10 : ((Rows.certApartUptoRow.inPlace == Tryz.prog.inPlace 5)) = true := by kernel_rfl
theorem j11 : ((Rows.certApartUptoRow.unfollowed == Tryz.prog.unfollowed 5)) = true := by kernel_rfl
theorem j12 : ((Rows.certApartUptoRow.recurses == Tryz.prog.recurses 5)) = true := by kernel_rfl
theorem j13 : ((Rows.certApartUptoRow.named == Tryz.prog.varsNamed 5)) = true := by kernel_rfl
theorem j14 : ((Rows.certApartUptoRow.maps == (Tryz.f5.params.toList ++ (Rows.OpenSpec.upto Rows.certApartSpec).bare.plain.varTypes Tryz.prog).any (Tryz.prog.mapsRec ·))) = true := by kernel_rfl
theorem j15 : ((Rows.certApartUptoRow.ifaces == (Tryz.f5.params.toList ++ (Rows.OpenSpec.upto Rows.certApartSpec).bare.plain.varTypes Tryz.prog).any (Tryz.prog.ifacesRec ·))) = true := by kernel_rfl
theorem j16 : ((Rows.certApartUptoRow.mapsOut == Tryz.prog.mapsAmong Tryz.f5.resultTypes.toList)) = true := by kernel_rfl
theorem j17 : ((Rows.certApartUptoRow.loops == (Tryz.f5.params.toList ++ (Rows.OpenSpec.upto Rows.certApartSpec).bare.plain.varTypes Tryz.prog).any (Tryz.prog.loopsFrom ·))) = true := by kernel_rfl
theorem j18 : ((Rows.certApartUptoRow.wideKeys == (Tryz.f5.params.toList ++ (Rows.OpenSpec.upto Rows.certApartSpec).bare.plain.varTypes Tryz.prog ++ Tryz.f5.resultTypes.toList).any (Tryz.prog.wideKeysFrom ·))) = true := by kernel_rfl
theorem j19 : ((Rows.OpenSpec.upto Rows.certApartSpec).bare.vars.all (Tryz.prog.varReadable ·)) = true := by kernel_rfl
theorem j20 : (Tryz.f5.resultTypes.all (fun t => Tryz.prog.readableRec t && decide (t < Tryz.prog.types.size))) = true := by kernel_rfl
theorem j21 : ((Rows.certApartUptoRow.ifacesOut == Tryz.f5.resultTypes.toList.any (Tryz.prog.ifacesRec ·))) = true := by kernel_rfl
theorem j22 : ((Rows.certApartUptoRow.loopsOut == Tryz.f5.resultTypes.toList.any (Tryz.prog.loopsFrom ·))) = true := by kernel_rfl
theorem j23 : ((Rows.certApartUptoRow.plainKeys == Tryz.prog.plainKeys)) = true := by kernel_rfl
theorem j24 : (Rows.certApartUptoRow.shortTexts.isNone) = true := by kernel_rfl
theorem j25 : (Tryz.prog.stopsHeard) = true := by kernel_rfl
theorem j26 : (Tryz.prog.mayEnter) = true := by kernel_rfl
theorem j27 : ((Rows.certApartUptoRow.lifted == Tryz.prog.liftsFinal)) = true := by kernel_rfl
theorem j28 : ((Tryz.prog.make == some Rows.certApartUptoRow.make)) = true := by kernel_rfl
theorem j29 : ((Rows.certApartUptoRow.kinds == (if Rows.certApartUptoRow.domain.isEmpty then [] else Tryz.f5.params.toList.map fun t => match Tryz.prog.underlying t with | some (.int k) => some k | _ => none))) = true := by kernel_rfl
theorem j30 : ((Rows.certApartUptoRow.pinned == Rows.certApartUptoRow.pinnedBy)) = true := by kernel_rfl
theorem j31 : ((Rows.certApartUptoRow.veiled == (Tryz.f5.params.toList ++ (Rows.OpenSpec.upto Rows.certApartSpec).bare.plain.varTypes Tryz.prog ++ Tryz.f5.resultTypes.toList).any (Tryz.prog.veiledRec ·))) = true := by kernel_rfl
theorem j32 : (Rows.certApartUptoRow.veiledFits Tryz.prog Tryz.f5.params.toList (Tryz.f5.params.toList ++ (Rows.OpenSpec.upto Rows.certApartSpec).bare.plain.varTypes Tryz.prog ++ Tryz.f5.resultTypes.toList)) = true := by kernel_rfl
theorem closed : joinedFacts Tryz.pinned.checked.prog 5 Tryz.f5 (Rows.OpenSpec.upto Rows.certApartSpec).bare Rows.certApartUptoRow = true := by
  unfold joinedFacts
  exact (andT (andT (andT (andT (andT (andT (andT (andT (andT (andT (andT (andT (andT (andT (andT (andT (andT (andT (andT (andT (andT (andT (andT (andT (andT (andT (andT (andT (andT (andT (andT j1 j2) j3) j4) j5) j6) j7) j8) j9) j10) j11) j12) j13) j14) j15) j16) j17) j18) j19) j20) j21) j22) j23) j24) j25) j26) j27) j28) j29) j30) j31) j32)
theorem k1 : Rows.certApartUptoRow.wfByText (Rows.OpenSpec.upto Rows.certApartSpec) = true := by kernel_rfl
theorem k2 : Tryz.pinned.checked.prog.mainIs = some ((true, "ca4ef3a2e58fbf2a35acf9ca5429267dbc7c6c920d6ee0cd92eb8469b75f9bb4").1, (true, "ca4ef3a2e58fbf2a35acf9ca5429267dbc7c6c920d6ee0cd92eb8469b75f9bb4").2.toList) := by kernel_rfl
theorem k3 : true = Tryz.pinned.checked.prog.looks [] := by kernel_rfl
theorem k4 : false = Rows.certApartUptoRow.goesBy Tryz.pinned.checked.prog := by kernel_rfl
theorem k5 : Tryz.prog.funcNamed "postmark/postmarklaw20.CertApart" = some 5 := by kernel_rfl
theorem k7 : Tryz.f5.isInstance Tryz.prog Rows.certApartUptoRow.origin Rows.certApartUptoRow.targs := of_decide_eq_true (by kernel_rfl)
end Go.Proofs.YtpajpkbipagjpaaGreatDoor.certApartFacts

