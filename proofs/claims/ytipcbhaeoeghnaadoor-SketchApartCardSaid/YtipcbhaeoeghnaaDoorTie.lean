/-
  DERIVED. GIVEN WITH THE SEED: THE PROGRAM's TIES (one call each: nine closed facts by the kernel) AND EACH ROW's TIE, after the 31st guide's Derived/Test/Toyas{Tie, Card}.lean. No idea stands in it: it is a product of the set-up. Laid BY PROGRAM, IN A SANDBOX (cutbox-door.mjs). By AI agents, Wed Nov 11 2026. No macro, syntax, notation, axiom, sorry.
-/
import Derived.Test.YtipcbhaeoeghnaaDoorRows
import Derived.LaidByTextLater
import Derived.SevenTiedAt
import Derived.LaidSub
import Derived.LaidOnce
namespace Go.Proofs.YtipcbhaeoeghnaaDoor
open Go
set_option maxRecDepth 100000
theorem seatTie1 : Tryd.prog.laidByTextLater [("cortado/mix.mixed", Rows.laid_cortado_mix_mixed), ("cortado/mix.twisted", Rows.laid_cortado_mix_twisted), ("cortado/prog.names", Rows.laid_cortado_prog_names)] [.data, .data, .data] true :=
  Program.laidByTextLater_by_one 30 8 9 (by kernel_rfl) (by kernel_rfl) (by kernel_rfl) (by kernel_rfl) (by kernel_rfl) (by kernel_rfl) (fun _ _ => by kernel_rfl)
theorem noOwnUnsafe : Tryd.pinned.checked.prog.headLifts.contains "ownunsafe" = false := by kernel_rfl
theorem tie : Tryd.prog.laidByTextLater [("cortado/prog.names", Rows.laid_cortado_prog_names)] [.data] true :=
  Program.laidByTextLater.sub seatTie1 ["cortado/prog.names"] (by kernel_rfl) (by kernel_rfl)
theorem progRight_row_tie : Rows.progRightRow.laidByTextAt .later Tryd.pinned [.data] true :=
  OpenClaim.laidByTextAt_later rfl rfl tie noOwnUnsafe
theorem progBack_row_tie : Rows.progBackRow.laidByTextAt .later Tryd.pinned [.data] true :=
  OpenClaim.laidByTextAt_later rfl rfl tie noOwnUnsafe
theorem tie2 : Tryd.prog.laidByTextLater [("cortado/mix.mixed", Rows.laid_cortado_mix_mixed), ("cortado/mix.twisted", Rows.laid_cortado_mix_twisted)] [.data, .data] true :=
  Program.laidByTextLater.sub seatTie1 ["cortado/mix.mixed", "cortado/mix.twisted"] (by kernel_rfl) (by kernel_rfl)
theorem keyPairs_row_tie : Rows.keyPairsRow.laidByTextAt .later Tryd.pinned [.data, .data] true :=
  OpenClaim.laidByTextAt_later rfl rfl tie2 noOwnUnsafe
theorem tie3 : Tryd.prog.laidByTextLater [("cortado/mix.mixed", Rows.laid_cortado_mix_mixed)] [.data] true :=
  Program.laidByTextLater.sub seatTie1 ["cortado/mix.mixed"] (by kernel_rfl) (by kernel_rfl)
theorem sketchApart_row_tie : Rows.sketchApartRow.laidByTextAt .later Tryd.pinned [.data] true :=
  OpenClaim.laidByTextAt_later rfl rfl tie3 noOwnUnsafe
theorem progRightUpto_row_tie : Rows.progRightUptoRow.laidByTextAt .later Tryd.pinned [.data] true :=
  OpenClaim.laidByTextAt_later rfl rfl tie noOwnUnsafe
theorem keyPairsUpto_row_tie : Rows.keyPairsUptoRow.laidByTextAt .later Tryd.pinned [.data, .data] true :=
  OpenClaim.laidByTextAt_later rfl rfl tie2 noOwnUnsafe
theorem sketchApartUpto_row_tie : Rows.sketchApartUptoRow.laidByTextAt .later Tryd.pinned [.data] true :=
  OpenClaim.laidByTextAt_later rfl rfl tie3 noOwnUnsafe
theorem progBackUpto_row_tie : Rows.progBackUptoRow.laidByTextAt .later Tryd.pinned [.data] true :=
  OpenClaim.laidByTextAt_later rfl rfl tie noOwnUnsafe
end Go.Proofs.YtipcbhaeoeghnaaDoor
