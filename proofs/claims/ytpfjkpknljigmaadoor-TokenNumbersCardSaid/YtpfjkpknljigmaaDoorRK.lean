/- A row's condition and the world's shape give GInv: bytealg.MaxLen is some int, strconv's table of tens is laid. -/
import Derived.Test.YtpfjkpknljigmaaDoorH0
import Derived.Lib.LaidTab
import Derived.LaidSub
import Derived.MakeChecks
import Derived.Shelf.Vars
namespace Go.Proofs.YtpfjkpknljigmaaDoor.Q
open Go.RowKit

theorem GInv.of {L : List (String × DataW Unit)} {W : World} (hp : (L.all fun x => x.2.handleName?.isNone) = true)
  (hf : (L.filter fun x => x.1 == "internal/strconv.uint64pow10") = [("internal/strconv.uint64pow10", Lib.tabData .u64 Lib.pow10Tab)])
  (h : laidMetH Tryd.prog L W) (hS : W.ShapedOpen Tryd.prog) : GInv W := by
 rw [MakeChecks.laidMetH_plain _ _ _ hp] at h
 have h1 := laidMet.filter (fun x => x.1 == "internal/strconv.uint64pow10") h
 rw [hf] at h1
 refine ⟨?_, ?_⟩
 ·
  exact cell_of_shapedOpen_int hS (of_decide_eq_true (by kernel_rfl)) (t := 3) (zero := #[.int .i64 0]) (by kernel_rfl) rfl (by kernel_rfl) (by kernel_rfl) Tryd.underlying3
 ·
  exact Lib.tabIs_of_head (rest := []) pow10_at (t := 120) (by kernel_rfl) Tryd.underlying120 Tryd.underlying113 (by kernel_rfl) (by kernel_rfl) h1
end Go.Proofs.YtpfjkpknljigmaaDoor.Q
