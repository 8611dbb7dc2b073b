-- Written by a program of this session (qprint.py) out of the translation; the kernel checks it.
import Derived.Test.YtpfjkpknljigmaaDoorQx0
import Derived.Test.YtpfjkpknljigmaaDoorQx1
import Derived.Test.YtpfjkpknljigmaaDoorQx2
import Derived.Test.YtpfjkpknljigmaaDoorQx4
import Derived.Test.YtpfjkpknljigmaaDoorQx5
import Derived.Test.YtpfjkpknljigmaaDoorQx7
import Derived.Test.YtpfjkpknljigmaaDoorQx13
import Derived.Test.YtpfjkpknljigmaaDoorQx15
import Derived.Test.YtpfjkpknljigmaaDoorH0
import Derived.Test.YtpfjkpknljigmaaDoorH3
namespace Go.Proofs.YtpfjkpknljigmaaDoor.Q
set_option maxHeartbeats 2000000
set_option maxRecDepth 100000
open Go.RowKit Go.Proofs.YtpfjkpknljigmaaDoorW.PrintWords Go.Proofs.YtpfjkpknljigmaaDoorW.PrintLast Go.Proofs.YtpfjkpknljigmaaDoorW.PrintMore
attribute [local go_sem] max2_int min2_int max_two min_two max_three min_three max_four min_four   -- for this text's walks alone
set_option linter.unusedVariables false
set_option linter.unusedSimpArgs false

attribute [local go_sem high] eqA23 eqA34
/-! ### mortiselaw02_heads: function 15 -/
def mortiselaw02_heads.f (k : Nat)  : Option (Bool) := (token_Scan.f (⟨#[105, 110, 116, 32, 97, 91, 50, 93, 61, 123, 48, 120, 49, 102, 44, 39, 92, 110, 39, 125, 59, 32, 47, 47, 32, 120]⟩ : ByteArray)).bind fun bt233 => ((token_Scan.f (⟨#[97, 10, 32, 48, 56]⟩ : ByteArray)).bind fun bt241 => ((token_Join.f k (([(⟨1, (⟨#[97]⟩ : ByteArray), 0, (⟨0, 0, 0⟩ : S23)⟩ : S40), (⟨6, (⟨#[45, 62]⟩ : ByteArray), 0, (⟨0, 0, 0⟩ : S23)⟩ : S40), (⟨3, (⟨#[117, 110, 115, 105, 103, 110, 101, 100, 32, 105, 110, 116]⟩ : ByteArray), 7, (⟨0, 0, 0⟩ : S23)⟩ : S40), (⟨4, (⟨#[]⟩ : ByteArray), (-1), (⟨0, 0, 0⟩ : S23)⟩ : S40), (⟨5, (⟨#[120, 10]⟩ : ByteArray), 0, (⟨0, 0, 0⟩ : S23)⟩ : S40)] : List (S40)))).bind fun bt252 => (if (bt233.2.1 == 0 && ((bt233.2.2.1 == 0 && (bt233.2.2.2.1 == 0 && (bt233.2.2.2.2 == 0))))) = true then (if (bt233.1.length : Int) = 13 then (if 0 < (bt233.1.length : Int) then (if ((rd_T40 bt233.1 0).f0) = 2 then (if 7 < (bt233.1.length : Int) then (if ((rd_T40 bt233.1 7).f2) = 31 then (if 9 < (bt233.1.length : Int) then (if ((rd_T40 bt233.1 9).f2) = 10 then (if ((rd_T40 bt233.1 9).f0) = 4 then (if 12 < (bt233.1.length : Int) then (if ((rd_T40 bt233.1 12).f0) = 0 then (if (bt241.2.1 == 21 && ((bt241.2.2.1 == 2 && (bt241.2.2.2.1 == 2 && (bt241.2.2.2.2 == 3))))) = true then ((mortiselaw02_num.f bt252.2).bind fun t259 => (if t259 = 0 then (if bt252.1.toList = ([97, 32, 45, 62, 32, 55, 85, 32, 39, 92, 51, 55, 55, 39, 32, 34, 120, 92, 110, 34] : List UInt8) then ((token_Name.f k (⟨#[113, 95, 49]⟩ : ByteArray)).bind fun t260 => (if t260 = true then ((token_Name.f k (⟨#[49, 113]⟩ : ByteArray)).bind fun t261 => (if t261 = true then (none) else ((token_Name.f k (⟨#[105, 110, 116]⟩ : ByteArray)).bind fun t262 => (if t262 = true then (none) else ((token_Word.f k (⟨#[105, 110, 116]⟩ : ByteArray)).bind fun t263 => (if t263 = true then ((token_At.f (⟨#[97, 98, 10, 98]⟩ : ByteArray) 4).bind fun bt264 => (some (bt264.1 == 2 && (bt264.2.1 == 2 && (bt264.2.2 == 4))))) else (none))))))) else (none))) else (none)) else (none))) else (none)) else (none)) else (none)) else (none)) else (none)) else (none)) else (none)) else (none)) else (none)) else (none)) else (none)) else (none))))
theorem mortiselaw02_heads.mono : ∀ k, LeO (mortiselaw02_heads.f k ) (mortiselaw02_heads.f (k + 1) ) := by
 intro  k
 unfold mortiselaw02_heads.f
 repeat' first
   | (with_reducible exact token_Join.mono _ _)
   | (with_reducible exact token_Name.mono _ _)
   | (with_reducible exact token_Word.mono _ _)
   | (with_reducible exact LeO.refl _)
   | (with_reducible exact LeO.none _)
   | (with_reducible refine LeO.ite ?_ ?_)
   | (with_reducible refine LeO.bind ?_ (fun _ => ?_))
   | exact token_Join.mono _ _
   | exact token_Name.mono _ _
   | exact token_Word.mono _ _
   | exact LeO.none _
   | refine LeO.ite ?_ ?_
   | refine LeO.bind ?_ (fun _ => ?_)
theorem mortiselaw02_heads.calls (k : Nat)  (r : Bool) (w : World) (hG : GInv w) (h : mortiselaw02_heads.f k  = some r) :
  Calls Tryd.prog 15 #[] w fun e w' => e = .returned (.bool r) ∧ Below w.heap.size w w' := by
 have hu34 := Tryd.underlying34
 have hu40 := Tryd.underlying40
 have hu23 := Tryd.underlying23
 have HB := Aside0.mk (Below.refl w.heap.size w)
 have HG := Aside0.mk hG
 clear hG
 have H : ((token_Scan.f (⟨#[105, 110, 116, 32, 97, 91, 50, 93, 61, 123, 48, 120, 49, 102, 44, 39, 92, 110, 39, 125, 59, 32, 47, 47, 32, 120]⟩ : ByteArray)).bind fun bt233 => ((token_Scan.f (⟨#[97, 10, 32, 48, 56]⟩ : ByteArray)).bind fun bt241 => ((token_Join.f k (([(⟨1, (⟨#[97]⟩ : ByteArray), 0, (⟨0, 0, 0⟩ : S23)⟩ : S40), (⟨6, (⟨#[45, 62]⟩ : ByteArray), 0, (⟨0, 0, 0⟩ : S23)⟩ : S40), (⟨3, (⟨#[117, 110, 115, 105, 103, 110, 101, 100, 32, 105, 110, 116]⟩ : ByteArray), 7, (⟨0, 0, 0⟩ : S23)⟩ : S40), (⟨4, (⟨#[]⟩ : ByteArray), (-1), (⟨0, 0, 0⟩ : S23)⟩ : S40), (⟨5, (⟨#[120, 10]⟩ : ByteArray), 0, (⟨0, 0, 0⟩ : S23)⟩ : S40)] : List (S40)))).bind fun bt252 => (if (bt233.2.1 == 0 && ((bt233.2.2.1 == 0 && (bt233.2.2.2.1 == 0 && (bt233.2.2.2.2 == 0))))) = true then (if (bt233.1.length : Int) = 13 then (if 0 < (bt233.1.length : Int) then (if ((rd_T40 bt233.1 0).f0) = 2 then (if 7 < (bt233.1.length : Int) then (if ((rd_T40 bt233.1 7).f2) = 31 then (if 9 < (bt233.1.length : Int) then (if ((rd_T40 bt233.1 9).f2) = 10 then (if ((rd_T40 bt233.1 9).f0) = 4 then (if 12 < (bt233.1.length : Int) then (if ((rd_T40 bt233.1 12).f0) = 0 then (if (bt241.2.1 == 21 && ((bt241.2.2.1 == 2 && (bt241.2.2.2.1 == 2 && (bt241.2.2.2.2 == 3))))) = true then ((mortiselaw02_num.f bt252.2).bind fun t259 => (if t259 = 0 then (if bt252.1.toList = ([97, 32, 45, 62, 32, 55, 85, 32, 39, 92, 51, 55, 55, 39, 32, 34, 120, 92, 110, 34] : List UInt8) then ((token_Name.f k (⟨#[113, 95, 49]⟩ : ByteArray)).bind fun t260 => (if t260 = true then ((token_Name.f k (⟨#[49, 113]⟩ : ByteArray)).bind fun t261 => (if t261 = true then (none) else ((token_Name.f k (⟨#[105, 110, 116]⟩ : ByteArray)).bind fun t262 => (if t262 = true then (none) else ((token_Word.f k (⟨#[105, 110, 116]⟩ : ByteArray)).bind fun t263 => (if t263 = true then ((token_At.f (⟨#[97, 98, 10, 98]⟩ : ByteArray) 4).bind fun bt264 => (some (bt264.1 == 2 && (bt264.2.1 == 2 && (bt264.2.2 == 4))))) else (none))))))) else (none))) else (none)) else (none))) else (none)) else (none)) else (none)) else (none)) else (none)) else (none)) else (none)) else (none)) else (none)) else (none)) else (none)) else (none))))) = some r := h
 clear h
 replace H := Option.bind_eq_some_iff.mp H
 obtain ⟨⟨t233, t236, t237, t238, t239⟩, A10, H⟩ := H
 replace H : ((token_Scan.f (⟨#[97, 10, 32, 48, 56]⟩ : ByteArray)).bind fun bt241 => ((token_Join.f k (([(⟨1, (⟨#[97]⟩ : ByteArray), 0, (⟨0, 0, 0⟩ : S23)⟩ : S40), (⟨6, (⟨#[45, 62]⟩ : ByteArray), 0, (⟨0, 0, 0⟩ : S23)⟩ : S40), (⟨3, (⟨#[117, 110, 115, 105, 103, 110, 101, 100, 32, 105, 110, 116]⟩ : ByteArray), 7, (⟨0, 0, 0⟩ : S23)⟩ : S40), (⟨4, (⟨#[]⟩ : ByteArray), (-1), (⟨0, 0, 0⟩ : S23)⟩ : S40), (⟨5, (⟨#[120, 10]⟩ : ByteArray), 0, (⟨0, 0, 0⟩ : S23)⟩ : S40)] : List (S40)))).bind fun bt252 => (if (t236 == 0 && ((t237 == 0 && (t238 == 0 && (t239 == 0))))) = true then (if (t233.length : Int) = 13 then (if 0 < (t233.length : Int) then (if ((rd_T40 t233 0).f0) = 2 then (if 7 < (t233.length : Int) then (if ((rd_T40 t233 7).f2) = 31 then (if 9 < (t233.length : Int) then (if ((rd_T40 t233 9).f2) = 10 then (if ((rd_T40 t233 9).f0) = 4 then (if 12 < (t233.length : Int) then (if ((rd_T40 t233 12).f0) = 0 then (if (bt241.2.1 == 21 && ((bt241.2.2.1 == 2 && (bt241.2.2.2.1 == 2 && (bt241.2.2.2.2 == 3))))) = true then ((mortiselaw02_num.f bt252.2).bind fun t259 => (if t259 = 0 then (if bt252.1.toList = ([97, 32, 45, 62, 32, 55, 85, 32, 39, 92, 51, 55, 55, 39, 32, 34, 120, 92, 110, 34] : List UInt8) then ((token_Name.f k (⟨#[113, 95, 49]⟩ : ByteArray)).bind fun t260 => (if t260 = true then ((token_Name.f k (⟨#[49, 113]⟩ : ByteArray)).bind fun t261 => (if t261 = true then (none) else ((token_Name.f k (⟨#[105, 110, 116]⟩ : ByteArray)).bind fun t262 => (if t262 = true then (none) else ((token_Word.f k (⟨#[105, 110, 116]⟩ : ByteArray)).bind fun t263 => (if t263 = true then ((token_At.f (⟨#[97, 98, 10, 98]⟩ : ByteArray) 4).bind fun bt264 => (some (bt264.1 == 2 && (bt264.2.1 == 2 && (bt264.2.2 == 4))))) else (none))))))) else (none))) else (none)) else (none))) else (none)) else (none)) else (none)) else (none)) else (none)) else (none)) else (none)) else (none)) else (none)) else (none)) else (none)) else (none)))) = some r := H
 have A1 := Aside0.mk A10
 clear A10
 replace H := Option.bind_eq_some_iff.mp H
 obtain ⟨⟨t241, t244, t245, t246, t247⟩, A20, H⟩ := H
 replace H : ((token_Join.f k (([(⟨1, (⟨#[97]⟩ : ByteArray), 0, (⟨0, 0, 0⟩ : S23)⟩ : S40), (⟨6, (⟨#[45, 62]⟩ : ByteArray), 0, (⟨0, 0, 0⟩ : S23)⟩ : S40), (⟨3, (⟨#[117, 110, 115, 105, 103, 110, 101, 100, 32, 105, 110, 116]⟩ : ByteArray), 7, (⟨0, 0, 0⟩ : S23)⟩ : S40), (⟨4, (⟨#[]⟩ : ByteArray), (-1), (⟨0, 0, 0⟩ : S23)⟩ : S40), (⟨5, (⟨#[120, 10]⟩ : ByteArray), 0, (⟨0, 0, 0⟩ : S23)⟩ : S40)] : List (S40)))).bind fun bt252 => (if (t236 == 0 && ((t237 == 0 && (t238 == 0 && (t239 == 0))))) = true then (if (t233.length : Int) = 13 then (if 0 < (t233.length : Int) then (if ((rd_T40 t233 0).f0) = 2 then (if 7 < (t233.length : Int) then (if ((rd_T40 t233 7).f2) = 31 then (if 9 < (t233.length : Int) then (if ((rd_T40 t233 9).f2) = 10 then (if ((rd_T40 t233 9).f0) = 4 then (if 12 < (t233.length : Int) then (if ((rd_T40 t233 12).f0) = 0 then (if (t244 == 21 && ((t245 == 2 && (t246 == 2 && (t247 == 3))))) = true then ((mortiselaw02_num.f bt252.2).bind fun t259 => (if t259 = 0 then (if bt252.1.toList = ([97, 32, 45, 62, 32, 55, 85, 32, 39, 92, 51, 55, 55, 39, 32, 34, 120, 92, 110, 34] : List UInt8) then ((token_Name.f k (⟨#[113, 95, 49]⟩ : ByteArray)).bind fun t260 => (if t260 = true then ((token_Name.f k (⟨#[49, 113]⟩ : ByteArray)).bind fun t261 => (if t261 = true then (none) else ((token_Name.f k (⟨#[105, 110, 116]⟩ : ByteArray)).bind fun t262 => (if t262 = true then (none) else ((token_Word.f k (⟨#[105, 110, 116]⟩ : ByteArray)).bind fun t263 => (if t263 = true then ((token_At.f (⟨#[97, 98, 10, 98]⟩ : ByteArray) 4).bind fun bt264 => (some (bt264.1 == 2 && (bt264.2.1 == 2 && (bt264.2.2 == 4))))) else (none))))))) else (none))) else (none)) else (none))) else (none)) else (none)) else (none)) else (none)) else (none)) else (none)) else (none)) else (none)) else (none)) else (none)) else (none)) else (none))) = some r := H
 have A2 := Aside0.mk A20
 clear A20
 obtain ⟨y249, hy249⟩ : ∃ y_ : List (S40), y_ = (([(⟨1, (⟨#[97]⟩ : ByteArray), 0, (⟨0, 0, 0⟩ : S23)⟩ : S40), (⟨6, (⟨#[45, 62]⟩ : ByteArray), 0, (⟨0, 0, 0⟩ : S23)⟩ : S40), (⟨3, (⟨#[117, 110, 115, 105, 103, 110, 101, 100, 32, 105, 110, 116]⟩ : ByteArray), 7, (⟨0, 0, 0⟩ : S23)⟩ : S40), (⟨4, (⟨#[]⟩ : ByteArray), (-1), (⟨0, 0, 0⟩ : S23)⟩ : S40), (⟨5, (⟨#[120, 10]⟩ : ByteArray), 0, (⟨0, 0, 0⟩ : S23)⟩ : S40)] : List (S40))) := ⟨_, rfl⟩
 replace H : ((token_Join.f k y249).bind fun bt252 => (if (t236 == 0 && ((t237 == 0 && (t238 == 0 && (t239 == 0))))) = true then (if (t233.length : Int) = 13 then (if 0 < (t233.length : Int) then (if ((rd_T40 t233 0).f0) = 2 then (if 7 < (t233.length : Int) then (if ((rd_T40 t233 7).f2) = 31 then (if 9 < (t233.length : Int) then (if ((rd_T40 t233 9).f2) = 10 then (if ((rd_T40 t233 9).f0) = 4 then (if 12 < (t233.length : Int) then (if ((rd_T40 t233 12).f0) = 0 then (if (t244 == 21 && ((t245 == 2 && (t246 == 2 && (t247 == 3))))) = true then ((mortiselaw02_num.f bt252.2).bind fun t259 => (if t259 = 0 then (if bt252.1.toList = ([97, 32, 45, 62, 32, 55, 85, 32, 39, 92, 51, 55, 55, 39, 32, 34, 120, 92, 110, 34] : List UInt8) then ((token_Name.f k (⟨#[113, 95, 49]⟩ : ByteArray)).bind fun t260 => (if t260 = true then ((token_Name.f k (⟨#[49, 113]⟩ : ByteArray)).bind fun t261 => (if t261 = true then (none) else ((token_Name.f k (⟨#[105, 110, 116]⟩ : ByteArray)).bind fun t262 => (if t262 = true then (none) else ((token_Word.f k (⟨#[105, 110, 116]⟩ : ByteArray)).bind fun t263 => (if t263 = true then ((token_At.f (⟨#[97, 98, 10, 98]⟩ : ByteArray) 4).bind fun bt264 => (some (bt264.1 == 2 && (bt264.2.1 == 2 && (bt264.2.2 == 4))))) else (none))))))) else (none))) else (none)) else (none))) else (none)) else (none)) else (none)) else (none)) else (none)) else (none)) else (none)) else (none)) else (none)) else (none)) else (none)) else (none))) = some r := by first | (rw [hy249]; with_reducible exact H) | (have H2_ := (Option.bind_some _ _).symm.trans H; rw [hy249]; with_reducible exact H2_) | (have H2_ := (Option.bind_some _ _).symm.trans H; with_reducible exact H2_) | with_reducible exact H | (rw [hy249]; exact H) | exact H
 have Ny249 := Aside0.mk hy249
 clear hy249
 replace H := Option.bind_eq_some_iff.mp H
 obtain ⟨⟨t252, t253⟩, A30, H⟩ := H
 replace H : (if (t236 == 0 && ((t237 == 0 && (t238 == 0 && (t239 == 0))))) = true then (if (t233.length : Int) = 13 then (if 0 < (t233.length : Int) then (if ((rd_T40 t233 0).f0) = 2 then (if 7 < (t233.length : Int) then (if ((rd_T40 t233 7).f2) = 31 then (if 9 < (t233.length : Int) then (if ((rd_T40 t233 9).f2) = 10 then (if ((rd_T40 t233 9).f0) = 4 then (if 12 < (t233.length : Int) then (if ((rd_T40 t233 12).f0) = 0 then (if (t244 == 21 && ((t245 == 2 && (t246 == 2 && (t247 == 3))))) = true then ((mortiselaw02_num.f t253).bind fun t259 => (if t259 = 0 then (if t252.toList = ([97, 32, 45, 62, 32, 55, 85, 32, 39, 92, 51, 55, 55, 39, 32, 34, 120, 92, 110, 34] : List UInt8) then ((token_Name.f k (⟨#[113, 95, 49]⟩ : ByteArray)).bind fun t260 => (if t260 = true then ((token_Name.f k (⟨#[49, 113]⟩ : ByteArray)).bind fun t261 => (if t261 = true then (none) else ((token_Name.f k (⟨#[105, 110, 116]⟩ : ByteArray)).bind fun t262 => (if t262 = true then (none) else ((token_Word.f k (⟨#[105, 110, 116]⟩ : ByteArray)).bind fun t263 => (if t263 = true then ((token_At.f (⟨#[97, 98, 10, 98]⟩ : ByteArray) 4).bind fun bt264 => (some (bt264.1 == 2 && (bt264.2.1 == 2 && (bt264.2.2 == 4))))) else (none))))))) else (none))) else (none)) else (none))) else (none)) else (none)) else (none)) else (none)) else (none)) else (none)) else (none)) else (none)) else (none)) else (none)) else (none)) else (none)) = some r := H
 have A3 := Aside0.mk A30
 clear A30
 by_cases c4 : (t236 == 0 && ((t237 == 0 && (t238 == 0 && (t239 == 0))))) = true
 ·
  rw [if_pos c4] at H
  have c4b0 : (t236 == 0 && ((t237 == 0 && (t238 == 0 && (t239 == 0))))) = true := c4
  (try (have c4b1 : decide (t236 = 0 && ((t237 == 0 && (t238 == 0 && (t239 == 0))))) = true := by simpa using c4))
  (try (have c4b2 : (t236 == 0 && ((t237 == 0 && (t238 == 0 && (t239 == 0))))) = true := by simpa using c4))
  clear c4
  by_cases c5 : (t233.length : Int) = 13
  ·
   rw [if_pos c5] at H
   have c5b0 : ((t233.length : Int) == 13) = true := beq_iff_eq.mpr c5
   have c5b1 : ((t233.length : Int) != 13) = false := bne_eq_false_iff_eq.mpr c5
   clear c5
   by_cases c6 : 0 < (t233.length : Int)
   ·
    rw [if_pos c6] at H
    have c6b0 : decide (0 < (t233.length : Int)) = true := decide_eq_true c6
    have c6b1 : decide (0 < t233.length) = true := decide_eq_true (by omega)
    clear c6
    by_cases c7 : ((rd_T40 t233 0).f0) = 2
    ·
     rw [if_pos c7] at H
     have c7b0 : (((rd_T40 t233 0).f0) == 2) = true := beq_iff_eq.mpr c7
     have c7b1 : (((rd_T40 t233 0).f0) != 2) = false := bne_eq_false_iff_eq.mpr c7
     clear c7
     by_cases c8 : 7 < (t233.length : Int)
     ·
      rw [if_pos c8] at H
      have c8b0 : decide (7 < (t233.length : Int)) = true := decide_eq_true c8
      have c8b1 : decide (7 < t233.length) = true := decide_eq_true (by omega)
      clear c8
      by_cases c9 : ((rd_T40 t233 7).f2) = 31
      ·
       rw [if_pos c9] at H
       have c9b0 : (((rd_T40 t233 7).f2) == 31) = true := beq_iff_eq.mpr c9
       have c9b1 : (((rd_T40 t233 7).f2) != 31) = false := bne_eq_false_iff_eq.mpr c9
       clear c9
       by_cases c10 : 9 < (t233.length : Int)
       ·
        rw [if_pos c10] at H
        have c10b0 : decide (9 < (t233.length : Int)) = true := decide_eq_true c10
        have c10b1 : decide (9 < t233.length) = true := decide_eq_true (by omega)
        clear c10
        by_cases c11 : ((rd_T40 t233 9).f2) = 10
        ·
         rw [if_pos c11] at H
         have c11b0 : (((rd_T40 t233 9).f2) == 10) = true := beq_iff_eq.mpr c11
         have c11b1 : (((rd_T40 t233 9).f2) != 10) = false := bne_eq_false_iff_eq.mpr c11
         clear c11
         by_cases c12 : ((rd_T40 t233 9).f0) = 4
         ·
          rw [if_pos c12] at H
          have c12b0 : (((rd_T40 t233 9).f0) == 4) = true := beq_iff_eq.mpr c12
          have c12b1 : (((rd_T40 t233 9).f0) != 4) = false := bne_eq_false_iff_eq.mpr c12
          clear c12
          by_cases c13 : 12 < (t233.length : Int)
          ·
           rw [if_pos c13] at H
           have c13b0 : decide (12 < (t233.length : Int)) = true := decide_eq_true c13
           have c13b1 : decide (12 < t233.length) = true := decide_eq_true (by omega)
           clear c13
           by_cases c14 : ((rd_T40 t233 12).f0) = 0
           ·
            rw [if_pos c14] at H
            have c14b0 : (((rd_T40 t233 12).f0) == 0) = true := beq_iff_eq.mpr c14
            have c14b1 : (((rd_T40 t233 12).f0) != 0) = false := bne_eq_false_iff_eq.mpr c14
            clear c14
            by_cases c15 : (t244 == 21 && ((t245 == 2 && (t246 == 2 && (t247 == 3))))) = true
            ·
             rw [if_pos c15] at H
             have c15b0 : (t244 == 21 && ((t245 == 2 && (t246 == 2 && (t247 == 3))))) = true := c15
             (try (have c15b1 : decide (t244 = 21 && ((t245 == 2 && (t246 == 2 && (t247 == 3))))) = true := by simpa using c15))
             (try (have c15b2 : (t244 == 21 && ((t245 == 2 && (t246 == 2 && (t247 == 3))))) = true := by simpa using c15))
             clear c15
             replace H := Option.bind_eq_some_iff.mp H
             obtain ⟨t259, A160, H⟩ := H
             replace H : (if t259 = 0 then (if t252.toList = ([97, 32, 45, 62, 32, 55, 85, 32, 39, 92, 51, 55, 55, 39, 32, 34, 120, 92, 110, 34] : List UInt8) then ((token_Name.f k (⟨#[113, 95, 49]⟩ : ByteArray)).bind fun t260 => (if t260 = true then ((token_Name.f k (⟨#[49, 113]⟩ : ByteArray)).bind fun t261 => (if t261 = true then (none) else ((token_Name.f k (⟨#[105, 110, 116]⟩ : ByteArray)).bind fun t262 => (if t262 = true then (none) else ((token_Word.f k (⟨#[105, 110, 116]⟩ : ByteArray)).bind fun t263 => (if t263 = true then ((token_At.f (⟨#[97, 98, 10, 98]⟩ : ByteArray) 4).bind fun bt264 => (some (bt264.1 == 2 && (bt264.2.1 == 2 && (bt264.2.2 == 4))))) else (none))))))) else (none))) else (none)) else (none)) = some r := H
             have A16 := Aside0.mk A160
             clear A160
             by_cases c17 : t259 = 0
             ·
              rw [if_pos c17] at H
              have c17b0 : (t259 == 0) = true := beq_iff_eq.mpr c17
              have c17b1 : (t259 != 0) = false := bne_eq_false_iff_eq.mpr c17
              clear c17
              by_cases c18 : t252.toList = ([97, 32, 45, 62, 32, 55, 85, 32, 39, 92, 51, 55, 55, 39, 32, 34, 120, 92, 110, 34] : List UInt8)
              ·
               rw [if_pos c18] at H
               have c18b0 : (t252.toList == ([97, 32, 45, 62, 32, 55, 85, 32, 39, 92, 51, 55, 55, 39, 32, 34, 120, 92, 110, 34] : List UInt8)) = true := beq_iff_eq.mpr c18
               have c18b1 : (t252.toList != ([97, 32, 45, 62, 32, 55, 85, 32, 39, 92, 51, 55, 55, 39, 32, 34, 120, 92, 110, 34] : List UInt8)) = false := bne_eq_false_iff_eq.mpr c18
               clear c18
               replace H := Option.bind_eq_some_iff.mp H
               obtain ⟨t260, A190, H⟩ := H
               replace H : (if t260 = true then ((token_Name.f k (⟨#[49, 113]⟩ : ByteArray)).bind fun t261 => (if t261 = true then (none) else ((token_Name.f k (⟨#[105, 110, 116]⟩ : ByteArray)).bind fun t262 => (if t262 = true then (none) else ((token_Word.f k (⟨#[105, 110, 116]⟩ : ByteArray)).bind fun t263 => (if t263 = true then ((token_At.f (⟨#[97, 98, 10, 98]⟩ : ByteArray) 4).bind fun bt264 => (some (bt264.1 == 2 && (bt264.2.1 == 2 && (bt264.2.2 == 4))))) else (none))))))) else (none)) = some r := H
               have A19 := Aside0.mk A190
               clear A190
               by_cases c20 : t260 = true
               ·
                subst c20
                have H1 : ((token_Name.f k (⟨#[49, 113]⟩ : ByteArray)).bind fun t261 => (if t261 = true then (none) else ((token_Name.f k (⟨#[105, 110, 116]⟩ : ByteArray)).bind fun t262 => (if t262 = true then (none) else ((token_Word.f k (⟨#[105, 110, 116]⟩ : ByteArray)).bind fun t263 => (if t263 = true then ((token_At.f (⟨#[97, 98, 10, 98]⟩ : ByteArray) 4).bind fun bt264 => (some (bt264.1 == 2 && (bt264.2.1 == 2 && (bt264.2.2 == 4))))) else (none))))))) = some r := by rw [if_pos rfl] at H; exact H
                clear H
                have H := H1
                clear H1
                replace H := Option.bind_eq_some_iff.mp H
                obtain ⟨t261, A210, H⟩ := H
                replace H : (if t261 = true then (none) else ((token_Name.f k (⟨#[105, 110, 116]⟩ : ByteArray)).bind fun t262 => (if t262 = true then (none) else ((token_Word.f k (⟨#[105, 110, 116]⟩ : ByteArray)).bind fun t263 => (if t263 = true then ((token_At.f (⟨#[97, 98, 10, 98]⟩ : ByteArray) 4).bind fun bt264 => (some (bt264.1 == 2 && (bt264.2.1 == 2 && (bt264.2.2 == 4))))) else (none)))))) = some r := H
                have A21 := Aside0.mk A210
                clear A210
                by_cases c22 : t261 = true
                ·
                 subst c22
                 have H1 : (none) = some r := by rw [if_pos rfl] at H; exact H
                 clear H
                 have H := H1
                 clear H1
                 exact absurd H (by simp)
                ·
                 replace c22 := Bool.eq_false_iff.mpr c22
                 subst c22
                 have H1 : ((token_Name.f k (⟨#[105, 110, 116]⟩ : ByteArray)).bind fun t262 => (if t262 = true then (none) else ((token_Word.f k (⟨#[105, 110, 116]⟩ : ByteArray)).bind fun t263 => (if t263 = true then ((token_At.f (⟨#[97, 98, 10, 98]⟩ : ByteArray) 4).bind fun bt264 => (some (bt264.1 == 2 && (bt264.2.1 == 2 && (bt264.2.2 == 4))))) else (none))))) = some r := by rw [if_neg (show ¬ (false = true) by decide)] at H; exact H
                 clear H
                 have H := H1
                 clear H1
                 replace H := Option.bind_eq_some_iff.mp H
                 obtain ⟨t262, A230, H⟩ := H
                 replace H : (if t262 = true then (none) else ((token_Word.f k (⟨#[105, 110, 116]⟩ : ByteArray)).bind fun t263 => (if t263 = true then ((token_At.f (⟨#[97, 98, 10, 98]⟩ : ByteArray) 4).bind fun bt264 => (some (bt264.1 == 2 && (bt264.2.1 == 2 && (bt264.2.2 == 4))))) else (none)))) = some r := H
                 have A23 := Aside0.mk A230
                 clear A230
                 by_cases c24 : t262 = true
                 ·
                  subst c24
                  have H1 : (none) = some r := by rw [if_pos rfl] at H; exact H
                  clear H
                  have H := H1
                  clear H1
                  exact absurd H (by simp)
                 ·
                  replace c24 := Bool.eq_false_iff.mpr c24
                  subst c24
                  have H1 : ((token_Word.f k (⟨#[105, 110, 116]⟩ : ByteArray)).bind fun t263 => (if t263 = true then ((token_At.f (⟨#[97, 98, 10, 98]⟩ : ByteArray) 4).bind fun bt264 => (some (bt264.1 == 2 && (bt264.2.1 == 2 && (bt264.2.2 == 4))))) else (none))) = some r := by rw [if_neg (show ¬ (false = true) by decide)] at H; exact H
                  clear H
                  have H := H1
                  clear H1
                  replace H := Option.bind_eq_some_iff.mp H
                  obtain ⟨t263, A250, H⟩ := H
                  replace H : (if t263 = true then ((token_At.f (⟨#[97, 98, 10, 98]⟩ : ByteArray) 4).bind fun bt264 => (some (bt264.1 == 2 && (bt264.2.1 == 2 && (bt264.2.2 == 4))))) else (none)) = some r := H
                  have A25 := Aside0.mk A250
                  clear A250
                  by_cases c26 : t263 = true
                  ·
                   subst c26
                   have H1 : ((token_At.f (⟨#[97, 98, 10, 98]⟩ : ByteArray) 4).bind fun bt264 => (some (bt264.1 == 2 && (bt264.2.1 == 2 && (bt264.2.2 == 4))))) = some r := by rw [if_pos rfl] at H; exact H
                   clear H
                   have H := H1
                   clear H1
                   replace H := Option.bind_eq_some_iff.mp H
                   obtain ⟨⟨t264, t265, t266⟩, A270, H⟩ := H
                   replace H : (some (t264 == 2 && (t265 == 2 && (t266 == 4)))) = some r := H
                   have A27 := Aside0.mk A270
                   clear A270
                   obtain rfl := Option.some.inj H
                   go_enter Tryd.func15, Tryd.ntmps15
                   go_wp2_with (first | ((with_reducible refine gate_callee (f := 18) rfl ?_); refine goesL_ (some 8) rfl rfl Tryd.func18 (by kernel_rfl) rfl #[.string (⟨#[105, 110, 116, 32, 97, 91, 50, 93, 61, 123, 48, 120, 49, 102, 44, 39, 92, 110, 39, 125, 59, 32, 47, 47, 32, 120]⟩ : ByteArray)] rfl (by (try simp only [List.map_toArray, List.map_cons, List.map_nil]); first | done | rfl | (simp only [List.length_drop, List.length_take]; rfl)) ?_; (with_reducible refine (token_Scan.calls (⟨#[105, 110, 116, 32, 97, 91, 50, 93, 61, 123, 48, 120, 49, 102, 44, 39, 92, 110, 39, 125, 59, 32, 47, 47, 32, 120]⟩ : ByteArray) t233 t236 t237 t238 t239 _ ?side1 A1.out).mono ?_); (case side1 => exact GInv.below HG.out (by repeat (first | (with_reducible first | exact HB.out | apply below_alloc | apply pw_below_drewN | apply below_drew1) | exact HB.out))); rintro e w28 ⟨v234, rfl, ho0, hb⟩; refine ⟨_, rfl, ?_⟩; have n0_ := Aside0.mk (Kd.R_lower ho0 (below_size (by repeat (first | (with_reducible first | exact HB.out | apply below_alloc | apply pw_below_drewN | apply below_drew1) | exact HB.out)))); have n1_ := Aside0.mk (below_step (by repeat (first | (with_reducible first | exact HB.out | apply below_alloc | apply pw_below_drewN | apply below_drew1) | exact HB.out)) hb); clear HB; have HO235 := n0_; have HB := n1_; clear n0_ n1_; (try clear hb); (try clear hb2); (try clear hk); (try clear hi); (try clear ho0)) | ((with_reducible refine gate_dst (N := 2) rfl ?_); refine box_event ?hg (N := 2) ?hd (cs := #[.int .i64 0, .int .i64 0, .int .i64 0, .int .i64 0]) (t := 34) ?hr ?_; (case hd => rfl); (case hg => rfl); (case hr => first | (go_simp; done) | (go_simp; rfl)); intro gb240 hg w29 hbox hb; have n0_ := Aside0.mk (Kd.R_below (by (with_reducible repeat (first | apply Kd.R_alloc | apply Kd.R_drewN | apply Kd.R_drew)); exact HO235.out) hb); have n1_ := Aside0.mk (below_step (by repeat (first | (with_reducible first | exact HB.out | apply below_alloc | apply pw_below_drewN | apply below_drew1) | exact HB.out)) hb); have n2_ := Aside0.mk (hbox); have n3_ := Aside0.mk ((by rw [hg]; exact (below_size (by repeat (first | (with_reducible first | exact HB.out | apply below_alloc | apply pw_below_drewN | apply below_drew1) | exact HB.out))) : w.heap.size ≤ gb240)); have n4_ := n3_; clear HO235; clear HB; have HO235 := n0_; have HB := n1_; have BK240 := n2_; have GW240 := n3_; have GE240 := n4_; clear n0_ n1_ n2_ n3_ n4_; clear hb hbox hg; have hcz30_0 : w29.cell? ⟨gb240, 0, none⟩ = some (.int .i64 0) := (blk_cell BK240.out 0).trans rfl; have hcz30_1 : w29.cell? ⟨gb240, 1, none⟩ = some (.int .i64 0) := (blk_cell BK240.out 1).trans rfl; have hcz30_2 : w29.cell? ⟨gb240, 2, none⟩ = some (.int .i64 0) := (blk_cell BK240.out 2).trans rfl; have hcz30_3 : w29.cell? ⟨gb240, 3, none⟩ = some (.int .i64 0) := (blk_cell BK240.out 3).trans rfl; have hfz30_0 := blk_frozen BK240.out 0; have hfz30_1 := blk_frozen BK240.out 1; have hfz30_2 := blk_frozen BK240.out 2; have hfz30_3 := blk_frozen BK240.out 3) | ((with_reducible refine gate_callee (f := 18) rfl ?_); refine goesL_ (some 12) rfl rfl Tryd.func18 (by kernel_rfl) rfl #[.string (⟨#[97, 10, 32, 48, 56]⟩ : ByteArray)] rfl (by (try simp only [List.map_toArray, List.map_cons, List.map_nil]); first | done | rfl | (simp only [List.length_drop, List.length_take]; rfl)) ?_; (with_reducible refine (token_Scan.calls (⟨#[97, 10, 32, 48, 56]⟩ : ByteArray) t241 t244 t245 t246 t247 _ ?side1 A2.out).mono ?_); (case side1 => exact GInv.below HG.out (by repeat (first | (with_reducible first | exact HB.out | apply below_alloc | apply pw_below_drewN | apply below_drew1 | refine below_set ?_ GE240.out) | exact HB.out))); rintro e w31 ⟨v242, rfl, ho0, hb⟩; refine ⟨_, rfl, ?_⟩; have n0_ := Aside0.mk (Kd.R_elder' (by (with_reducible repeat (first | apply Kd.R_alloc | apply Kd.R_drewN | apply Kd.R_drew)); exact (Kd.R_mono (Kd.R_far (p := ⟨gb240, 3, none⟩) (Kd.R_far (p := ⟨gb240, 2, none⟩) (Kd.R_far (p := ⟨gb240, 1, none⟩) (Kd.R_far (p := ⟨gb240, 0, none⟩) (Kd.R_types HO235.out BK240.out (by decide)) (fun _ hk => hk.2) (.int .i64 t236)) (fun _ hk => hk.2) (.int .i64 t237)) (fun _ hk => hk.2) (.int .i64 t238)) (fun _ hk => hk.2) (.int .i64 t239)) (fun _ h_ => h_.1))) (Kd.R_base ho0) hb); have n1_ := Aside0.mk (Kd.R_lower (Kd.R_new' ho0 (Kd.R_lt (by (with_reducible repeat (first | apply Kd.R_alloc | apply Kd.R_drewN | apply Kd.R_drew)); exact (Kd.R_mono (Kd.R_far (p := ⟨gb240, 3, none⟩) (Kd.R_far (p := ⟨gb240, 2, none⟩) (Kd.R_far (p := ⟨gb240, 1, none⟩) (Kd.R_far (p := ⟨gb240, 0, none⟩) (Kd.R_types HO235.out BK240.out (by decide)) (fun _ hk => hk.2) (.int .i64 t236)) (fun _ hk => hk.2) (.int .i64 t237)) (fun _ hk => hk.2) (.int .i64 t238)) (fun _ hk => hk.2) (.int .i64 t239)) (fun _ h_ => h_.1))))) (below_size (by repeat (first | (with_reducible first | exact HB.out | apply below_alloc | apply pw_below_drewN | apply below_drew1 | refine below_set ?_ GE240.out) | exact HB.out)))); have n2_ := Aside0.mk (blk_below (g := gb240) (o := .cells #[.int .i64 t236, .int .i64 t237, .int .i64 t238, .int .i64 t239] 34 (0, 0)) (by (with_reducible repeat (first | refine blk_drewN ?_ _ | refine blk_drew ?_ | refine blk_alloc ?_ _)); refine blk_put (cs := #[.int .i64 t236, .int .i64 t237, .int .i64 t238, .int .i64 0]) ?_ 3 _ rfl; (with_reducible repeat (first | refine blk_drewN ?_ _ | refine blk_drew ?_ | refine blk_alloc ?_ _)); refine blk_put (cs := #[.int .i64 t236, .int .i64 t237, .int .i64 0, .int .i64 0]) ?_ 2 _ rfl; (with_reducible repeat (first | refine blk_drewN ?_ _ | refine blk_drew ?_ | refine blk_alloc ?_ _)); refine blk_put (cs := #[.int .i64 t236, .int .i64 0, .int .i64 0, .int .i64 0]) ?_ 1 _ rfl; (with_reducible repeat (first | refine blk_drewN ?_ _ | refine blk_drew ?_ | refine blk_alloc ?_ _)); refine blk_put (cs := #[.int .i64 0, .int .i64 0, .int .i64 0, .int .i64 0]) ?_ 0 _ rfl; (with_reducible repeat (first | refine blk_drewN ?_ _ | refine blk_drew ?_ | refine blk_alloc ?_ _)); exact BK240.out) hb); have n3_ := Aside0.mk (below_step (by repeat (first | (with_reducible first | exact HB.out | apply below_alloc | apply pw_below_drewN | apply below_drew1 | refine below_set ?_ GE240.out) | exact HB.out)) hb); clear HO235; clear BK240; clear HB; have HO235 := n0_; have HO243 := n1_; have BK240 := n2_; have HB := n3_; clear n0_ n1_ n2_ n3_; (try clear hb); (try clear hb2); (try clear hk); (try clear hi); (try clear ho0)) | ((with_reducible refine gate_dst (N := 4) rfl ?_); refine box_event ?hg (N := 4) ?hd (cs := #[.int .i64 0, .int .i64 0, .int .i64 0, .int .i64 0]) (t := 34) ?hr ?_; (case hd => rfl); (case hg => rfl); (case hr => first | (go_simp; done) | (go_simp; rfl)); intro gb248 hg w32 hbox hb; have n0_ := Aside0.mk (Kd.R_below (by (with_reducible repeat (first | apply Kd.R_alloc | apply Kd.R_drewN | apply Kd.R_drew)); exact HO235.out) hb); have n1_ := Aside0.mk (Kd.R_below (by (with_reducible repeat (first | apply Kd.R_alloc | apply Kd.R_drewN | apply Kd.R_drew)); exact HO243.out) hb); have n2_ := Aside0.mk (blk_below (g := gb240) (o := .cells #[.int .i64 t236, .int .i64 t237, .int .i64 t238, .int .i64 t239] 34 (0, 0)) (by (with_reducible repeat (first | refine blk_drewN ?_ _ | refine blk_drew ?_ | refine blk_alloc ?_ _)); exact BK240.out) hb); have n3_ := Aside0.mk (below_step (by repeat (first | (with_reducible first | exact HB.out | apply below_alloc | apply pw_below_drewN | apply below_drew1 | refine below_set ?_ GE240.out) | exact HB.out)) hb); have n4_ := Aside0.mk (hbox); have n5_ := Aside0.mk ((by rw [hg]; exact (below_size (by repeat (first | (with_reducible first | exact HB.out | apply below_alloc | apply pw_below_drewN | apply below_drew1 | refine below_set ?_ GE240.out) | exact HB.out))) : w.heap.size ≤ gb248)); have n6_ := n5_; have n7_ := Aside0.mk ((by rw [hg]; exact Nat.ne_of_lt (blk_lt (g := gb240) (o := .cells #[.int .i64 t236, .int .i64 t237, .int .i64 t238, .int .i64 t239] 34 (0, 0)) (by (with_reducible repeat (first | refine blk_drewN ?_ _ | refine blk_drew ?_ | refine blk_alloc ?_ _)); exact BK240.out)) : gb240 ≠ gb248)); have n8_ := Aside0.mk ((by rw [hg]; exact Nat.ne_of_gt (blk_lt (g := gb240) (o := .cells #[.int .i64 t236, .int .i64 t237, .int .i64 t238, .int .i64 t239] 34 (0, 0)) (by (with_reducible repeat (first | refine blk_drewN ?_ _ | refine blk_drew ?_ | refine blk_alloc ?_ _)); exact BK240.out)) : gb248 ≠ gb240)); clear HO235; clear HO243; clear BK240; clear HB; have HO235 := n0_; have HO243 := n1_; have BK240 := n2_; have HB := n3_; have BK248 := n4_; have GW248 := n5_; have GE248 := n6_; have NB240_248 := n7_; have NB248_240 := n8_; clear n0_ n1_ n2_ n3_ n4_ n5_ n6_ n7_ n8_; clear hb hbox hg; have hnb33 := NB248_240.out; have hnc33 := NB240_248.out; have hcz34_0 : w32.cell? ⟨gb248, 0, none⟩ = some (.int .i64 0) := (blk_cell BK248.out 0).trans rfl; have hcz34_1 : w32.cell? ⟨gb248, 1, none⟩ = some (.int .i64 0) := (blk_cell BK248.out 1).trans rfl; have hcz34_2 : w32.cell? ⟨gb248, 2, none⟩ = some (.int .i64 0) := (blk_cell BK248.out 2).trans rfl; have hcz34_3 : w32.cell? ⟨gb248, 3, none⟩ = some (.int .i64 0) := (blk_cell BK248.out 3).trans rfl; have hfz34_0 := blk_frozen BK248.out 0; have hfz34_1 := blk_frozen BK248.out 1; have hfz34_2 := blk_frozen BK248.out 2; have hfz34_3 := blk_frozen BK248.out 3) | ((with_reducible refine gate_dst (N := 21) rfl ?_); refine Kd.R_lit k40 _ 40 ?hg (N := 21) ?hd (xs := ([(⟨1, (⟨#[97]⟩ : ByteArray), 0, (⟨0, 0, 0⟩ : S23)⟩ : S40), (⟨6, (⟨#[45, 62]⟩ : ByteArray), 0, (⟨0, 0, 0⟩ : S23)⟩ : S40), (⟨3, (⟨#[117, 110, 115, 105, 103, 110, 101, 100, 32, 105, 110, 116]⟩ : ByteArray), 7, (⟨0, 0, 0⟩ : S23)⟩ : S40), (⟨4, (⟨#[]⟩ : ByteArray), (-1), (⟨0, 0, 0⟩ : S23)⟩ : S40), (⟨5, (⟨#[120, 10]⟩ : ByteArray), 0, (⟨0, 0, 0⟩ : S23)⟩ : S40)] : List (S40))) (inner := [.int .i64 1, .string (⟨#[97]⟩ : ByteArray), .int .i64 0, .int .i64 0, .int .i64 0, .int .i64 0, .int .i64 6, .string (⟨#[45, 62]⟩ : ByteArray), .int .i64 0, .int .i64 0, .int .i64 0, .int .i64 0, .int .i64 3, .string (⟨#[117, 110, 115, 105, 103, 110, 101, 100, 32, 105, 110, 116]⟩ : ByteArray), .int .i64 7, .int .i64 0, .int .i64 0, .int .i64 0, .int .i64 4, .string (⟨#[]⟩ : ByteArray), .int .i64 (-1), .int .i64 0, .int .i64 0, .int .i64 0, .int .i64 5, .string (⟨#[120, 10]⟩ : ByteArray), .int .i64 0, .int .i64 0, .int .i64 0, .int .i64 0]) (ok := fun _ => True) (okp := fun _ => True) ?hr ?hp (fun _ hk => hk) trivial (Below.refl _ _) (Nat.le_refl _) (by simp) ?_; (case hd => rfl); (case hg => rfl); (case hr => first | (go_simp; done) | (go_simp; rfl)); (case hp => exact (Reps.c6 (show Kd.M k40 _ _ _ (⟨1, (⟨#[97]⟩ : ByteArray), 0, (⟨0, 0, 0⟩ : S23)⟩ : S40) [.int .i64 1, .string (⟨#[97]⟩ : ByteArray), .int .i64 0, .int .i64 0, .int .i64 0, .int .i64 0] from (k40_mkM _ _ _ (⟨1, (⟨#[97]⟩ : ByteArray), 0, (⟨0, 0, 0⟩ : S23)⟩ : S40) )) (Reps.c6 (show Kd.M k40 _ _ _ (⟨6, (⟨#[45, 62]⟩ : ByteArray), 0, (⟨0, 0, 0⟩ : S23)⟩ : S40) [.int .i64 6, .string (⟨#[45, 62]⟩ : ByteArray), .int .i64 0, .int .i64 0, .int .i64 0, .int .i64 0] from (k40_mkM _ _ _ (⟨6, (⟨#[45, 62]⟩ : ByteArray), 0, (⟨0, 0, 0⟩ : S23)⟩ : S40) )) (Reps.c6 (show Kd.M k40 _ _ _ (⟨3, (⟨#[117, 110, 115, 105, 103, 110, 101, 100, 32, 105, 110, 116]⟩ : ByteArray), 7, (⟨0, 0, 0⟩ : S23)⟩ : S40) [.int .i64 3, .string (⟨#[117, 110, 115, 105, 103, 110, 101, 100, 32, 105, 110, 116]⟩ : ByteArray), .int .i64 7, .int .i64 0, .int .i64 0, .int .i64 0] from (k40_mkM _ _ _ (⟨3, (⟨#[117, 110, 115, 105, 103, 110, 101, 100, 32, 105, 110, 116]⟩ : ByteArray), 7, (⟨0, 0, 0⟩ : S23)⟩ : S40) )) (Reps.c6 (show Kd.M k40 _ _ _ (⟨4, (⟨#[]⟩ : ByteArray), (-1), (⟨0, 0, 0⟩ : S23)⟩ : S40) [.int .i64 4, .string (⟨#[]⟩ : ByteArray), .int .i64 (-1), .int .i64 0, .int .i64 0, .int .i64 0] from (k40_mkM _ _ _ (⟨4, (⟨#[]⟩ : ByteArray), (-1), (⟨0, 0, 0⟩ : S23)⟩ : S40) )) (Reps.c6 (show Kd.M k40 _ _ _ (⟨5, (⟨#[120, 10]⟩ : ByteArray), 0, (⟨0, 0, 0⟩ : S23)⟩ : S40) [.int .i64 5, .string (⟨#[120, 10]⟩ : ByteArray), .int .i64 0, .int .i64 0, .int .i64 0, .int .i64 0] from (k40_mkM _ _ _ (⟨5, (⟨#[120, 10]⟩ : ByteArray), 0, (⟨0, 0, 0⟩ : S23)⟩ : S40) )) (Reps.none _ _))))))); intro v250 w35 ho36 hb hg_ hnew_; clear hg_ hnew_; (first | rw [← Ny249.out] at ho36 | (simp only [Int.reduceToNat] at ho36; rw [← Ny249.out] at ho36)); have n0_ := Aside0.mk (Kd.R_elder' (by (with_reducible repeat (first | apply Kd.R_alloc | apply Kd.R_drewN | apply Kd.R_drew)); exact (Kd.R_mono (Kd.R_far (p := ⟨gb248, 3, none⟩) (Kd.R_far (p := ⟨gb248, 2, none⟩) (Kd.R_far (p := ⟨gb248, 1, none⟩) (Kd.R_far (p := ⟨gb248, 0, none⟩) (Kd.R_types HO235.out BK248.out (by decide)) (fun _ hk => hk.2) (.int .i64 t244)) (fun _ hk => hk.2) (.int .i64 t245)) (fun _ hk => hk.2) (.int .i64 t246)) (fun _ hk => hk.2) (.int .i64 t247)) (fun _ h_ => h_.1))) (Kd.R_base ho36) hb); have n1_ := Aside0.mk (Kd.R_elder' (by (with_reducible repeat (first | apply Kd.R_alloc | apply Kd.R_drewN | apply Kd.R_drew)); exact (Kd.R_mono (Kd.R_far (p := ⟨gb248, 3, none⟩) (Kd.R_far (p := ⟨gb248, 2, none⟩) (Kd.R_far (p := ⟨gb248, 1, none⟩) (Kd.R_far (p := ⟨gb248, 0, none⟩) (Kd.R_types HO243.out BK248.out (by decide)) (fun _ hk => hk.2) (.int .i64 t244)) (fun _ hk => hk.2) (.int .i64 t245)) (fun _ hk => hk.2) (.int .i64 t246)) (fun _ hk => hk.2) (.int .i64 t247)) (fun _ h_ => h_.1))) (Kd.R_base ho36) hb); have n2_ := Aside0.mk (Kd.R_lower (Kd.R_new' (Kd.R_new' ho36 (Kd.R_lt (by (with_reducible repeat (first | apply Kd.R_alloc | apply Kd.R_drewN | apply Kd.R_drew)); exact (Kd.R_mono (Kd.R_far (p := ⟨gb248, 3, none⟩) (Kd.R_far (p := ⟨gb248, 2, none⟩) (Kd.R_far (p := ⟨gb248, 1, none⟩) (Kd.R_far (p := ⟨gb248, 0, none⟩) (Kd.R_types HO235.out BK248.out (by decide)) (fun _ hk => hk.2) (.int .i64 t244)) (fun _ hk => hk.2) (.int .i64 t245)) (fun _ hk => hk.2) (.int .i64 t246)) (fun _ hk => hk.2) (.int .i64 t247)) (fun _ h_ => h_.1))))) (Kd.R_lt (by (with_reducible repeat (first | apply Kd.R_alloc | apply Kd.R_drewN | apply Kd.R_drew)); exact (Kd.R_mono (Kd.R_far (p := ⟨gb248, 3, none⟩) (Kd.R_far (p := ⟨gb248, 2, none⟩) (Kd.R_far (p := ⟨gb248, 1, none⟩) (Kd.R_far (p := ⟨gb248, 0, none⟩) (Kd.R_types HO243.out BK248.out (by decide)) (fun _ hk => hk.2) (.int .i64 t244)) (fun _ hk => hk.2) (.int .i64 t245)) (fun _ hk => hk.2) (.int .i64 t246)) (fun _ hk => hk.2) (.int .i64 t247)) (fun _ h_ => h_.1))))) (below_size (by repeat (first | (with_reducible first | exact HB.out | apply below_alloc | apply pw_below_drewN | apply below_drew1 | refine below_set ?_ GE240.out | refine below_set ?_ GE248.out) | exact HB.out)))); have n3_ := Aside0.mk (blk_below (g := gb240) (o := .cells #[.int .i64 t236, .int .i64 t237, .int .i64 t238, .int .i64 t239] 34 (0, 0)) (by (with_reducible repeat (first | refine blk_drewN ?_ _ | refine blk_drew ?_ | refine blk_alloc ?_ _)); refine blk_far ?_ NB240_248.out _; (with_reducible repeat (first | refine blk_drewN ?_ _ | refine blk_drew ?_ | refine blk_alloc ?_ _)); refine blk_far ?_ NB240_248.out _; (with_reducible repeat (first | refine blk_drewN ?_ _ | refine blk_drew ?_ | refine blk_alloc ?_ _)); refine blk_far ?_ NB240_248.out _; (with_reducible repeat (first | refine blk_drewN ?_ _ | refine blk_drew ?_ | refine blk_alloc ?_ _)); refine blk_far ?_ NB240_248.out _; (with_reducible repeat (first | refine blk_drewN ?_ _ | refine blk_drew ?_ | refine blk_alloc ?_ _)); exact BK240.out) hb); have n4_ := Aside0.mk (blk_below (g := gb248) (o := .cells #[.int .i64 t244, .int .i64 t245, .int .i64 t246, .int .i64 t247] 34 (0, 0)) (by (with_reducible repeat (first | refine blk_drewN ?_ _ | refine blk_drew ?_ | refine blk_alloc ?_ _)); refine blk_put (cs := #[.int .i64 t244, .int .i64 t245, .int .i64 t246, .int .i64 0]) ?_ 3 _ rfl; (with_reducible repeat (first | refine blk_drewN ?_ _ | refine blk_drew ?_ | refine blk_alloc ?_ _)); refine blk_put (cs := #[.int .i64 t244, .int .i64 t245, .int .i64 0, .int .i64 0]) ?_ 2 _ rfl; (with_reducible repeat (first | refine blk_drewN ?_ _ | refine blk_drew ?_ | refine blk_alloc ?_ _)); refine blk_put (cs := #[.int .i64 t244, .int .i64 0, .int .i64 0, .int .i64 0]) ?_ 1 _ rfl; (with_reducible repeat (first | refine blk_drewN ?_ _ | refine blk_drew ?_ | refine blk_alloc ?_ _)); refine blk_put (cs := #[.int .i64 0, .int .i64 0, .int .i64 0, .int .i64 0]) ?_ 0 _ rfl; (with_reducible repeat (first | refine blk_drewN ?_ _ | refine blk_drew ?_ | refine blk_alloc ?_ _)); exact BK248.out) hb); have n5_ := Aside0.mk (below_step (by repeat (first | (with_reducible first | exact HB.out | apply below_alloc | apply pw_below_drewN | apply below_drew1 | refine below_set ?_ GE240.out | refine below_set ?_ GE248.out) | exact HB.out)) hb); clear HO235; clear HO243; clear BK240; clear BK248; clear HB; have HO235 := n0_; have HO243 := n1_; have HO251 := n2_; have BK240 := n3_; have BK248 := n4_; have HB := n5_; clear n0_ n1_ n2_ n3_ n4_ n5_; clear hb ho36; obtain ⟨Ao37, co37, eo37⟩ := Kd.R_slice HO251.out; subst eo37) | ((with_reducible refine gate_callee (f := 16) rfl ?_); refine goesL_ (some 22) rfl rfl Tryd.func16 (by kernel_rfl) rfl #[.slice Ao37 y249.length co37] rfl (by (try simp only [List.map_toArray, List.map_cons, List.map_nil]); first | done | rfl | (simp only [List.length_drop, List.length_take]; rfl)) ?_; (with_reducible refine (token_Join.calls k _ _ y249 t252 t253 _ ?side1 ?side2 ?side3 A3.out).mono ?_); (case side1 => exact GInv.below HG.out (by repeat (first | (with_reducible first | exact HB.out | apply below_alloc | apply pw_below_drewN | apply below_drew1 | refine below_set ?_ GE240.out | refine below_set ?_ GE248.out) | exact HB.out))); (case side2 => repeat (first | exact (Kd.R_reads' HO251.out).2.2 | (with_reducible refine Kd.C_alloc ?_ _) | (with_reducible refine Kd.C_drewN ?_ _) | (with_reducible refine Kd.C_drew ?_))); (case side3 => exact (Kd.R_reads' HO251.out).2.1); rintro e w38 ⟨rfl, hb⟩; refine ⟨_, rfl, ?_⟩; have n0_ := Aside0.mk (Kd.R_below (by (with_reducible repeat (first | apply Kd.R_alloc | apply Kd.R_drewN | apply Kd.R_drew)); exact HO235.out) hb); have n1_ := Aside0.mk (Kd.R_below (by (with_reducible repeat (first | apply Kd.R_alloc | apply Kd.R_drewN | apply Kd.R_drew)); exact HO243.out) hb); have n2_ := Aside0.mk (Kd.R_below (by (with_reducible repeat (first | apply Kd.R_alloc | apply Kd.R_drewN | apply Kd.R_drew)); exact HO251.out) hb); have n3_ := Aside0.mk (blk_below (g := gb240) (o := .cells #[.int .i64 t236, .int .i64 t237, .int .i64 t238, .int .i64 t239] 34 (0, 0)) (by (with_reducible repeat (first | refine blk_drewN ?_ _ | refine blk_drew ?_ | refine blk_alloc ?_ _)); exact BK240.out) hb); have n4_ := Aside0.mk (blk_below (g := gb248) (o := .cells #[.int .i64 t244, .int .i64 t245, .int .i64 t246, .int .i64 t247] 34 (0, 0)) (by (with_reducible repeat (first | refine blk_drewN ?_ _ | refine blk_drew ?_ | refine blk_alloc ?_ _)); exact BK248.out) hb); have n5_ := Aside0.mk (below_step (by repeat (first | (with_reducible first | exact HB.out | apply below_alloc | apply pw_below_drewN | apply below_drew1 | refine below_set ?_ GE240.out | refine below_set ?_ GE248.out) | exact HB.out)) hb); clear HO235; clear HO243; clear HO251; clear BK240; clear BK248; clear HB; have HO235 := n0_; have HO243 := n1_; have HO251 := n2_; have BK240 := n3_; have BK248 := n4_; have HB := n5_; clear n0_ n1_ n2_ n3_ n4_ n5_; (try clear hb); (try clear hb2); (try clear hk); (try clear hi); have hcz39_0 : w38.cell? ⟨gb240, 0, none⟩ = some (.int .i64 t236) := (blk_cell BK240.out 0).trans rfl; have hcz39_1 : w38.cell? ⟨gb240, 1, none⟩ = some (.int .i64 t237) := (blk_cell BK240.out 1).trans rfl; have hcz39_2 : w38.cell? ⟨gb240, 2, none⟩ = some (.int .i64 t238) := (blk_cell BK240.out 2).trans rfl; have hcz39_3 : w38.cell? ⟨gb240, 3, none⟩ = some (.int .i64 t239) := (blk_cell BK240.out 3).trans rfl; have hfz39_0 := blk_frozen BK240.out 0; have hfz39_1 := blk_frozen BK240.out 1; have hfz39_2 := blk_frozen BK240.out 2; have hfz39_3 := blk_frozen BK240.out 3; obtain ⟨Ao40, co40, eo40⟩ := Kd.R_slice HO235.out; subst eo40; have p254 : 0 ≤ (0 : Int) := (by omega); have q254 : 0 < (t233.length : Int) := of_decide_eq_true (by first | (with_reducible assumption) | assumption); obtain ⟨ad254, e254, hx254_0, hx254_1, hx254_2, hx254_3, hx254_4, hx254_5⟩ := at_T40 (Kd.R_reads' HO235.out).2.2 0 p254 q254; cases e254; have qi254 : (0 < t233.length) = True := eq_true (by omega); (try rw [show ((0 : Int)).toNat = 0 from rfl] at hx254_0); (try rw [show 0 * 6 = 0 from rfl] at hx254_0); (try rw [Addr.add_zero'] at hx254_0); (try rw [show ((0 : Int)).toNat = 0 from rfl] at hx254_1); (try rw [show 0 * 6 = 0 from rfl] at hx254_1); (try rw [Addr.add_zero'] at hx254_1); (try rw [show ((0 : Int)).toNat = 0 from rfl] at hx254_2); (try rw [show 0 * 6 = 0 from rfl] at hx254_2); (try rw [Addr.add_zero'] at hx254_2); (try rw [show ((0 : Int)).toNat = 0 from rfl] at hx254_3); (try rw [show 0 * 6 = 0 from rfl] at hx254_3); (try rw [Addr.add_zero'] at hx254_3); (try rw [show ((0 : Int)).toNat = 0 from rfl] at hx254_4); (try rw [show 0 * 6 = 0 from rfl] at hx254_4); (try rw [Addr.add_zero'] at hx254_4); (try rw [show ((0 : Int)).toNat = 0 from rfl] at hx254_5); (try rw [show 0 * 6 = 0 from rfl] at hx254_5); (try rw [Addr.add_zero'] at hx254_5); replace p254 := eq_true p254; replace q254 := eq_true q254; have p255 : 0 ≤ (7 : Int) := (by omega); have q255 : 7 < (t233.length : Int) := of_decide_eq_true (by first | (with_reducible assumption) | assumption); obtain ⟨ad255, e255, hx255_0, hx255_1, hx255_2, hx255_3, hx255_4, hx255_5⟩ := at_T40 (Kd.R_reads' HO235.out).2.2 7 p255 q255; obtain rfl : ad254 = ad255 := (by injection e255); (try simp only [show (7 : Int).toNat = 7 from rfl, Nat.reduceMul, Nat.reduceEqDiff, Go.Addr.add, ↓reduceIte] at hx255_0); (try simp only [show (7 : Int).toNat = 7 from rfl, Nat.reduceMul, Nat.reduceEqDiff, Go.Addr.add, ↓reduceIte] at hx255_1); (try simp only [show (7 : Int).toNat = 7 from rfl, Nat.reduceMul, Nat.reduceEqDiff, Go.Addr.add, ↓reduceIte] at hx255_2); (try simp only [show (7 : Int).toNat = 7 from rfl, Nat.reduceMul, Nat.reduceEqDiff, Go.Addr.add, ↓reduceIte] at hx255_3); (try simp only [show (7 : Int).toNat = 7 from rfl, Nat.reduceMul, Nat.reduceEqDiff, Go.Addr.add, ↓reduceIte] at hx255_4); (try simp only [show (7 : Int).toNat = 7 from rfl, Nat.reduceMul, Nat.reduceEqDiff, Go.Addr.add, ↓reduceIte] at hx255_5); have qi255 : (7 < t233.length) = True := eq_true (by omega); (try rw [show ((7 : Int)).toNat = 7 from rfl] at hx255_0); (try rw [show 7 * 6 = 42 from rfl] at hx255_0); (try rw [show ((7 : Int)).toNat = 7 from rfl] at hx255_1); (try rw [show 7 * 6 = 42 from rfl] at hx255_1); (try rw [show ((7 : Int)).toNat = 7 from rfl] at hx255_2); (try rw [show 7 * 6 = 42 from rfl] at hx255_2); (try rw [show ((7 : Int)).toNat = 7 from rfl] at hx255_3); (try rw [show 7 * 6 = 42 from rfl] at hx255_3); (try rw [show ((7 : Int)).toNat = 7 from rfl] at hx255_4); (try rw [show 7 * 6 = 42 from rfl] at hx255_4); (try rw [show ((7 : Int)).toNat = 7 from rfl] at hx255_5); (try rw [show 7 * 6 = 42 from rfl] at hx255_5); replace p255 := eq_true p255; replace q255 := eq_true q255; have p256 : 0 ≤ (9 : Int) := (by omega); have q256 : 9 < (t233.length : Int) := of_decide_eq_true (by first | (with_reducible assumption) | assumption); obtain ⟨ad256, e256, hx256_0, hx256_1, hx256_2, hx256_3, hx256_4, hx256_5⟩ := at_T40 (Kd.R_reads' HO235.out).2.2 9 p256 q256; obtain rfl : ad254 = ad256 := (by injection e256); (try simp only [show (9 : Int).toNat = 9 from rfl, Nat.reduceMul, Nat.reduceEqDiff, Go.Addr.add, ↓reduceIte] at hx256_0); (try simp only [show (9 : Int).toNat = 9 from rfl, Nat.reduceMul, Nat.reduceEqDiff, Go.Addr.add, ↓reduceIte] at hx256_1); (try simp only [show (9 : Int).toNat = 9 from rfl, Nat.reduceMul, Nat.reduceEqDiff, Go.Addr.add, ↓reduceIte] at hx256_2); (try simp only [show (9 : Int).toNat = 9 from rfl, Nat.reduceMul, Nat.reduceEqDiff, Go.Addr.add, ↓reduceIte] at hx256_3); (try simp only [show (9 : Int).toNat = 9 from rfl, Nat.reduceMul, Nat.reduceEqDiff, Go.Addr.add, ↓reduceIte] at hx256_4); (try simp only [show (9 : Int).toNat = 9 from rfl, Nat.reduceMul, Nat.reduceEqDiff, Go.Addr.add, ↓reduceIte] at hx256_5); have qi256 : (9 < t233.length) = True := eq_true (by omega); (try rw [show ((9 : Int)).toNat = 9 from rfl] at hx256_0); (try rw [show 9 * 6 = 54 from rfl] at hx256_0); (try rw [show ((9 : Int)).toNat = 9 from rfl] at hx256_1); (try rw [show 9 * 6 = 54 from rfl] at hx256_1); (try rw [show ((9 : Int)).toNat = 9 from rfl] at hx256_2); (try rw [show 9 * 6 = 54 from rfl] at hx256_2); (try rw [show ((9 : Int)).toNat = 9 from rfl] at hx256_3); (try rw [show 9 * 6 = 54 from rfl] at hx256_3); (try rw [show ((9 : Int)).toNat = 9 from rfl] at hx256_4); (try rw [show 9 * 6 = 54 from rfl] at hx256_4); (try rw [show ((9 : Int)).toNat = 9 from rfl] at hx256_5); (try rw [show 9 * 6 = 54 from rfl] at hx256_5); replace p256 := eq_true p256; replace q256 := eq_true q256; have p257 : 0 ≤ (9 : Int) := (by omega); have q257 : 9 < (t233.length : Int) := of_decide_eq_true (by first | (with_reducible assumption) | assumption); obtain ⟨ad257, e257, hx257_0, hx257_1, hx257_2, hx257_3, hx257_4, hx257_5⟩ := at_T40 (Kd.R_reads' HO235.out).2.2 9 p257 q257; obtain rfl : ad254 = ad257 := (by injection e257); (try simp only [show (9 : Int).toNat = 9 from rfl, Nat.reduceMul, Nat.reduceEqDiff, Go.Addr.add, ↓reduceIte] at hx257_0); (try simp only [show (9 : Int).toNat = 9 from rfl, Nat.reduceMul, Nat.reduceEqDiff, Go.Addr.add, ↓reduceIte] at hx257_1); (try simp only [show (9 : Int).toNat = 9 from rfl, Nat.reduceMul, Nat.reduceEqDiff, Go.Addr.add, ↓reduceIte] at hx257_2); (try simp only [show (9 : Int).toNat = 9 from rfl, Nat.reduceMul, Nat.reduceEqDiff, Go.Addr.add, ↓reduceIte] at hx257_3); (try simp only [show (9 : Int).toNat = 9 from rfl, Nat.reduceMul, Nat.reduceEqDiff, Go.Addr.add, ↓reduceIte] at hx257_4); (try simp only [show (9 : Int).toNat = 9 from rfl, Nat.reduceMul, Nat.reduceEqDiff, Go.Addr.add, ↓reduceIte] at hx257_5); have qi257 : (9 < t233.length) = True := eq_true (by omega); (try rw [show ((9 : Int)).toNat = 9 from rfl] at hx257_0); (try rw [show 9 * 6 = 54 from rfl] at hx257_0); (try rw [show ((9 : Int)).toNat = 9 from rfl] at hx257_1); (try rw [show 9 * 6 = 54 from rfl] at hx257_1); (try rw [show ((9 : Int)).toNat = 9 from rfl] at hx257_2); (try rw [show 9 * 6 = 54 from rfl] at hx257_2); (try rw [show ((9 : Int)).toNat = 9 from rfl] at hx257_3); (try rw [show 9 * 6 = 54 from rfl] at hx257_3); (try rw [show ((9 : Int)).toNat = 9 from rfl] at hx257_4); (try rw [show 9 * 6 = 54 from rfl] at hx257_4); (try rw [show ((9 : Int)).toNat = 9 from rfl] at hx257_5); (try rw [show 9 * 6 = 54 from rfl] at hx257_5); replace p257 := eq_true p257; replace q257 := eq_true q257; have p258 : 0 ≤ (12 : Int) := (by omega); have q258 : 12 < (t233.length : Int) := of_decide_eq_true (by first | (with_reducible assumption) | assumption); obtain ⟨ad258, e258, hx258_0, hx258_1, hx258_2, hx258_3, hx258_4, hx258_5⟩ := at_T40 (Kd.R_reads' HO235.out).2.2 12 p258 q258; obtain rfl : ad254 = ad258 := (by injection e258); (try simp only [show (12 : Int).toNat = 12 from rfl, Nat.reduceMul, Nat.reduceEqDiff, Go.Addr.add, ↓reduceIte] at hx258_0); (try simp only [show (12 : Int).toNat = 12 from rfl, Nat.reduceMul, Nat.reduceEqDiff, Go.Addr.add, ↓reduceIte] at hx258_1); (try simp only [show (12 : Int).toNat = 12 from rfl, Nat.reduceMul, Nat.reduceEqDiff, Go.Addr.add, ↓reduceIte] at hx258_2); (try simp only [show (12 : Int).toNat = 12 from rfl, Nat.reduceMul, Nat.reduceEqDiff, Go.Addr.add, ↓reduceIte] at hx258_3); (try simp only [show (12 : Int).toNat = 12 from rfl, Nat.reduceMul, Nat.reduceEqDiff, Go.Addr.add, ↓reduceIte] at hx258_4); (try simp only [show (12 : Int).toNat = 12 from rfl, Nat.reduceMul, Nat.reduceEqDiff, Go.Addr.add, ↓reduceIte] at hx258_5); have qi258 : (12 < t233.length) = True := eq_true (by omega); (try rw [show ((12 : Int)).toNat = 12 from rfl] at hx258_0); (try rw [show 12 * 6 = 72 from rfl] at hx258_0); (try rw [show ((12 : Int)).toNat = 12 from rfl] at hx258_1); (try rw [show 12 * 6 = 72 from rfl] at hx258_1); (try rw [show ((12 : Int)).toNat = 12 from rfl] at hx258_2); (try rw [show 12 * 6 = 72 from rfl] at hx258_2); (try rw [show ((12 : Int)).toNat = 12 from rfl] at hx258_3); (try rw [show 12 * 6 = 72 from rfl] at hx258_3); (try rw [show ((12 : Int)).toNat = 12 from rfl] at hx258_4); (try rw [show 12 * 6 = 72 from rfl] at hx258_4); (try rw [show ((12 : Int)).toNat = 12 from rfl] at hx258_5); (try rw [show 12 * 6 = 72 from rfl] at hx258_5); replace p258 := eq_true p258; replace q258 := eq_true q258; have hcz41_0 : w38.cell? ⟨gb248, 0, none⟩ = some (.int .i64 t244) := (blk_cell BK248.out 0).trans rfl; have hcz41_1 : w38.cell? ⟨gb248, 1, none⟩ = some (.int .i64 t245) := (blk_cell BK248.out 1).trans rfl; have hcz41_2 : w38.cell? ⟨gb248, 2, none⟩ = some (.int .i64 t246) := (blk_cell BK248.out 2).trans rfl; have hcz41_3 : w38.cell? ⟨gb248, 3, none⟩ = some (.int .i64 t247) := (blk_cell BK248.out 3).trans rfl; have hfz41_0 := blk_frozen BK248.out 0; have hfz41_1 := blk_frozen BK248.out 1; have hfz41_2 := blk_frozen BK248.out 2; have hfz41_3 := blk_frozen BK248.out 3) | (go_at_call 17; (with_reducible refine (mortiselaw02_num.calls t253 t259 _ A16.out).mono ?_); rintro e w' ⟨rfl, ⟨nd, rfl⟩⟩) | (go_at_call 11; (with_reducible refine (token_Name.calls k (⟨#[113, 95, 49]⟩ : ByteArray) true _ A19.out).mono ?_); rintro e w42 ⟨rfl, hb⟩; have n0_ := Aside0.mk (Kd.R_below (by (with_reducible repeat (first | apply Kd.R_alloc | apply Kd.R_drewN | apply Kd.R_drew)); exact HO235.out) hb); have n1_ := Aside0.mk (Kd.R_below (by (with_reducible repeat (first | apply Kd.R_alloc | apply Kd.R_drewN | apply Kd.R_drew)); exact HO243.out) hb); have n2_ := Aside0.mk (Kd.R_below (by (with_reducible repeat (first | apply Kd.R_alloc | apply Kd.R_drewN | apply Kd.R_drew)); exact HO251.out) hb); have n3_ := Aside0.mk (blk_below (g := gb240) (o := .cells #[.int .i64 t236, .int .i64 t237, .int .i64 t238, .int .i64 t239] 34 (0, 0)) (by (with_reducible repeat (first | refine blk_drewN ?_ _ | refine blk_drew ?_ | refine blk_alloc ?_ _)); exact BK240.out) hb); have n4_ := Aside0.mk (blk_below (g := gb248) (o := .cells #[.int .i64 t244, .int .i64 t245, .int .i64 t246, .int .i64 t247] 34 (0, 0)) (by (with_reducible repeat (first | refine blk_drewN ?_ _ | refine blk_drew ?_ | refine blk_alloc ?_ _)); exact BK248.out) hb); have n5_ := Aside0.mk (below_step (by repeat (first | (with_reducible first | exact HB.out | apply below_alloc | apply pw_below_drewN | apply below_drew1 | refine below_set ?_ GE240.out | refine below_set ?_ GE248.out) | exact HB.out)) hb); clear HO235; clear HO243; clear HO251; clear BK240; clear BK248; clear HB; have HO235 := n0_; have HO243 := n1_; have HO251 := n2_; have BK240 := n3_; have BK248 := n4_; have HB := n5_; clear n0_ n1_ n2_ n3_ n4_ n5_; (try clear hb); (try clear hb2); (try clear hk); (try clear hi)) | (go_at_call 11; (with_reducible refine (token_Name.calls k (⟨#[49, 113]⟩ : ByteArray) false _ A21.out).mono ?_); rintro e w43 ⟨rfl, hb⟩; have n0_ := Aside0.mk (Kd.R_below (by (with_reducible repeat (first | apply Kd.R_alloc | apply Kd.R_drewN | apply Kd.R_drew)); exact HO235.out) hb); have n1_ := Aside0.mk (Kd.R_below (by (with_reducible repeat (first | apply Kd.R_alloc | apply Kd.R_drewN | apply Kd.R_drew)); exact HO243.out) hb); have n2_ := Aside0.mk (Kd.R_below (by (with_reducible repeat (first | apply Kd.R_alloc | apply Kd.R_drewN | apply Kd.R_drew)); exact HO251.out) hb); have n3_ := Aside0.mk (blk_below (g := gb240) (o := .cells #[.int .i64 t236, .int .i64 t237, .int .i64 t238, .int .i64 t239] 34 (0, 0)) (by (with_reducible repeat (first | refine blk_drewN ?_ _ | refine blk_drew ?_ | refine blk_alloc ?_ _)); exact BK240.out) hb); have n4_ := Aside0.mk (blk_below (g := gb248) (o := .cells #[.int .i64 t244, .int .i64 t245, .int .i64 t246, .int .i64 t247] 34 (0, 0)) (by (with_reducible repeat (first | refine blk_drewN ?_ _ | refine blk_drew ?_ | refine blk_alloc ?_ _)); exact BK248.out) hb); have n5_ := Aside0.mk (below_step (by repeat (first | (with_reducible first | exact HB.out | apply below_alloc | apply pw_below_drewN | apply below_drew1 | refine below_set ?_ GE240.out | refine below_set ?_ GE248.out) | exact HB.out)) hb); clear HO235; clear HO243; clear HO251; clear BK240; clear BK248; clear HB; have HO235 := n0_; have HO243 := n1_; have HO251 := n2_; have BK240 := n3_; have BK248 := n4_; have HB := n5_; clear n0_ n1_ n2_ n3_ n4_ n5_; (try clear hb); (try clear hb2); (try clear hk); (try clear hi)) | (go_at_call 11; (with_reducible refine (token_Name.calls k (⟨#[105, 110, 116]⟩ : ByteArray) false _ A23.out).mono ?_); rintro e w44 ⟨rfl, hb⟩; have n0_ := Aside0.mk (Kd.R_below (by (with_reducible repeat (first | apply Kd.R_alloc | apply Kd.R_drewN | apply Kd.R_drew)); exact HO235.out) hb); have n1_ := Aside0.mk (Kd.R_below (by (with_reducible repeat (first | apply Kd.R_alloc | apply Kd.R_drewN | apply Kd.R_drew)); exact HO243.out) hb); have n2_ := Aside0.mk (Kd.R_below (by (with_reducible repeat (first | apply Kd.R_alloc | apply Kd.R_drewN | apply Kd.R_drew)); exact HO251.out) hb); have n3_ := Aside0.mk (blk_below (g := gb240) (o := .cells #[.int .i64 t236, .int .i64 t237, .int .i64 t238, .int .i64 t239] 34 (0, 0)) (by (with_reducible repeat (first | refine blk_drewN ?_ _ | refine blk_drew ?_ | refine blk_alloc ?_ _)); exact BK240.out) hb); have n4_ := Aside0.mk (blk_below (g := gb248) (o := .cells #[.int .i64 t244, .int .i64 t245, .int .i64 t246, .int .i64 t247] 34 (0, 0)) (by (with_reducible repeat (first | refine blk_drewN ?_ _ | refine blk_drew ?_ | refine blk_alloc ?_ _)); exact BK248.out) hb); have n5_ := Aside0.mk (below_step (by repeat (first | (with_reducible first | exact HB.out | apply below_alloc | apply pw_below_drewN | apply below_drew1 | refine below_set ?_ GE240.out | refine below_set ?_ GE248.out) | exact HB.out)) hb); clear HO235; clear HO243; clear HO251; clear BK240; clear BK248; clear HB; have HO235 := n0_; have HO243 := n1_; have HO251 := n2_; have BK240 := n3_; have BK248 := n4_; have HB := n5_; clear n0_ n1_ n2_ n3_ n4_ n5_; (try clear hb); (try clear hb2); (try clear hk); (try clear hi)) | (go_at_call 13; (with_reducible refine (token_Word.calls k (⟨#[105, 110, 116]⟩ : ByteArray) true _ A25.out).mono ?_); rintro e w45 ⟨rfl, hb⟩; have n0_ := Aside0.mk (Kd.R_below (by (with_reducible repeat (first | apply Kd.R_alloc | apply Kd.R_drewN | apply Kd.R_drew)); exact HO235.out) hb); have n1_ := Aside0.mk (Kd.R_below (by (with_reducible repeat (first | apply Kd.R_alloc | apply Kd.R_drewN | apply Kd.R_drew)); exact HO243.out) hb); have n2_ := Aside0.mk (Kd.R_below (by (with_reducible repeat (first | apply Kd.R_alloc | apply Kd.R_drewN | apply Kd.R_drew)); exact HO251.out) hb); have n3_ := Aside0.mk (blk_below (g := gb240) (o := .cells #[.int .i64 t236, .int .i64 t237, .int .i64 t238, .int .i64 t239] 34 (0, 0)) (by (with_reducible repeat (first | refine blk_drewN ?_ _ | refine blk_drew ?_ | refine blk_alloc ?_ _)); exact BK240.out) hb); have n4_ := Aside0.mk (blk_below (g := gb248) (o := .cells #[.int .i64 t244, .int .i64 t245, .int .i64 t246, .int .i64 t247] 34 (0, 0)) (by (with_reducible repeat (first | refine blk_drewN ?_ _ | refine blk_drew ?_ | refine blk_alloc ?_ _)); exact BK248.out) hb); have n5_ := Aside0.mk (below_step (by repeat (first | (with_reducible first | exact HB.out | apply below_alloc | apply pw_below_drewN | apply below_drew1 | refine below_set ?_ GE240.out | refine below_set ?_ GE248.out) | exact HB.out)) hb); clear HO235; clear HO243; clear HO251; clear BK240; clear BK248; clear HB; have HO235 := n0_; have HO243 := n1_; have HO251 := n2_; have BK240 := n3_; have BK248 := n4_; have HB := n5_; clear n0_ n1_ n2_ n3_ n4_ n5_; (try clear hb); (try clear hb2); (try clear hk); (try clear hi)) | (go_at_call 9; (with_reducible refine (token_At.calls (⟨#[97, 98, 10, 98]⟩ : ByteArray) 4 t264 t265 t266 _ ?side1 A27.out).mono ?_); (case side1 => exact GInv.below HG.out (by repeat (first | (with_reducible first | exact HB.out | apply below_alloc | apply pw_below_drewN | apply below_drew1 | refine below_set ?_ GE240.out | refine below_set ?_ GE248.out) | exact HB.out))); rintro e w46 ⟨rfl, hb⟩; have n0_ := Aside0.mk (Kd.R_below (by (with_reducible repeat (first | apply Kd.R_alloc | apply Kd.R_drewN | apply Kd.R_drew)); exact HO235.out) hb); have n1_ := Aside0.mk (Kd.R_below (by (with_reducible repeat (first | apply Kd.R_alloc | apply Kd.R_drewN | apply Kd.R_drew)); exact HO243.out) hb); have n2_ := Aside0.mk (Kd.R_below (by (with_reducible repeat (first | apply Kd.R_alloc | apply Kd.R_drewN | apply Kd.R_drew)); exact HO251.out) hb); have n3_ := Aside0.mk (blk_below (g := gb240) (o := .cells #[.int .i64 t236, .int .i64 t237, .int .i64 t238, .int .i64 t239] 34 (0, 0)) (by (with_reducible repeat (first | refine blk_drewN ?_ _ | refine blk_drew ?_ | refine blk_alloc ?_ _)); exact BK240.out) hb); have n4_ := Aside0.mk (blk_below (g := gb248) (o := .cells #[.int .i64 t244, .int .i64 t245, .int .i64 t246, .int .i64 t247] 34 (0, 0)) (by (with_reducible repeat (first | refine blk_drewN ?_ _ | refine blk_drew ?_ | refine blk_alloc ?_ _)); exact BK248.out) hb); have n5_ := Aside0.mk (below_step (by repeat (first | (with_reducible first | exact HB.out | apply below_alloc | apply pw_below_drewN | apply below_drew1 | refine below_set ?_ GE240.out | refine below_set ?_ GE248.out) | exact HB.out)) hb); clear HO235; clear HO243; clear HO251; clear BK240; clear BK248; clear HB; have HO235 := n0_; have HO243 := n1_; have HO251 := n2_; have BK240 := n3_; have BK248 := n4_; have HB := n5_; clear n0_ n1_ n2_ n3_ n4_ n5_; (try clear hb); (try clear hb2); (try clear hk); (try clear hi)))
                   go_ret
                   exact ⟨by first | rfl | (simp [errW_none, errW_some] <;> rfl) | (simp [*, errW_none, errW_some] <;> rfl), by repeat (first | (with_reducible first | exact HB.out | apply below_alloc | apply pw_below_drewN | apply below_drew1 | refine below_set ?_ GE240.out | refine below_set ?_ GE248.out) | exact HB.out)⟩
                  ·
                   replace c26 := Bool.eq_false_iff.mpr c26
                   subst c26
                   have H1 : (none) = some r := by rw [if_neg (show ¬ (false = true) by decide)] at H; exact H
                   clear H
                   have H := H1
                   clear H1
                   exact absurd H (by simp)
               ·
                replace c20 := Bool.eq_false_iff.mpr c20
                subst c20
                have H1 : (none) = some r := by rw [if_neg (show ¬ (false = true) by decide)] at H; exact H
                clear H
                have H := H1
                clear H1
                exact absurd H (by simp)
              ·
               rw [if_neg c18] at H
               exact absurd H (by simp)
             ·
              rw [if_neg c17] at H
              exact absurd H (by simp)
            ·
             rw [if_neg c15] at H
             exact absurd H (by simp)
           ·
            rw [if_neg c14] at H
            exact absurd H (by simp)
          ·
           rw [if_neg c13] at H
           exact absurd H (by simp)
         ·
          rw [if_neg c12] at H
          exact absurd H (by simp)
        ·
         rw [if_neg c11] at H
         exact absurd H (by simp)
       ·
        rw [if_neg c10] at H
        exact absurd H (by simp)
      ·
       rw [if_neg c9] at H
       exact absurd H (by simp)
     ·
      rw [if_neg c8] at H
      exact absurd H (by simp)
    ·
     rw [if_neg c7] at H
     exact absurd H (by simp)
   ·
    rw [if_neg c6] at H
    exact absurd H (by simp)
  ·
   rw [if_neg c5] at H
   exact absurd H (by simp)
 ·
  rw [if_neg c4] at H
  exact absurd H (by simp)

/-! ### mortiselaw02_TokenSpots: function 3 -/
def mortiselaw02_TokenSpots.f (k : Nat) (a0 : ByteArray) (a1 : Int) : Option (Bool) := (token_At.f a0 a1).bind fun bt267 => ((mortiseref02_At.f k a0 a1).bind fun bt270 => (if (bt267.1 == bt270.1 && (bt267.2.1 == bt270.2.1 && (bt267.2.2 == bt270.2.2))) = true then ((token_Name.f k a0).bind fun t273 => ((mortiseref02_Name.f k a0).bind fun t274 => (if (t273 == t274) = true then ((token_Word.f k a0).bind fun t275 => ((mortiseref02_Word.f k a0).bind fun t276 => (if (t275 == t276) = true then ((mortiselaw02_heads.f k).bind fun t277 => (some t277)) else (none)))) else (none)))) else (none)))
theorem mortiselaw02_TokenSpots.mono : ∀ a0 a1 k, LeO (mortiselaw02_TokenSpots.f k a0 a1) (mortiselaw02_TokenSpots.f (k + 1) a0 a1) := by
 intro a0 a1 k
 unfold mortiselaw02_TokenSpots.f
 repeat' first
   | (with_reducible exact mortiselaw02_heads.mono _)
   | (with_reducible exact mortiseref02_At.mono _ _ _)
   | (with_reducible exact mortiseref02_Name.mono _ _)
   | (with_reducible exact mortiseref02_Word.mono _ _)
   | (with_reducible exact token_Name.mono _ _)
   | (with_reducible exact token_Word.mono _ _)
   | (with_reducible exact LeO.refl _)
   | (with_reducible exact LeO.none _)
   | (with_reducible refine LeO.ite ?_ ?_)
   | (with_reducible refine LeO.bind ?_ (fun _ => ?_))
   | exact mortiselaw02_heads.mono _
   | exact mortiseref02_At.mono _ _ _
   | exact mortiseref02_Name.mono _ _
   | exact mortiseref02_Word.mono _ _
   | exact token_Name.mono _ _
   | exact token_Word.mono _ _
   | exact LeO.none _
   | refine LeO.ite ?_ ?_
   | refine LeO.bind ?_ (fun _ => ?_)
theorem mortiselaw02_TokenSpots.calls (k : Nat) (a0 : ByteArray) (a1 : Int) (r : Bool) (w : World) (hG : GInv w) (h : mortiselaw02_TokenSpots.f k a0 a1 = some r) :
  Calls Tryd.prog 3 #[.string a0, .int .i64 a1] w fun e w' => e = .returned (.bool r) ∧ Below w.heap.size w w' := by
 have HB := Aside0.mk (Below.refl w.heap.size w)
 have HG := Aside0.mk hG
 clear hG
 have H : ((token_At.f a0 a1).bind fun bt267 => ((mortiseref02_At.f k a0 a1).bind fun bt270 => (if (bt267.1 == bt270.1 && (bt267.2.1 == bt270.2.1 && (bt267.2.2 == bt270.2.2))) = true then ((token_Name.f k a0).bind fun t273 => ((mortiseref02_Name.f k a0).bind fun t274 => (if (t273 == t274) = true then ((token_Word.f k a0).bind fun t275 => ((mortiseref02_Word.f k a0).bind fun t276 => (if (t275 == t276) = true then ((mortiselaw02_heads.f k).bind fun t277 => (some t277)) else (none)))) else (none)))) else (none)))) = some r := h
 clear h
 replace H := Option.bind_eq_some_iff.mp H
 obtain ⟨⟨t267, t268, t269⟩, A30, H⟩ := H
 replace H : ((mortiseref02_At.f k a0 a1).bind fun bt270 => (if (t267 == bt270.1 && (t268 == bt270.2.1 && (t269 == bt270.2.2))) = true then ((token_Name.f k a0).bind fun t273 => ((mortiseref02_Name.f k a0).bind fun t274 => (if (t273 == t274) = true then ((token_Word.f k a0).bind fun t275 => ((mortiseref02_Word.f k a0).bind fun t276 => (if (t275 == t276) = true then ((mortiselaw02_heads.f k).bind fun t277 => (some t277)) else (none)))) else (none)))) else (none))) = some r := H
 have A3 := Aside0.mk A30
 clear A30
 replace H := Option.bind_eq_some_iff.mp H
 obtain ⟨⟨t270, t271, t272⟩, A40, H⟩ := H
 replace H : (if (t267 == t270 && (t268 == t271 && (t269 == t272))) = true then ((token_Name.f k a0).bind fun t273 => ((mortiseref02_Name.f k a0).bind fun t274 => (if (t273 == t274) = true then ((token_Word.f k a0).bind fun t275 => ((mortiseref02_Word.f k a0).bind fun t276 => (if (t275 == t276) = true then ((mortiselaw02_heads.f k).bind fun t277 => (some t277)) else (none)))) else (none)))) else (none)) = some r := H
 have A4 := Aside0.mk A40
 clear A40
 by_cases c5 : (t267 == t270 && (t268 == t271 && (t269 == t272))) = true
 ·
  rw [if_pos c5] at H
  have c5b0 : (t267 == t270 && (t268 == t271 && (t269 == t272))) = true := c5
  (try (have c5b1 : decide (t267 = t270 && (t268 == t271 && (t269 == t272))) = true := by simpa using c5))
  (try (have c5b2 : (t267 == t270 && (t268 == t271 && (t269 == t272))) = true := by simpa using c5))
  clear c5
  replace H := Option.bind_eq_some_iff.mp H
  obtain ⟨t273, A60, H⟩ := H
  replace H : ((mortiseref02_Name.f k a0).bind fun t274 => (if (t273 == t274) = true then ((token_Word.f k a0).bind fun t275 => ((mortiseref02_Word.f k a0).bind fun t276 => (if (t275 == t276) = true then ((mortiselaw02_heads.f k).bind fun t277 => (some t277)) else (none)))) else (none))) = some r := H
  have A6 := Aside0.mk A60
  clear A60
  replace H := Option.bind_eq_some_iff.mp H
  obtain ⟨t274, A70, H⟩ := H
  replace H : (if (t273 == t274) = true then ((token_Word.f k a0).bind fun t275 => ((mortiseref02_Word.f k a0).bind fun t276 => (if (t275 == t276) = true then ((mortiselaw02_heads.f k).bind fun t277 => (some t277)) else (none)))) else (none)) = some r := H
  have A7 := Aside0.mk A70
  clear A70
  by_cases c8 : (t273 == t274) = true
  ·
   rw [if_pos c8] at H
   have c8b0 : (t273 == t274) = true := c8
   (try (have c8b1 : decide (t273 = t274) = true := by simpa using c8))
   (try (have c8b2 : (t273 == t274) = true := by simpa using c8))
   clear c8
   replace H := Option.bind_eq_some_iff.mp H
   obtain ⟨t275, A90, H⟩ := H
   replace H : ((mortiseref02_Word.f k a0).bind fun t276 => (if (t275 == t276) = true then ((mortiselaw02_heads.f k).bind fun t277 => (some t277)) else (none))) = some r := H
   have A9 := Aside0.mk A90
   clear A90
   replace H := Option.bind_eq_some_iff.mp H
   obtain ⟨t276, A100, H⟩ := H
   replace H : (if (t275 == t276) = true then ((mortiselaw02_heads.f k).bind fun t277 => (some t277)) else (none)) = some r := H
   have A10 := Aside0.mk A100
   clear A100
   by_cases c11 : (t275 == t276) = true
   ·
    rw [if_pos c11] at H
    have c11b0 : (t275 == t276) = true := c11
    (try (have c11b1 : decide (t275 = t276) = true := by simpa using c11))
    (try (have c11b2 : (t275 == t276) = true := by simpa using c11))
    clear c11
    replace H := Option.bind_eq_some_iff.mp H
    obtain ⟨t277, A120, H⟩ := H
    replace H : (some t277) = some r := H
    have A12 := Aside0.mk A120
    clear A120
    obtain rfl := Option.some.inj H
    go_enter Tryd.func3, Tryd.ntmps3
    go_wp2_with (first | ((with_reducible refine gate_callee (f := 9) rfl ?_); refine goesL_ (some 7) rfl rfl Tryd.func9 (by kernel_rfl) rfl #[.string a0, .int .i64 a1] rfl (by (try simp only [List.map_toArray, List.map_cons, List.map_nil]); first | done | rfl | (simp only [List.length_drop, List.length_take]; rfl)) ?_; (with_reducible refine (token_At.calls a0 a1 t267 t268 t269 _ ?side1 A3.out).mono ?_); (case side1 => exact GInv.below HG.out (by repeat (first | (with_reducible first | exact HB.out | apply below_alloc | apply pw_below_drewN | apply below_drew1) | exact HB.out))); rintro e w13 ⟨rfl, hb⟩; refine ⟨_, rfl, ?_⟩; have n0_ := Aside0.mk (below_step (by repeat (first | (with_reducible first | exact HB.out | apply below_alloc | apply pw_below_drewN | apply below_drew1) | exact HB.out)) hb); clear HB; have HB := n0_; clear n0_; (try clear hb); (try clear hb2); (try clear hk); (try clear hi)) | ((with_reducible refine gate_callee (f := 10) rfl ?_); refine goesL_ (some 10) rfl rfl Tryd.func10 (by kernel_rfl) rfl #[.string a0, .int .i64 a1] rfl (by (try simp only [List.map_toArray, List.map_cons, List.map_nil]); first | done | rfl | (simp only [List.length_drop, List.length_take]; rfl)) ?_; (with_reducible refine (mortiseref02_At.calls k a0 a1 t270 t271 t272 _ A4.out).mono ?_); rintro e w14 ⟨rfl, hb⟩; refine ⟨_, rfl, ?_⟩; have n0_ := Aside0.mk (below_step (by repeat (first | (with_reducible first | exact HB.out | apply below_alloc | apply pw_below_drewN | apply below_drew1) | exact HB.out)) hb); clear HB; have HB := n0_; clear n0_; (try clear hb); (try clear hb2); (try clear hk); (try clear hi)) | (go_at_call 11; (with_reducible refine (token_Name.calls k a0 t273 _ A6.out).mono ?_); rintro e w15 ⟨rfl, hb⟩; have n0_ := Aside0.mk (below_step (by repeat (first | (with_reducible first | exact HB.out | apply below_alloc | apply pw_below_drewN | apply below_drew1) | exact HB.out)) hb); clear HB; have HB := n0_; clear n0_; (try clear hb); (try clear hb2); (try clear hk); (try clear hi)) | (go_at_call 12; (with_reducible refine (mortiseref02_Name.calls k a0 t274 _ A7.out).mono ?_); rintro e w16 ⟨rfl, hb⟩; have n0_ := Aside0.mk (below_step (by repeat (first | (with_reducible first | exact HB.out | apply below_alloc | apply pw_below_drewN | apply below_drew1) | exact HB.out)) hb); clear HB; have HB := n0_; clear n0_; (try clear hb); (try clear hb2); (try clear hk); (try clear hi)) | (go_at_call 13; (with_reducible refine (token_Word.calls k a0 t275 _ A9.out).mono ?_); rintro e w17 ⟨rfl, hb⟩; have n0_ := Aside0.mk (below_step (by repeat (first | (with_reducible first | exact HB.out | apply below_alloc | apply pw_below_drewN | apply below_drew1) | exact HB.out)) hb); clear HB; have HB := n0_; clear n0_; (try clear hb); (try clear hb2); (try clear hk); (try clear hi)) | (go_at_call 14; (with_reducible refine (mortiseref02_Word.calls k a0 t276 _ A10.out).mono ?_); rintro e w18 ⟨rfl, hb⟩; have n0_ := Aside0.mk (below_step (by repeat (first | (with_reducible first | exact HB.out | apply below_alloc | apply pw_below_drewN | apply below_drew1) | exact HB.out)) hb); clear HB; have HB := n0_; clear n0_; (try clear hb); (try clear hb2); (try clear hk); (try clear hi)) | (go_at_call 15; (with_reducible refine (mortiselaw02_heads.calls k  t277 _ ?side1 A12.out).mono ?_); (case side1 => exact GInv.below HG.out (by repeat (first | (with_reducible first | exact HB.out | apply below_alloc | apply pw_below_drewN | apply below_drew1) | exact HB.out))); rintro e w19 ⟨rfl, hb⟩; have n0_ := Aside0.mk (below_step (by repeat (first | (with_reducible first | exact HB.out | apply below_alloc | apply pw_below_drewN | apply below_drew1) | exact HB.out)) hb); clear HB; have HB := n0_; clear n0_; (try clear hb); (try clear hb2); (try clear hk); (try clear hi)))
    go_ret
    exact ⟨by first | rfl | (simp [errW_none, errW_some] <;> rfl) | (simp [*, errW_none, errW_some] <;> rfl), by repeat (first | (with_reducible first | exact HB.out | apply below_alloc | apply pw_below_drewN | apply below_drew1) | exact HB.out)⟩
   ·
    rw [if_neg c11] at H
    exact absurd H (by simp)
  ·
   rw [if_neg c8] at H
   exact absurd H (by simp)
 ·
  rw [if_neg c5] at H
  exact absurd H (by simp)

end Go.Proofs.YtpfjkpknljigmaaDoor.Q
