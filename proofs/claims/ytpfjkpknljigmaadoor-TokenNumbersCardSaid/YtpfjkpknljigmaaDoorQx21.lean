-- Written by a program of this session (qprint.py) out of the translation; the kernel checks it.
import Derived.Test.YtpfjkpknljigmaaDoorQx0
import Derived.Test.YtpfjkpknljigmaaDoorQx2
import Derived.Test.YtpfjkpknljigmaaDoorQx16
import Derived.Test.YtpfjkpknljigmaaDoorH0
import Derived.Test.YtpfjkpknljigmaaDoorH3
namespace Go.Proofs.YtpfjkpknljigmaaDoor.Q
open Go.RowKit Go.Proofs.YtpfjkpknljigmaaDoorW.PrintWords Go.Proofs.YtpfjkpknljigmaaDoorW.PrintLast Go.Proofs.YtpfjkpknljigmaaDoorW.PrintMore
attribute [local go_sem] max2_int min2_int max_two min_two max_three min_three max_four min_four   -- for this text's walks alone
set_option linter.unusedVariables false
set_option linter.unusedSimpArgs false

attribute [local go_sem high] eqA34
/-! ### mortiselaw02_TokenNumbers: function 8 -/
mutual
def mortiselaw02_TokenNumbers.l0 : Nat → Int → ByteArray → ByteArray → ByteArray → Int → Option (Bool)
 | 0, _, _, _, _, _ => none
 | k + 1, x0, x3, x4, x5, x6 => if x6 > 0 then (if 0 ≤ (Int.tmod x6 16) then (if (Int.tmod x6 16) < 16 then (if (Utf8.encode (bt (⟨#[48, 49, 50, 51, 52, 53, 54, 55, 56, 57, 97, 98, 99, 100, 101, 102]⟩ : ByteArray) (Int.tmod x6 16))).size + x3.size ≤ 9223372036854775807 then (mortiselaw02_TokenNumbers.l0 k x0 ((Utf8.encode (bt (⟨#[48, 49, 50, 51, 52, 53, 54, 55, 56, 57, 97, 98, 99, 100, 101, 102]⟩ : ByteArray) (Int.tmod x6 16))) ++ x3) x4 x5 ((Int.tdiv x6 16) % 4294967296)) else (none)) else (none)) else (none)) else (mortiselaw02_TokenNumbers.l1 k x0 x3 x4 x5 x0)
def mortiselaw02_TokenNumbers.l1 : Nat → Int → ByteArray → ByteArray → ByteArray → Int → Option (Bool)
 | 0, _, _, _, _, _ => none
 | k + 1, x0, x3, x4, x5, x7 => if x7 > 0 then (if 0 ≤ (Int.tmod x7 8) then (if (Int.tmod x7 8) < 8 then (if (Utf8.encode (bt (⟨#[48, 49, 50, 51, 52, 53, 54, 55]⟩ : ByteArray) (Int.tmod x7 8))).size + x4.size ≤ 9223372036854775807 then (mortiselaw02_TokenNumbers.l1 k x0 x3 ((Utf8.encode (bt (⟨#[48, 49, 50, 51, 52, 53, 54, 55]⟩ : ByteArray) (Int.tmod x7 8))) ++ x4) x5 ((Int.tdiv x7 8) % 4294967296)) else (none)) else (none)) else (none)) else (mortiselaw02_TokenNumbers.l2 k x0 x3 x4 x5 x0)
def mortiselaw02_TokenNumbers.l2 : Nat → Int → ByteArray → ByteArray → ByteArray → Int → Option (Bool)
 | 0, _, _, _, _, _ => none
 | k + 1, x0, x3, x4, x5, x8 => if x8 > 0 then (if 0 ≤ (Int.tmod x8 10) then (if (Int.tmod x8 10) < 10 then (if (Utf8.encode (bt (⟨#[48, 49, 50, 51, 52, 53, 54, 55, 56, 57]⟩ : ByteArray) (Int.tmod x8 10))).size + x5.size ≤ 9223372036854775807 then (mortiselaw02_TokenNumbers.l2 k x0 x3 x4 ((Utf8.encode (bt (⟨#[48, 49, 50, 51, 52, 53, 54, 55, 56, 57]⟩ : ByteArray) (Int.tmod x8 10))) ++ x5) ((Int.tdiv x8 10) % 4294967296)) else (none)) else (none)) else (none)) else (if x0 = 0 then (mortiselaw02_TokenNumbers.j3 k x0 (⟨#[48]⟩ : ByteArray) x4 (⟨#[48]⟩ : ByteArray)) else (mortiselaw02_TokenNumbers.j3 k x0 x3 x4 x5))
def mortiselaw02_TokenNumbers.j3 : Nat → Int → ByteArray → ByteArray → ByteArray → Option (Bool)
 | 0, _, _, _, _ => none
 | k + 1, x0, x3, x4, x5 => if 2 + x3.size ≤ 9223372036854775807 then (if ((⟨#[48, 120]⟩ : ByteArray) ++ x3).size + 2 ≤ 9223372036854775807 then (if (((⟨#[48, 120]⟩ : ByteArray) ++ x3) ++ (⟨#[32, 48]⟩ : ByteArray)).size + x4.size ≤ 9223372036854775807 then (if ((((⟨#[48, 120]⟩ : ByteArray) ++ x3) ++ (⟨#[32, 48]⟩ : ByteArray)) ++ x4).size + 1 ≤ 9223372036854775807 then (if (((((⟨#[48, 120]⟩ : ByteArray) ++ x3) ++ (⟨#[32, 48]⟩ : ByteArray)) ++ x4) ++ (⟨#[32]⟩ : ByteArray)).size + x5.size ≤ 9223372036854775807 then (if ((((((⟨#[48, 120]⟩ : ByteArray) ++ x3) ++ (⟨#[32, 48]⟩ : ByteArray)) ++ x4) ++ (⟨#[32]⟩ : ByteArray)) ++ x5).size + 1 ≤ 9223372036854775807 then ((token_Scan.f (((((((⟨#[48, 120]⟩ : ByteArray) ++ x3) ++ (⟨#[32, 48]⟩ : ByteArray)) ++ x4) ++ (⟨#[32]⟩ : ByteArray)) ++ x5) ++ (⟨#[117]⟩ : ByteArray))).bind fun bt422 => (if (!(bt422.2.1 == 0) || ((!(bt422.2.2.1 == 0) || (!(bt422.2.2.2.1 == 0) || (!(bt422.2.2.2.2 == 0)))))) = true then (mortiselaw02_TokenNumbers.j4 k x0 bt422.1 true) else (mortiselaw02_TokenNumbers.j4 k x0 bt422.1 ((bt422.1.length : Int) != 4)))) else (none)) else (none)) else (none)) else (none)) else (none)) else (none)
def mortiselaw02_TokenNumbers.j4 : Nat → Int → List (S40) → Bool → Option (Bool)
 | 0, _, _, _ => none
 | k + 1, x0, x9, x67 => if x67 = true then (none) else (if x0 > 2147483647 then (if 0 < (x9.length : Int) then (if ((rd_T40 x9 0).f2) = (wrap64 (x0)) then (if 1 < (x9.length : Int) then (if ((rd_T40 x9 1).f2) = (wrap64 (x0)) then (if 2 < (x9.length : Int) then (if ((rd_T40 x9 2).f2) = (wrap64 (x0)) then (if ((rd_T40 x9 0).f1).toList = ([117, 110, 115, 105, 103, 110, 101, 100, 32, 105, 110, 116] : List UInt8) then (if ((rd_T40 x9 1).f1).toList = ([117, 110, 115, 105, 103, 110, 101, 100, 32, 105, 110, 116] : List UInt8) then (if ((rd_T40 x9 2).f1).toList = ([117, 110, 115, 105, 103, 110, 101, 100, 32, 105, 110, 116] : List UInt8) then ((mortiselaw02_heads.f k).bind fun t436 => (some t436)) else (none)) else (none)) else (none)) else (none)) else (none)) else (none)) else (none)) else (none)) else (none)) else (if 0 < (x9.length : Int) then (if ((rd_T40 x9 0).f2) = (wrap64 (x0)) then (if 1 < (x9.length : Int) then (if ((rd_T40 x9 1).f2) = (wrap64 (x0)) then (if 2 < (x9.length : Int) then (if ((rd_T40 x9 2).f2) = (wrap64 (x0)) then (if ((rd_T40 x9 0).f1).toList = ([105, 110, 116] : List UInt8) then (if ((rd_T40 x9 1).f1).toList = ([105, 110, 116] : List UInt8) then (if ((rd_T40 x9 2).f1).toList = ([117, 110, 115, 105, 103, 110, 101, 100, 32, 105, 110, 116] : List UInt8) then ((mortiselaw02_heads.f k).bind fun t443 => (some t443)) else (none)) else (none)) else (none)) else (none)) else (none)) else (none)) else (none)) else (none)) else (none)))
end
def mortiselaw02_TokenNumbers.f (k : Nat) (a0 : Int) : Option (Bool) := mortiselaw02_TokenNumbers.l0 k a0 (⟨#[]⟩ : ByteArray) (⟨#[]⟩ : ByteArray) (⟨#[]⟩ : ByteArray) a0
theorem mortiselaw02_TokenNumbers.mono_l : ∀ k, (∀ y0 y1 y2 y3 y4, LeO (mortiselaw02_TokenNumbers.l0 k y0 y1 y2 y3 y4) (mortiselaw02_TokenNumbers.l0 (k + 1) y0 y1 y2 y3 y4)) ∧ (∀ y0 y1 y2 y3 y4, LeO (mortiselaw02_TokenNumbers.l1 k y0 y1 y2 y3 y4) (mortiselaw02_TokenNumbers.l1 (k + 1) y0 y1 y2 y3 y4)) ∧ (∀ y0 y1 y2 y3 y4, LeO (mortiselaw02_TokenNumbers.l2 k y0 y1 y2 y3 y4) (mortiselaw02_TokenNumbers.l2 (k + 1) y0 y1 y2 y3 y4)) ∧ (∀ y0 y1 y2 y3, LeO (mortiselaw02_TokenNumbers.j3 k y0 y1 y2 y3) (mortiselaw02_TokenNumbers.j3 (k + 1) y0 y1 y2 y3)) ∧ (∀ y0 y1 y2, LeO (mortiselaw02_TokenNumbers.j4 k y0 y1 y2) (mortiselaw02_TokenNumbers.j4 (k + 1) y0 y1 y2))
 | 0 => ⟨fun _ _ _ _ _ r h => by simp [mortiselaw02_TokenNumbers.l0] at h, fun _ _ _ _ _ r h => by simp [mortiselaw02_TokenNumbers.l1] at h, fun _ _ _ _ _ r h => by simp [mortiselaw02_TokenNumbers.l2] at h, fun _ _ _ _ r h => by simp [mortiselaw02_TokenNumbers.j3] at h, fun _ _ _ r h => by simp [mortiselaw02_TokenNumbers.j4] at h⟩
 | k + 1 => by
  obtain ⟨ih0, ih1, ih2, ih3, ih4⟩ := mortiselaw02_TokenNumbers.mono_l k
  refine ⟨?_, ?_, ?_, ?_, ?_⟩
  ·
   intro y0 y1 y2 y3 y4
   unfold mortiselaw02_TokenNumbers.l0
   repeat' first
   | (with_reducible exact ih0 _ _ _ _ _)
   | (with_reducible exact ih1 _ _ _ _ _)
   | (with_reducible exact ih2 _ _ _ _ _)
   | (with_reducible exact ih3 _ _ _ _)
   | (with_reducible exact ih4 _ _ _)
   | (with_reducible exact mortiselaw02_heads.mono _)
   | (with_reducible exact LeO.refl _)
   | (with_reducible exact LeO.none _)
   | (with_reducible refine LeO.ite ?_ ?_)
   | (with_reducible refine LeO.bind ?_ (fun _ => ?_))
   | exact ih0 _ _ _ _ _
   | exact ih1 _ _ _ _ _
   | exact ih2 _ _ _ _ _
   | exact ih3 _ _ _ _
   | exact ih4 _ _ _
   | exact mortiselaw02_heads.mono _
   | exact LeO.none _
   | refine LeO.ite ?_ ?_
   | refine LeO.bind ?_ (fun _ => ?_)
  ·
   intro y0 y1 y2 y3 y4
   unfold mortiselaw02_TokenNumbers.l1
   repeat' first
   | (with_reducible exact ih0 _ _ _ _ _)
   | (with_reducible exact ih1 _ _ _ _ _)
   | (with_reducible exact ih2 _ _ _ _ _)
   | (with_reducible exact ih3 _ _ _ _)
   | (with_reducible exact ih4 _ _ _)
   | (with_reducible exact mortiselaw02_heads.mono _)
   | (with_reducible exact LeO.refl _)
   | (with_reducible exact LeO.none _)
   | (with_reducible refine LeO.ite ?_ ?_)
   | (with_reducible refine LeO.bind ?_ (fun _ => ?_))
   | exact ih0 _ _ _ _ _
   | exact ih1 _ _ _ _ _
   | exact ih2 _ _ _ _ _
   | exact ih3 _ _ _ _
   | exact ih4 _ _ _
   | exact mortiselaw02_heads.mono _
   | exact LeO.none _
   | refine LeO.ite ?_ ?_
   | refine LeO.bind ?_ (fun _ => ?_)
  ·
   intro y0 y1 y2 y3 y4
   unfold mortiselaw02_TokenNumbers.l2
   repeat' first
   | (with_reducible exact ih0 _ _ _ _ _)
   | (with_reducible exact ih1 _ _ _ _ _)
   | (with_reducible exact ih2 _ _ _ _ _)
   | (with_reducible exact ih3 _ _ _ _)
   | (with_reducible exact ih4 _ _ _)
   | (with_reducible exact mortiselaw02_heads.mono _)
   | (with_reducible exact LeO.refl _)
   | (with_reducible exact LeO.none _)
   | (with_reducible refine LeO.ite ?_ ?_)
   | (with_reducible refine LeO.bind ?_ (fun _ => ?_))
   | exact ih0 _ _ _ _ _
   | exact ih1 _ _ _ _ _
   | exact ih2 _ _ _ _ _
   | exact ih3 _ _ _ _
   | exact ih4 _ _ _
   | exact mortiselaw02_heads.mono _
   | exact LeO.none _
   | refine LeO.ite ?_ ?_
   | refine LeO.bind ?_ (fun _ => ?_)
  ·
   intro y0 y1 y2 y3
   unfold mortiselaw02_TokenNumbers.j3
   repeat' first
   | (with_reducible exact ih0 _ _ _ _ _)
   | (with_reducible exact ih1 _ _ _ _ _)
   | (with_reducible exact ih2 _ _ _ _ _)
   | (with_reducible exact ih3 _ _ _ _)
   | (with_reducible exact ih4 _ _ _)
   | (with_reducible exact mortiselaw02_heads.mono _)
   | (with_reducible exact LeO.refl _)
   | (with_reducible exact LeO.none _)
   | (with_reducible refine LeO.ite ?_ ?_)
   | (with_reducible refine LeO.bind ?_ (fun _ => ?_))
   | exact ih0 _ _ _ _ _
   | exact ih1 _ _ _ _ _
   | exact ih2 _ _ _ _ _
   | exact ih3 _ _ _ _
   | exact ih4 _ _ _
   | exact mortiselaw02_heads.mono _
   | exact LeO.none _
   | refine LeO.ite ?_ ?_
   | refine LeO.bind ?_ (fun _ => ?_)
  ·
   intro y0 y1 y2
   unfold mortiselaw02_TokenNumbers.j4
   repeat' first
   | (with_reducible exact ih0 _ _ _ _ _)
   | (with_reducible exact ih1 _ _ _ _ _)
   | (with_reducible exact ih2 _ _ _ _ _)
   | (with_reducible exact ih3 _ _ _ _)
   | (with_reducible exact ih4 _ _ _)
   | (with_reducible exact mortiselaw02_heads.mono _)
   | (with_reducible exact LeO.refl _)
   | (with_reducible exact LeO.none _)
   | (with_reducible refine LeO.ite ?_ ?_)
   | (with_reducible refine LeO.bind ?_ (fun _ => ?_))
   | exact ih0 _ _ _ _ _
   | exact ih1 _ _ _ _ _
   | exact ih2 _ _ _ _ _
   | exact ih3 _ _ _ _
   | exact ih4 _ _ _
   | exact mortiselaw02_heads.mono _
   | exact LeO.none _
   | refine LeO.ite ?_ ?_
   | refine LeO.bind ?_ (fun _ => ?_)
theorem mortiselaw02_TokenNumbers.mono : ∀ a0 k, LeO (mortiselaw02_TokenNumbers.f k a0) (mortiselaw02_TokenNumbers.f (k + 1) a0) := by
 intro a0 k
 obtain ⟨ih0, ih1, ih2, ih3, ih4⟩ := mortiselaw02_TokenNumbers.mono_l k
 unfold mortiselaw02_TokenNumbers.f
 repeat' first
   | (with_reducible exact ih0 _ _ _ _ _)
   | (with_reducible exact ih1 _ _ _ _ _)
   | (with_reducible exact ih2 _ _ _ _ _)
   | (with_reducible exact ih3 _ _ _ _)
   | (with_reducible exact ih4 _ _ _)
   | (with_reducible exact mortiselaw02_heads.mono _)
   | (with_reducible exact LeO.refl _)
   | (with_reducible exact LeO.none _)
   | (with_reducible refine LeO.ite ?_ ?_)
   | (with_reducible refine LeO.bind ?_ (fun _ => ?_))
   | exact ih0 _ _ _ _ _
   | exact ih1 _ _ _ _ _
   | exact ih2 _ _ _ _ _
   | exact ih3 _ _ _ _
   | exact ih4 _ _ _
   | exact mortiselaw02_heads.mono _
   | exact LeO.none _
   | refine LeO.ite ?_ ?_
   | refine LeO.bind ?_ (fun _ => ?_)
set_option maxHeartbeats 2000000 in
set_option maxRecDepth 100000 in
theorem mortiselaw02_TokenNumbers.calls (k : Nat) (a0 : Int) (r : Bool) (w : World) (hG : GInv w) (h : mortiselaw02_TokenNumbers.f k a0 = some r) :
  Calls Tryd.prog 8 #[.int .u32 a0] w fun e w' => e = .returned (.bool r) ∧ Below w.heap.size w w' := by
 have hu34 := Tryd.underlying34
 have HB := Aside0.mk (Below.refl w.heap.size w)
 have HG := Aside0.mk hG
 clear hG
 have H : (mortiselaw02_TokenNumbers.l0 k a0 (⟨#[]⟩ : ByteArray) (⟨#[]⟩ : ByteArray) (⟨#[]⟩ : ByteArray) a0) = some r := h
 clear h
 have H' := Aside0.mk H
 clear H
 go_enter Tryd.func8, Tryd.ntmps8
 go_wp2
 (try simp only [Act.put, List.setIfInBounds_toArray, List.set_cons_zero, List.set_cons_succ])
 go_loopg [3, 6] k (fun kq v3 v6 w' => ∃ (x3_1 : ByteArray) (x6_1 : Int), v3 = .string x3_1 ∧ v6 = .int .u32 x6_1 ∧ Aside0 (mortiselaw02_TokenNumbers.l0 kq a0 x3_1 (⟨#[]⟩ : ByteArray) (⟨#[]⟩ : ByteArray) x6_1 = some r) ∧ Aside0 (kq ≤ k) ∧ Aside0 (Below w.heap.size w w'))
 case atStart => exact ⟨((⟨#[]⟩ : ByteArray)), (a0), (by first | rfl | (simp; done) | (simp [*]; done)), (by first | rfl | (simp; done) | (simp [*]; done)), H', ⟨Nat.le_refl _⟩, ⟨by repeat (first | (with_reducible first | exact HB.out | apply below_alloc | apply pw_below_drewN | apply below_drew1) | exact HB.out)⟩⟩
 case round =>
  clear H'
  obtain ⟨x3_1, x6_1, rfl, rfl, HA, HK1, HB⟩ := hrel
  cases gk with
  | zero => exact absurd HA.out (by simp [mortiselaw02_TokenNumbers.l0])
  | succ k1 =>
   have H := HA.out
   clear HA
   simp only [mortiselaw02_TokenNumbers.l0] at H
   by_cases c2 : x6_1 > 0
   ·
    rw [if_pos c2] at H
    have c2b0 : decide (0 < x6_1) = true := decide_eq_true c2
    clear c2
    obtain ⟨ji3, hji3⟩ : ∃ j_ : Int, (Int.tmod x6_1 16) = j_ := ⟨_, rfl⟩
    replace H : (if 0 ≤ (ji3) then (if (ji3) < 16 then (if (Utf8.encode (bt (⟨#[48, 49, 50, 51, 52, 53, 54, 55, 56, 57, 97, 98, 99, 100, 101, 102]⟩ : ByteArray) (ji3))).size + x3_1.size ≤ 9223372036854775807 then (mortiselaw02_TokenNumbers.l0 k1 a0 ((Utf8.encode (bt (⟨#[48, 49, 50, 51, 52, 53, 54, 55, 56, 57, 97, 98, 99, 100, 101, 102]⟩ : ByteArray) (ji3))) ++ x3_1) (⟨#[]⟩ : ByteArray) (⟨#[]⟩ : ByteArray) ((Int.tdiv x6_1 16) % 4294967296)) else (none)) else (none)) else (none)) = some r := by first | (rw [hji3] at H; exact H) | (simp only [hji3] at H ⊢; exact H)
    by_cases c4 : 0 ≤ (ji3)
    ·
     rw [if_pos c4] at H
     have c4b0 : decide (0 ≤ (ji3)) = true := decide_eq_true c4
     clear c4
     by_cases c5 : (ji3) < 16
     ·
      rw [if_pos c5] at H
      have c5b0 : decide ((ji3) < 16) = true := decide_eq_true c5
      clear c5
      by_cases c7 : (Utf8.encode (bt (⟨#[48, 49, 50, 51, 52, 53, 54, 55, 56, 57, 97, 98, 99, 100, 101, 102]⟩ : ByteArray) (ji3))).size + x3_1.size ≤ 9223372036854775807
      ·
       rw [if_pos c7] at H
       have c7b0 := eq_true c7
       have c7b1 : decide ((Utf8.encode (bt (⟨#[48, 49, 50, 51, 52, 53, 54, 55, 56, 57, 97, 98, 99, 100, 101, 102]⟩ : ByteArray) (ji3))).size + x3_1.size ≤ 9223372036854775807) = true := decide_eq_true c7
       try have c7b2 : (9223372036854775807 < (Utf8.encode (bt (⟨#[48, 49, 50, 51, 52, 53, 54, 55, 56, 57, 97, 98, 99, 100, 101, 102]⟩ : ByteArray) (ji3))).size + x3_1.size) = False := eq_false (Nat.not_lt.2 c7)
       have H' := Aside0.mk H
       clear H
       have p6 : 0 ≤ ((ji3) : Int) := of_decide_eq_true (by first | (with_reducible assumption) | assumption)
       have q6 : (ji3) < (16 : Int) := of_decide_eq_true (by first | (with_reducible assumption) | assumption)
       have hx6 := bt_at (⟨#[48, 49, 50, 51, 52, 53, 54, 55, 56, 57, 97, 98, 99, 100, 101, 102]⟩ : ByteArray) (ji3)
       replace p6 := eq_true p6
       replace q6 := eq_true q6
       go_wp2
       go_roundg k1
       case measure => have := HK1.out; omega
       case rel => exact ⟨((Utf8.encode (bt (⟨#[48, 49, 50, 51, 52, 53, 54, 55, 56, 57, 97, 98, 99, 100, 101, 102]⟩ : ByteArray) (ji3))) ++ x3_1), ((Int.tdiv x6_1 16) % 4294967296), (by first | rfl | (simp; done) | (simp only [← hji3] <;> (first | rfl | simp)) | (simp [*]; done)), (by first | rfl | (simp; done) | (simp [*]; done)), H', ⟨by have := HK1.out; omega⟩, ⟨by repeat (first | (with_reducible first | exact HB.out | apply below_alloc | apply pw_below_drewN | apply below_drew1) | exact HB.out)⟩⟩
      ·
       rw [if_neg c7] at H
       exact absurd H (by simp)
     ·
      rw [if_neg c5] at H
      exact absurd H (by simp)
    ·
     rw [if_neg c4] at H
     exact absurd H (by simp)
   ·
    rw [if_neg c2] at H
    have c2b0 : decide (0 < x6_1) = false := decide_eq_false c2
    clear c2
    have H' := Aside0.mk H
    clear H
    go_wp2
    (try simp only [Act.put, List.setIfInBounds_toArray, List.set_cons_zero, List.set_cons_succ])
    go_loopg [4, 7] k1 (fun kq v4 v7 w' => ∃ (x4_2 : ByteArray) (x7_2 : Int), v4 = .string x4_2 ∧ v7 = .int .u32 x7_2 ∧ Aside0 (mortiselaw02_TokenNumbers.l1 kq a0 x3_1 x4_2 (⟨#[]⟩ : ByteArray) x7_2 = some r) ∧ Aside0 (kq ≤ k1) ∧ Aside0 (Below w.heap.size w w'))
    case atStart => exact ⟨((⟨#[]⟩ : ByteArray)), (a0), (by first | rfl | (simp; done) | (simp [*]; done)), (by first | rfl | (simp; done) | (simp [*]; done)), H', ⟨Nat.le_refl _⟩, ⟨by repeat (first | (with_reducible first | exact HB.out | apply below_alloc | apply pw_below_drewN | apply below_drew1) | exact HB.out)⟩⟩
    case round =>
     clear H'
     try clear c2
     try clear c2b0
     try clear p2
     try clear c4
     try clear c4b0
     try clear c5
     try clear c5b0
     try clear p6
     try clear q6
     try clear hx6
     try clear c7
     try clear c7b0
     try clear c7b1
     try clear c7b2
     try clear p6
     try clear q6
     obtain ⟨x4_2, x7_2, rfl, rfl, HA, HK2, HB⟩ := hrel
     cases gk with
     | zero => exact absurd HA.out (by simp [mortiselaw02_TokenNumbers.l1])
     | succ k2 =>
      have H := HA.out
      clear HA
      simp only [mortiselaw02_TokenNumbers.l1] at H
      by_cases c8 : x7_2 > 0
      ·
       rw [if_pos c8] at H
       have c8b0 : decide (0 < x7_2) = true := decide_eq_true c8
       clear c8
       obtain ⟨ji9, hji9⟩ : ∃ j_ : Int, (Int.tmod x7_2 8) = j_ := ⟨_, rfl⟩
       replace H : (if 0 ≤ (ji9) then (if (ji9) < 8 then (if (Utf8.encode (bt (⟨#[48, 49, 50, 51, 52, 53, 54, 55]⟩ : ByteArray) (ji9))).size + x4_2.size ≤ 9223372036854775807 then (mortiselaw02_TokenNumbers.l1 k2 a0 x3_1 ((Utf8.encode (bt (⟨#[48, 49, 50, 51, 52, 53, 54, 55]⟩ : ByteArray) (ji9))) ++ x4_2) (⟨#[]⟩ : ByteArray) ((Int.tdiv x7_2 8) % 4294967296)) else (none)) else (none)) else (none)) = some r := by first | (rw [hji9] at H; exact H) | (simp only [hji9] at H ⊢; exact H)
       by_cases c10 : 0 ≤ (ji9)
       ·
        rw [if_pos c10] at H
        have c10b0 : decide (0 ≤ (ji9)) = true := decide_eq_true c10
        clear c10
        by_cases c11 : (ji9) < 8
        ·
         rw [if_pos c11] at H
         have c11b0 : decide ((ji9) < 8) = true := decide_eq_true c11
         clear c11
         by_cases c13 : (Utf8.encode (bt (⟨#[48, 49, 50, 51, 52, 53, 54, 55]⟩ : ByteArray) (ji9))).size + x4_2.size ≤ 9223372036854775807
         ·
          rw [if_pos c13] at H
          have c13b0 := eq_true c13
          have c13b1 : decide ((Utf8.encode (bt (⟨#[48, 49, 50, 51, 52, 53, 54, 55]⟩ : ByteArray) (ji9))).size + x4_2.size ≤ 9223372036854775807) = true := decide_eq_true c13
          try have c13b2 : (9223372036854775807 < (Utf8.encode (bt (⟨#[48, 49, 50, 51, 52, 53, 54, 55]⟩ : ByteArray) (ji9))).size + x4_2.size) = False := eq_false (Nat.not_lt.2 c13)
          have H' := Aside0.mk H
          clear H
          have p12 : 0 ≤ ((ji9) : Int) := of_decide_eq_true (by first | (with_reducible assumption) | assumption)
          have q12 : (ji9) < (8 : Int) := of_decide_eq_true (by first | (with_reducible assumption) | assumption)
          have hx12 := bt_at (⟨#[48, 49, 50, 51, 52, 53, 54, 55]⟩ : ByteArray) (ji9)
          replace p12 := eq_true p12
          replace q12 := eq_true q12
          go_wp2
          go_roundg k2
          case measure => have := HK1.out; have := HK2.out; omega
          case rel => exact ⟨((Utf8.encode (bt (⟨#[48, 49, 50, 51, 52, 53, 54, 55]⟩ : ByteArray) (ji9))) ++ x4_2), ((Int.tdiv x7_2 8) % 4294967296), (by first | rfl | (simp; done) | (simp only [← hji9] <;> (first | rfl | simp)) | (simp [*]; done)), (by first | rfl | (simp; done) | (simp [*]; done)), H', ⟨by have := HK1.out; have := HK2.out; omega⟩, ⟨by repeat (first | (with_reducible first | exact HB.out | apply below_alloc | apply pw_below_drewN | apply below_drew1) | exact HB.out)⟩⟩
         ·
          rw [if_neg c13] at H
          exact absurd H (by simp)
        ·
         rw [if_neg c11] at H
         exact absurd H (by simp)
       ·
        rw [if_neg c10] at H
        exact absurd H (by simp)
      ·
       rw [if_neg c8] at H
       have c8b0 : decide (0 < x7_2) = false := decide_eq_false c8
       clear c8
       have H' := Aside0.mk H
       clear H
       go_wp2
       (try simp only [Act.put, List.setIfInBounds_toArray, List.set_cons_zero, List.set_cons_succ])
       go_loopg [5, 8] k2 (fun kq v5 v8 w' => ∃ (x5_3 : ByteArray) (x8_3 : Int), v5 = .string x5_3 ∧ v8 = .int .u32 x8_3 ∧ Aside0 (mortiselaw02_TokenNumbers.l2 kq a0 x3_1 x4_2 x5_3 x8_3 = some r) ∧ Aside0 (kq ≤ k2) ∧ Aside0 (Below w.heap.size w w'))
       case atStart => exact ⟨((⟨#[]⟩ : ByteArray)), (a0), (by first | rfl | (simp; done) | (simp [*]; done)), (by first | rfl | (simp; done) | (simp [*]; done)), H', ⟨Nat.le_refl _⟩, ⟨by repeat (first | (with_reducible first | exact HB.out | apply below_alloc | apply pw_below_drewN | apply below_drew1) | exact HB.out)⟩⟩
       case round =>
        clear H'
        try clear c1
        try clear p1
        try clear q1
        try clear hx1
        try clear c2
        try clear c2b0
        try clear p2
        try clear c4
        try clear c4b0
        try clear c5
        try clear c5b0
        try clear p6
        try clear q6
        try clear hx6
        try clear c7
        try clear c7b0
        try clear c7b1
        try clear c7b2
        try clear c8
        try clear c8b0
        try clear c10
        try clear c10b0
        try clear c11
        try clear c11b0
        try clear p12
        try clear q12
        try clear hx12
        try clear c13
        try clear c13b0
        try clear c13b1
        try clear c13b2
        try clear p12
        try clear p2
        try clear p6
        try clear q12
        try clear q6
        obtain ⟨x5_3, x8_3, rfl, rfl, HA, HK3, HB⟩ := hrel
        cases gk with
        | zero => exact absurd HA.out (by simp [mortiselaw02_TokenNumbers.l2])
        | succ k3 =>
         have H := HA.out
         clear HA
         simp only [mortiselaw02_TokenNumbers.l2] at H
         by_cases c14 : x8_3 > 0
         ·
          rw [if_pos c14] at H
          have c14b0 : decide (0 < x8_3) = true := decide_eq_true c14
          clear c14
          obtain ⟨ji15, hji15⟩ : ∃ j_ : Int, (Int.tmod x8_3 10) = j_ := ⟨_, rfl⟩
          replace H : (if 0 ≤ (ji15) then (if (ji15) < 10 then (if (Utf8.encode (bt (⟨#[48, 49, 50, 51, 52, 53, 54, 55, 56, 57]⟩ : ByteArray) (ji15))).size + x5_3.size ≤ 9223372036854775807 then (mortiselaw02_TokenNumbers.l2 k3 a0 x3_1 x4_2 ((Utf8.encode (bt (⟨#[48, 49, 50, 51, 52, 53, 54, 55, 56, 57]⟩ : ByteArray) (ji15))) ++ x5_3) ((Int.tdiv x8_3 10) % 4294967296)) else (none)) else (none)) else (none)) = some r := by first | (rw [hji15] at H; exact H) | (simp only [hji15] at H ⊢; exact H)
          by_cases c16 : 0 ≤ (ji15)
          ·
           rw [if_pos c16] at H
           have c16b0 : decide (0 ≤ (ji15)) = true := decide_eq_true c16
           clear c16
           by_cases c17 : (ji15) < 10
           ·
            rw [if_pos c17] at H
            have c17b0 : decide ((ji15) < 10) = true := decide_eq_true c17
            clear c17
            by_cases c19 : (Utf8.encode (bt (⟨#[48, 49, 50, 51, 52, 53, 54, 55, 56, 57]⟩ : ByteArray) (ji15))).size + x5_3.size ≤ 9223372036854775807
            ·
             rw [if_pos c19] at H
             have c19b0 := eq_true c19
             have c19b1 : decide ((Utf8.encode (bt (⟨#[48, 49, 50, 51, 52, 53, 54, 55, 56, 57]⟩ : ByteArray) (ji15))).size + x5_3.size ≤ 9223372036854775807) = true := decide_eq_true c19
             try have c19b2 : (9223372036854775807 < (Utf8.encode (bt (⟨#[48, 49, 50, 51, 52, 53, 54, 55, 56, 57]⟩ : ByteArray) (ji15))).size + x5_3.size) = False := eq_false (Nat.not_lt.2 c19)
             have H' := Aside0.mk H
             clear H
             have p18 : 0 ≤ ((ji15) : Int) := of_decide_eq_true (by first | (with_reducible assumption) | assumption)
             have q18 : (ji15) < (10 : Int) := of_decide_eq_true (by first | (with_reducible assumption) | assumption)
             have hx18 := bt_at (⟨#[48, 49, 50, 51, 52, 53, 54, 55, 56, 57]⟩ : ByteArray) (ji15)
             replace p18 := eq_true p18
             replace q18 := eq_true q18
             go_wp2
             go_roundg k3
             case measure => have := HK1.out; have := HK2.out; have := HK3.out; omega
             case rel => exact ⟨((Utf8.encode (bt (⟨#[48, 49, 50, 51, 52, 53, 54, 55, 56, 57]⟩ : ByteArray) (ji15))) ++ x5_3), ((Int.tdiv x8_3 10) % 4294967296), (by first | rfl | (simp; done) | (simp only [← hji15] <;> (first | rfl | simp)) | (simp [*]; done)), (by first | rfl | (simp; done) | (simp [*]; done)), H', ⟨by have := HK1.out; have := HK2.out; have := HK3.out; omega⟩, ⟨by repeat (first | (with_reducible first | exact HB.out | apply below_alloc | apply pw_below_drewN | apply below_drew1) | exact HB.out)⟩⟩
            ·
             rw [if_neg c19] at H
             exact absurd H (by simp)
           ·
            rw [if_neg c17] at H
            exact absurd H (by simp)
          ·
           rw [if_neg c16] at H
           exact absurd H (by simp)
         ·
          rw [if_neg c14] at H
          have c14b0 : decide (0 < x8_3) = false := decide_eq_false c14
          clear c14
          have HC20 := Aside0.mk H
          clear H
          go_upto_if 46 with (fail)
          go_cut [3, 5] (fun v3 v5 wc => ∃ (kq : Nat) (x3_19 : ByteArray) (x5_19 : ByteArray), v3 = .string x3_19 ∧ v5 = .string x5_19 ∧ Aside0 (mortiselaw02_TokenNumbers.j3 kq a0 x3_19 x4_2 x5_19 = some r) ∧ Aside0 (kq ≤ k3) ∧ Aside0 (Below w.heap.size w wc))
          case first =>
           have H := HC20.out
           clear HC20
           by_cases c21 : a0 = 0
           ·
            rw [if_pos c21] at H
            have c21b0 : (a0 == 0) = true := beq_iff_eq.mpr c21
            have c21b1 : (a0 != 0) = false := bne_eq_false_iff_eq.mpr c21
            clear c21
            (first | rw [c21b0] | (simp only [i64_w, i32_w]; rw [c21b0]) | skip)
            have H' := Aside0.mk H
            clear H
            go_wp2
            go_meet
            case rel => exact ⟨_, ((⟨#[48]⟩ : ByteArray)), ((⟨#[48]⟩ : ByteArray)), (by first | rfl | (simp; done) | (simp [*]; done)), (by first | rfl | (simp; done) | (simp [*]; done)), H', ⟨by have := HK1.out; have := HK2.out; have := HK3.out; first | omega | exact Nat.le_refl _⟩, ⟨by repeat (first | (with_reducible first | exact HB.out | apply below_alloc | apply pw_below_drewN | apply below_drew1) | exact HB.out)⟩⟩
           ·
            rw [if_neg c21] at H
            have c21b0 : (a0 == 0) = false := beq_eq_false_iff_ne.mpr c21
            have c21b1 : (a0 != 0) = true := bne_iff_ne.mpr c21
            (first | rw [c21b0] | (simp only [i64_w, i32_w]; rw [c21b0]) | skip)
            have H' := Aside0.mk H
            clear H
            go_wp2
            go_meet
            case rel => exact ⟨_, (x3_1), (x5_3), (by first | rfl | (simp; done) | (simp [*]; done)), (by first | rfl | (simp; done) | (simp [*]; done)), H', ⟨by have := HK1.out; have := HK2.out; have := HK3.out; first | omega | exact Nat.le_refl _⟩, ⟨by repeat (first | (with_reducible first | exact HB.out | apply below_alloc | apply pw_below_drewN | apply below_drew1) | exact HB.out)⟩⟩
          case rest =>
           clear HC20
           try clear c1
           try clear p1
           try clear q1
           try clear hx1
           try clear c2
           try clear c2b0
           try clear p2
           try clear c4
           try clear c4b0
           try clear c5
           try clear c5b0
           try clear p6
           try clear q6
           try clear hx6
           try clear c7
           try clear c7b0
           try clear c7b1
           try clear c7b2
           try clear c8
           try clear c8b0
           try clear c10
           try clear c10b0
           try clear c11
           try clear c11b0
           try clear p12
           try clear q12
           try clear hx12
           try clear c13
           try clear c13b0
           try clear c13b1
           try clear c13b2
           try clear c14
           try clear c14b0
           try clear c16
           try clear c16b0
           try clear c17
           try clear c17b0
           try clear p18
           try clear q18
           try clear hx18
           try clear c19
           try clear c19b0
           try clear c19b1
           try clear c19b2
           try clear c21
           try clear c21b0
           try clear c21b1
           try clear p1
           try clear p12
           try clear p18
           try clear p2
           try clear p6
           try clear q1
           try clear q12
           try clear q18
           try clear q6
           obtain ⟨kq, x3_19, x5_19, rfl, rfl, HA, HJ19, HB⟩ := hcut
           cases kq with
           | zero => exact absurd HA.out (by simp [mortiselaw02_TokenNumbers.j3])
           | succ kj19 =>
            have H := HA.out
            clear HA
            simp only [mortiselaw02_TokenNumbers.j3] at H
            by_cases c22 : 2 + x3_19.size ≤ 9223372036854775807
            ·
             rw [if_pos c22] at H
             have c22b0 := eq_true c22
             have c22b1 : decide (2 + x3_19.size ≤ 9223372036854775807) = true := decide_eq_true c22
             try have c22b2 : (9223372036854775807 < 2 + x3_19.size) = False := eq_false (Nat.not_lt.2 c22)
             by_cases c23 : ((⟨#[48, 120]⟩ : ByteArray) ++ x3_19).size + 2 ≤ 9223372036854775807
             ·
              rw [if_pos c23] at H
              have c23b0 := eq_true c23
              have c23b1 : decide (((⟨#[48, 120]⟩ : ByteArray) ++ x3_19).size + 2 ≤ 9223372036854775807) = true := decide_eq_true c23
              try have c23b2 : (9223372036854775807 < ((⟨#[48, 120]⟩ : ByteArray) ++ x3_19).size + 2) = False := eq_false (Nat.not_lt.2 c23)
              (try (have c23b3 := eq_false (Nat.not_lt.2 c23); simp at c23b3))
              (try (have c23b4 : 2 + x3_19.size + 2 ≤ 9223372036854775807 := (by have h_ := c23; simp only [ByteArray.size_append] at h_; exact h_); have c23b5 := eq_false (Nat.not_lt.2 c23b4); clear c23b4))
              by_cases c24 : (((⟨#[48, 120]⟩ : ByteArray) ++ x3_19) ++ (⟨#[32, 48]⟩ : ByteArray)).size + x4_2.size ≤ 9223372036854775807
              ·
               rw [if_pos c24] at H
               have c24b0 := eq_true c24
               have c24b1 : decide ((((⟨#[48, 120]⟩ : ByteArray) ++ x3_19) ++ (⟨#[32, 48]⟩ : ByteArray)).size + x4_2.size ≤ 9223372036854775807) = true := decide_eq_true c24
               try have c24b2 : (9223372036854775807 < (((⟨#[48, 120]⟩ : ByteArray) ++ x3_19) ++ (⟨#[32, 48]⟩ : ByteArray)).size + x4_2.size) = False := eq_false (Nat.not_lt.2 c24)
               (try (have c24b3 := eq_false (Nat.not_lt.2 c24); simp at c24b3))
               (try (have c24b4 : 2 + x3_19.size + 2 + x4_2.size ≤ 9223372036854775807 := (by have h_ := c24; simp only [ByteArray.size_append] at h_; exact h_); have c24b5 := eq_false (Nat.not_lt.2 c24b4); clear c24b4))
               by_cases c25 : ((((⟨#[48, 120]⟩ : ByteArray) ++ x3_19) ++ (⟨#[32, 48]⟩ : ByteArray)) ++ x4_2).size + 1 ≤ 9223372036854775807
               ·
                rw [if_pos c25] at H
                have c25b0 := eq_true c25
                have c25b1 : decide (((((⟨#[48, 120]⟩ : ByteArray) ++ x3_19) ++ (⟨#[32, 48]⟩ : ByteArray)) ++ x4_2).size + 1 ≤ 9223372036854775807) = true := decide_eq_true c25
                try have c25b2 : (9223372036854775807 < ((((⟨#[48, 120]⟩ : ByteArray) ++ x3_19) ++ (⟨#[32, 48]⟩ : ByteArray)) ++ x4_2).size + 1) = False := eq_false (Nat.not_lt.2 c25)
                (try (have c25b3 := eq_false (Nat.not_lt.2 c25); simp at c25b3))
                (try (have c25b4 : 2 + x3_19.size + 2 + x4_2.size + 1 ≤ 9223372036854775807 := (by have h_ := c25; simp only [ByteArray.size_append] at h_; exact h_); have c25b5 := eq_false (Nat.not_lt.2 c25b4); clear c25b4))
                by_cases c26 : (((((⟨#[48, 120]⟩ : ByteArray) ++ x3_19) ++ (⟨#[32, 48]⟩ : ByteArray)) ++ x4_2) ++ (⟨#[32]⟩ : ByteArray)).size + x5_19.size ≤ 9223372036854775807
                ·
                 rw [if_pos c26] at H
                 have c26b0 := eq_true c26
                 have c26b1 : decide ((((((⟨#[48, 120]⟩ : ByteArray) ++ x3_19) ++ (⟨#[32, 48]⟩ : ByteArray)) ++ x4_2) ++ (⟨#[32]⟩ : ByteArray)).size + x5_19.size ≤ 9223372036854775807) = true := decide_eq_true c26
                 try have c26b2 : (9223372036854775807 < (((((⟨#[48, 120]⟩ : ByteArray) ++ x3_19) ++ (⟨#[32, 48]⟩ : ByteArray)) ++ x4_2) ++ (⟨#[32]⟩ : ByteArray)).size + x5_19.size) = False := eq_false (Nat.not_lt.2 c26)
                 (try (have c26b3 := eq_false (Nat.not_lt.2 c26); simp at c26b3))
                 (try (have c26b4 : 2 + x3_19.size + 2 + x4_2.size + 1 + x5_19.size ≤ 9223372036854775807 := (by have h_ := c26; simp only [ByteArray.size_append] at h_; exact h_); have c26b5 := eq_false (Nat.not_lt.2 c26b4); clear c26b4))
                 by_cases c27 : ((((((⟨#[48, 120]⟩ : ByteArray) ++ x3_19) ++ (⟨#[32, 48]⟩ : ByteArray)) ++ x4_2) ++ (⟨#[32]⟩ : ByteArray)) ++ x5_19).size + 1 ≤ 9223372036854775807
                 ·
                  rw [if_pos c27] at H
                  have c27b0 := eq_true c27
                  have c27b1 : decide (((((((⟨#[48, 120]⟩ : ByteArray) ++ x3_19) ++ (⟨#[32, 48]⟩ : ByteArray)) ++ x4_2) ++ (⟨#[32]⟩ : ByteArray)) ++ x5_19).size + 1 ≤ 9223372036854775807) = true := decide_eq_true c27
                  try have c27b2 : (9223372036854775807 < ((((((⟨#[48, 120]⟩ : ByteArray) ++ x3_19) ++ (⟨#[32, 48]⟩ : ByteArray)) ++ x4_2) ++ (⟨#[32]⟩ : ByteArray)) ++ x5_19).size + 1) = False := eq_false (Nat.not_lt.2 c27)
                  (try (have c27b3 := eq_false (Nat.not_lt.2 c27); simp at c27b3))
                  (try (have c27b4 : 2 + x3_19.size + 2 + x4_2.size + 1 + x5_19.size + 1 ≤ 9223372036854775807 := (by have h_ := c27; simp only [ByteArray.size_append] at h_; exact h_); have c27b5 := eq_false (Nat.not_lt.2 c27b4); clear c27b4))
                  replace H := Option.bind_eq_some_iff.mp H
                  obtain ⟨⟨t422, t425, t426, t427, t428⟩, A280, H⟩ := H
                  replace H : (if (!(t425 == 0) || ((!(t426 == 0) || (!(t427 == 0) || (!(t428 == 0)))))) = true then (mortiselaw02_TokenNumbers.j4 kj19 a0 t422 true) else (mortiselaw02_TokenNumbers.j4 kj19 a0 t422 ((t422.length : Int) != 4))) = some r := H
                  have A28 := Aside0.mk A280
                  clear A280
                  have HC29 := Aside0.mk H
                  clear H
                  go_upto_region 20 with (first | ((with_reducible refine gate_callee (f := 18) rfl ?_); refine goesL_ (some 57) rfl rfl Tryd.func18 (by kernel_rfl) rfl #[.string (((((((⟨#[48, 120]⟩ : ByteArray) ++ x3_19) ++ (⟨#[32, 48]⟩ : ByteArray)) ++ x4_2) ++ (⟨#[32]⟩ : ByteArray)) ++ x5_19) ++ (⟨#[117]⟩ : ByteArray))] rfl (by (try simp only [List.map_toArray, List.map_cons, List.map_nil]); first | done | rfl | (simp only [List.length_drop, List.length_take]; rfl)) ?_; (with_reducible refine (token_Scan.calls (((((((⟨#[48, 120]⟩ : ByteArray) ++ x3_19) ++ (⟨#[32, 48]⟩ : ByteArray)) ++ x4_2) ++ (⟨#[32]⟩ : ByteArray)) ++ x5_19) ++ (⟨#[117]⟩ : ByteArray)) t422 t425 t426 t427 t428 _ ?side1 A28.out).mono ?_); (case side1 => exact GInv.below HG.out (by repeat (first | (with_reducible first | exact HB.out | apply below_alloc | apply pw_below_drewN | apply below_drew1) | exact HB.out))); rintro e w30 ⟨v423, rfl, ho0, hb⟩; refine ⟨_, rfl, ?_⟩; have n0_ := Aside0.mk (Kd.R_lower ho0 (below_size (by repeat (first | (with_reducible first | exact HB.out | apply below_alloc | apply pw_below_drewN | apply below_drew1) | exact HB.out)))); have n1_ := Aside0.mk (below_step (by repeat (first | (with_reducible first | exact HB.out | apply below_alloc | apply pw_below_drewN | apply below_drew1) | exact HB.out)) hb); clear HB; have HO424 := n0_; have HB := n1_; clear n0_ n1_; (try clear hb); (try clear hb2); (try clear hk); (try clear hi); (try clear ho0)) | ((with_reducible refine gate_dst (N := 10) rfl ?_); refine box_event ?hg (N := 10) ?hd (cs := #[.int .i64 0, .int .i64 0, .int .i64 0, .int .i64 0]) (t := 34) ?hr ?_; (case hd => rfl); (case hg => rfl); (case hr => first | (go_simp; done) | (go_simp; rfl)); intro gb429 hg w31 hbox hb; have n0_ := Aside0.mk (Kd.R_below (by (with_reducible repeat (first | apply Kd.R_alloc | apply Kd.R_drewN | apply Kd.R_drew)); exact HO424.out) hb); have n1_ := Aside0.mk (below_step (by repeat (first | (with_reducible first | exact HB.out | apply below_alloc | apply pw_below_drewN | apply below_drew1) | exact HB.out)) hb); have n2_ := Aside0.mk (hbox); have n3_ := Aside0.mk ((by rw [hg]; exact (below_size (by repeat (first | (with_reducible first | exact HB.out | apply below_alloc | apply pw_below_drewN | apply below_drew1) | exact HB.out))) : w.heap.size ≤ gb429)); have n4_ := n3_; clear HO424; clear HB; have HO424 := n0_; have HB := n1_; have BK429 := n2_; have GW429 := n3_; have GE429 := n4_; clear n0_ n1_ n2_ n3_ n4_; clear hb hbox hg; have hcz32_0 : w31.cell? ⟨gb429, 0, none⟩ = some (.int .i64 0) := (blk_cell BK429.out 0).trans rfl; have hcz32_1 : w31.cell? ⟨gb429, 1, none⟩ = some (.int .i64 0) := (blk_cell BK429.out 1).trans rfl; have hcz32_2 : w31.cell? ⟨gb429, 2, none⟩ = some (.int .i64 0) := (blk_cell BK429.out 2).trans rfl; have hcz32_3 : w31.cell? ⟨gb429, 3, none⟩ = some (.int .i64 0) := (blk_cell BK429.out 3).trans rfl; have hfz32_0 := blk_frozen BK429.out 0; have hfz32_1 := blk_frozen BK429.out 1; have hfz32_2 := blk_frozen BK429.out 2; have hfz32_3 := blk_frozen BK429.out 3))
                  (try simp only [Act.put, List.setIfInBounds_toArray, List.set_cons_zero, List.set_cons_succ])
                  go_cut [67] (fun v67 wc => ∃ (kq : Nat) (x67_28 : Bool), v67 = .bool x67_28 ∧ Aside0 (mortiselaw02_TokenNumbers.j4 kq a0 t422 x67_28 = some r) ∧ Aside0 (kq ≤ kj19) ∧ Aside0 (Kd.R k40 40 wc w.heap.size (fun _ => True) v423 t422) ∧ Aside0 (wc.heap[gb429]? = some (.cells #[.int .i64 t425, .int .i64 t426, .int .i64 t427, .int .i64 t428] 34 (0, 0))) ∧ Aside0 (Below w.heap.size w wc))
                  case first =>
                   have H := HC29.out
                   clear HC29
                   by_cases c33 : (!(t425 == 0) || ((!(t426 == 0) || (!(t427 == 0) || (!(t428 == 0)))))) = true
                   ·
                    rw [if_pos c33] at H
                    have c33b0 : (!(t425 == 0) || ((!(t426 == 0) || (!(t427 == 0) || (!(t428 == 0)))))) = true := c33
                    clear c33
                    (first | rw [c33b0] | (simp only [i64_w, i32_w]; rw [c33b0]) | skip)
                    have H' := Aside0.mk H
                    clear H
                    have hcz34_0 : w31.cell? ⟨gb429, 0, none⟩ = some (.int .i64 0) := (blk_cell BK429.out 0).trans rfl
                    have hcz34_1 : w31.cell? ⟨gb429, 1, none⟩ = some (.int .i64 0) := (blk_cell BK429.out 1).trans rfl
                    have hcz34_2 : w31.cell? ⟨gb429, 2, none⟩ = some (.int .i64 0) := (blk_cell BK429.out 2).trans rfl
                    have hcz34_3 : w31.cell? ⟨gb429, 3, none⟩ = some (.int .i64 0) := (blk_cell BK429.out 3).trans rfl
                    have hfz34_0 := blk_frozen BK429.out 0
                    have hfz34_1 := blk_frozen BK429.out 1
                    have hfz34_2 := blk_frozen BK429.out 2
                    have hfz34_3 := blk_frozen BK429.out 3
                    go_wp2
                    go_meet
                    case rel => exact ⟨_, (true), (by first | rfl | (simp; done) | (simp [*]; done)), H', ⟨by have := HK1.out; have := HK2.out; have := HK3.out; have := HJ19.out; first | omega | exact Nat.le_refl _⟩, ⟨by (with_reducible repeat (first | apply Kd.R_alloc | apply Kd.R_drewN | apply Kd.R_drew)); exact Kd.R_mono (Kd.R_far (p := ⟨gb429, 3, none⟩) (Kd.R_far (p := ⟨gb429, 2, none⟩) (Kd.R_far (p := ⟨gb429, 1, none⟩) (Kd.R_far (p := ⟨gb429, 0, none⟩) (Kd.R_types HO424.out BK429.out (by decide)) (fun _ hk => hk.2) (.int .i64 t425)) (fun _ hk => hk.2) (.int .i64 t426)) (fun _ hk => hk.2) (.int .i64 t427)) (fun _ hk => hk.2) (.int .i64 t428)) (fun _ hk => trivial)⟩, ⟨by (with_reducible repeat (first | refine blk_drewN ?_ _ | refine blk_drew ?_ | refine blk_alloc ?_ _)); refine blk_put (cs := #[.int .i64 t425, .int .i64 t426, .int .i64 t427, .int .i64 0]) ?_ 3 _ rfl; (with_reducible repeat (first | refine blk_drewN ?_ _ | refine blk_drew ?_ | refine blk_alloc ?_ _)); refine blk_put (cs := #[.int .i64 t425, .int .i64 t426, .int .i64 0, .int .i64 0]) ?_ 2 _ rfl; (with_reducible repeat (first | refine blk_drewN ?_ _ | refine blk_drew ?_ | refine blk_alloc ?_ _)); refine blk_put (cs := #[.int .i64 t425, .int .i64 0, .int .i64 0, .int .i64 0]) ?_ 1 _ rfl; (with_reducible repeat (first | refine blk_drewN ?_ _ | refine blk_drew ?_ | refine blk_alloc ?_ _)); refine blk_put (cs := #[.int .i64 0, .int .i64 0, .int .i64 0, .int .i64 0]) ?_ 0 _ rfl; (with_reducible repeat (first | refine blk_drewN ?_ _ | refine blk_drew ?_ | refine blk_alloc ?_ _)); exact BK429.out⟩, ⟨by repeat (first | (with_reducible first | exact HB.out | apply below_alloc | apply pw_below_drewN | apply below_drew1 | refine below_set ?_ GE429.out) | exact HB.out)⟩⟩
                   ·
                    rw [if_neg c33] at H
                    have c33b0 : (!(t425 == 0) || ((!(t426 == 0) || (!(t427 == 0) || (!(t428 == 0)))))) = false := by simpa using c33
                    clear c33
                    (first | rw [c33b0] | (simp only [i64_w, i32_w]; rw [c33b0]) | skip)
                    have H' := Aside0.mk H
                    clear H
                    have hcz35_0 : w31.cell? ⟨gb429, 0, none⟩ = some (.int .i64 0) := (blk_cell BK429.out 0).trans rfl
                    have hcz35_1 : w31.cell? ⟨gb429, 1, none⟩ = some (.int .i64 0) := (blk_cell BK429.out 1).trans rfl
                    have hcz35_2 : w31.cell? ⟨gb429, 2, none⟩ = some (.int .i64 0) := (blk_cell BK429.out 2).trans rfl
                    have hcz35_3 : w31.cell? ⟨gb429, 3, none⟩ = some (.int .i64 0) := (blk_cell BK429.out 3).trans rfl
                    have hfz35_0 := blk_frozen BK429.out 0
                    have hfz35_1 := blk_frozen BK429.out 1
                    have hfz35_2 := blk_frozen BK429.out 2
                    have hfz35_3 := blk_frozen BK429.out 3
                    obtain ⟨Ao36, co36, eo36⟩ := Kd.R_slice HO424.out
                    subst eo36
                    go_wp2
                    go_meet
                    case rel => exact ⟨_, (((t422.length : Int) != 4)), (by first | rfl | (simp; done) | (simp [*]; done)), H', ⟨by have := HK1.out; have := HK2.out; have := HK3.out; have := HJ19.out; first | omega | exact Nat.le_refl _⟩, ⟨by (with_reducible repeat (first | apply Kd.R_alloc | apply Kd.R_drewN | apply Kd.R_drew)); exact Kd.R_mono (Kd.R_far (p := ⟨gb429, 3, none⟩) (Kd.R_far (p := ⟨gb429, 2, none⟩) (Kd.R_far (p := ⟨gb429, 1, none⟩) (Kd.R_far (p := ⟨gb429, 0, none⟩) (Kd.R_types HO424.out BK429.out (by decide)) (fun _ hk => hk.2) (.int .i64 t425)) (fun _ hk => hk.2) (.int .i64 t426)) (fun _ hk => hk.2) (.int .i64 t427)) (fun _ hk => hk.2) (.int .i64 t428)) (fun _ hk => trivial)⟩, ⟨by (with_reducible repeat (first | refine blk_drewN ?_ _ | refine blk_drew ?_ | refine blk_alloc ?_ _)); refine blk_put (cs := #[.int .i64 t425, .int .i64 t426, .int .i64 t427, .int .i64 0]) ?_ 3 _ rfl; (with_reducible repeat (first | refine blk_drewN ?_ _ | refine blk_drew ?_ | refine blk_alloc ?_ _)); refine blk_put (cs := #[.int .i64 t425, .int .i64 t426, .int .i64 0, .int .i64 0]) ?_ 2 _ rfl; (with_reducible repeat (first | refine blk_drewN ?_ _ | refine blk_drew ?_ | refine blk_alloc ?_ _)); refine blk_put (cs := #[.int .i64 t425, .int .i64 0, .int .i64 0, .int .i64 0]) ?_ 1 _ rfl; (with_reducible repeat (first | refine blk_drewN ?_ _ | refine blk_drew ?_ | refine blk_alloc ?_ _)); refine blk_put (cs := #[.int .i64 0, .int .i64 0, .int .i64 0, .int .i64 0]) ?_ 0 _ rfl; (with_reducible repeat (first | refine blk_drewN ?_ _ | refine blk_drew ?_ | refine blk_alloc ?_ _)); exact BK429.out⟩, ⟨by repeat (first | (with_reducible first | exact HB.out | apply below_alloc | apply pw_below_drewN | apply below_drew1 | refine below_set ?_ GE429.out) | exact HB.out)⟩⟩
                  case rest =>
                   clear HC29
                   try clear c1
                   try clear p1
                   try clear q1
                   try clear hx1
                   try clear c2
                   try clear c2b0
                   try clear p2
                   try clear c3
                   try clear c4
                   try clear c4b0
                   try clear c5
                   try clear c5b0
                   try clear p6
                   try clear q6
                   try clear hx6
                   try clear c7
                   try clear c7b0
                   try clear c7b1
                   try clear c7b2
                   try clear c8
                   try clear c8b0
                   try clear c10
                   try clear c10b0
                   try clear c11
                   try clear c11b0
                   try clear p12
                   try clear q12
                   try clear hx12
                   try clear c13
                   try clear c13b0
                   try clear c13b1
                   try clear c13b2
                   try clear c14
                   try clear c14b0
                   try clear c16
                   try clear c16b0
                   try clear c17
                   try clear c17b0
                   try clear c18
                   try clear p18
                   try clear q18
                   try clear hx18
                   try clear c19
                   try clear c19b0
                   try clear c19b1
                   try clear c19b2
                   try clear c21
                   try clear c21b0
                   try clear c21b1
                   try clear c22
                   try clear c22b0
                   try clear c22b1
                   try clear c22b2
                   try clear c23
                   try clear c23b0
                   try clear c23b1
                   try clear c23b2
                   try clear c24
                   try clear c24b0
                   try clear c24b1
                   try clear c24b2
                   try clear c25
                   try clear c25b0
                   try clear c25b1
                   try clear c25b2
                   try clear c26
                   try clear c26b0
                   try clear c26b1
                   try clear c26b2
                   try clear c27
                   try clear c27b0
                   try clear c27b1
                   try clear c27b2
                   try clear c33
                   try clear c33b0
                   try clear hcz32_0
                   try clear hcz32_1
                   try clear hcz32_2
                   try clear hcz32_3
                   try clear hcz34_0
                   try clear hcz34_1
                   try clear hcz34_2
                   try clear hcz34_3
                   try clear hcz35_0
                   try clear hcz35_1
                   try clear hcz35_2
                   try clear hcz35_3
                   try clear hfz32_0
                   try clear hfz32_1
                   try clear hfz32_2
                   try clear hfz32_3
                   try clear hfz34_0
                   try clear hfz34_1
                   try clear hfz34_2
                   try clear hfz34_3
                   try clear hfz35_0
                   try clear hfz35_1
                   try clear hfz35_2
                   try clear hfz35_3
                   try clear p1
                   try clear p12
                   try clear p18
                   try clear p2
                   try clear p6
                   try clear q1
                   try clear q12
                   try clear q18
                   try clear q6
                   obtain ⟨kq, x67_28, rfl, HA, HJ28, HO_9, BK429, HB⟩ := hcut
                   cases kq with
                   | zero => exact absurd HA.out (by simp [mortiselaw02_TokenNumbers.j4])
                   | succ kj28 =>
                    have H := HA.out
                    clear HA
                    simp only [mortiselaw02_TokenNumbers.j4] at H
                    by_cases c37 : x67_28 = true
                    ·
                     subst c37
                     have H1 : (none) = some r := by rw [if_pos rfl] at H; exact H
                     clear H
                     have H := H1
                     clear H1
                     exact absurd H (by simp)
                    ·
                     replace c37 := Bool.eq_false_iff.mpr c37
                     subst c37
                     have H1 : (if a0 > 2147483647 then (if 0 < (t422.length : Int) then (if ((rd_T40 t422 0).f2) = (wrap64 (a0)) then (if 1 < (t422.length : Int) then (if ((rd_T40 t422 1).f2) = (wrap64 (a0)) then (if 2 < (t422.length : Int) then (if ((rd_T40 t422 2).f2) = (wrap64 (a0)) then (if ((rd_T40 t422 0).f1).toList = ([117, 110, 115, 105, 103, 110, 101, 100, 32, 105, 110, 116] : List UInt8) then (if ((rd_T40 t422 1).f1).toList = ([117, 110, 115, 105, 103, 110, 101, 100, 32, 105, 110, 116] : List UInt8) then (if ((rd_T40 t422 2).f1).toList = ([117, 110, 115, 105, 103, 110, 101, 100, 32, 105, 110, 116] : List UInt8) then ((mortiselaw02_heads.f kj28).bind fun t436 => (some t436)) else (none)) else (none)) else (none)) else (none)) else (none)) else (none)) else (none)) else (none)) else (none)) else (if 0 < (t422.length : Int) then (if ((rd_T40 t422 0).f2) = (wrap64 (a0)) then (if 1 < (t422.length : Int) then (if ((rd_T40 t422 1).f2) = (wrap64 (a0)) then (if 2 < (t422.length : Int) then (if ((rd_T40 t422 2).f2) = (wrap64 (a0)) then (if ((rd_T40 t422 0).f1).toList = ([105, 110, 116] : List UInt8) then (if ((rd_T40 t422 1).f1).toList = ([105, 110, 116] : List UInt8) then (if ((rd_T40 t422 2).f1).toList = ([117, 110, 115, 105, 103, 110, 101, 100, 32, 105, 110, 116] : List UInt8) then ((mortiselaw02_heads.f kj28).bind fun t443 => (some t443)) else (none)) else (none)) else (none)) else (none)) else (none)) else (none)) else (none)) else (none)) else (none))) = some r := by rw [if_neg (show ¬ (false = true) by decide)] at H; exact H
                     clear H
                     have H := H1
                     clear H1
                     by_cases c38 : a0 > 2147483647
                     ·
                      rw [if_pos c38] at H
                      have c38b0 : decide (2147483647 < a0) = true := decide_eq_true c38
                      clear c38
                      by_cases c39 : 0 < (t422.length : Int)
                      ·
                       rw [if_pos c39] at H
                       have c39b0 : decide (0 < (t422.length : Int)) = true := decide_eq_true c39
                       have c39b1 : decide (0 < t422.length) = true := decide_eq_true (by omega)
                       clear c39
                       by_cases c40 : ((rd_T40 t422 0).f2) = (wrap64 (a0))
                       ·
                        rw [if_pos c40] at H
                        have c40b0 : (((rd_T40 t422 0).f2) == (wrap64 (a0))) = true := beq_iff_eq.mpr c40
                        have c40b1 : (((rd_T40 t422 0).f2) != (wrap64 (a0))) = false := bne_eq_false_iff_eq.mpr c40
                        clear c40
                        by_cases c41 : 1 < (t422.length : Int)
                        ·
                         rw [if_pos c41] at H
                         have c41b0 : decide (1 < (t422.length : Int)) = true := decide_eq_true c41
                         have c41b1 : decide (1 < t422.length) = true := decide_eq_true (by omega)
                         clear c41
                         by_cases c42 : ((rd_T40 t422 1).f2) = (wrap64 (a0))
                         ·
                          rw [if_pos c42] at H
                          have c42b0 : (((rd_T40 t422 1).f2) == (wrap64 (a0))) = true := beq_iff_eq.mpr c42
                          have c42b1 : (((rd_T40 t422 1).f2) != (wrap64 (a0))) = false := bne_eq_false_iff_eq.mpr c42
                          clear c42
                          by_cases c43 : 2 < (t422.length : Int)
                          ·
                           rw [if_pos c43] at H
                           have c43b0 : decide (2 < (t422.length : Int)) = true := decide_eq_true c43
                           have c43b1 : decide (2 < t422.length) = true := decide_eq_true (by omega)
                           clear c43
                           by_cases c44 : ((rd_T40 t422 2).f2) = (wrap64 (a0))
                           ·
                            rw [if_pos c44] at H
                            have c44b0 : (((rd_T40 t422 2).f2) == (wrap64 (a0))) = true := beq_iff_eq.mpr c44
                            have c44b1 : (((rd_T40 t422 2).f2) != (wrap64 (a0))) = false := bne_eq_false_iff_eq.mpr c44
                            clear c44
                            by_cases c45 : ((rd_T40 t422 0).f1).toList = ([117, 110, 115, 105, 103, 110, 101, 100, 32, 105, 110, 116] : List UInt8)
                            ·
                             rw [if_pos c45] at H
                             have c45b0 : (((rd_T40 t422 0).f1).toList == ([117, 110, 115, 105, 103, 110, 101, 100, 32, 105, 110, 116] : List UInt8)) = true := beq_iff_eq.mpr c45
                             have c45b1 : (((rd_T40 t422 0).f1).toList != ([117, 110, 115, 105, 103, 110, 101, 100, 32, 105, 110, 116] : List UInt8)) = false := bne_eq_false_iff_eq.mpr c45
                             clear c45
                             by_cases c46 : ((rd_T40 t422 1).f1).toList = ([117, 110, 115, 105, 103, 110, 101, 100, 32, 105, 110, 116] : List UInt8)
                             ·
                              rw [if_pos c46] at H
                              have c46b0 : (((rd_T40 t422 1).f1).toList == ([117, 110, 115, 105, 103, 110, 101, 100, 32, 105, 110, 116] : List UInt8)) = true := beq_iff_eq.mpr c46
                              have c46b1 : (((rd_T40 t422 1).f1).toList != ([117, 110, 115, 105, 103, 110, 101, 100, 32, 105, 110, 116] : List UInt8)) = false := bne_eq_false_iff_eq.mpr c46
                              clear c46
                              by_cases c47 : ((rd_T40 t422 2).f1).toList = ([117, 110, 115, 105, 103, 110, 101, 100, 32, 105, 110, 116] : List UInt8)
                              ·
                               rw [if_pos c47] at H
                               have c47b0 : (((rd_T40 t422 2).f1).toList == ([117, 110, 115, 105, 103, 110, 101, 100, 32, 105, 110, 116] : List UInt8)) = true := beq_iff_eq.mpr c47
                               have c47b1 : (((rd_T40 t422 2).f1).toList != ([117, 110, 115, 105, 103, 110, 101, 100, 32, 105, 110, 116] : List UInt8)) = false := bne_eq_false_iff_eq.mpr c47
                               clear c47
                               replace H := Option.bind_eq_some_iff.mp H
                               obtain ⟨t436, A480, H⟩ := H
                               replace H : (some t436) = some r := H
                               have A48 := Aside0.mk A480
                               clear A480
                               obtain rfl := Option.some.inj H
                               obtain ⟨Ao49, co49, eo49⟩ := Kd.R_slice HO_9.out
                               subst eo49
                               have p430 : 0 ≤ (0 : Int) := (by omega)
                               have q430 : 0 < (t422.length : Int) := of_decide_eq_true (by first | (with_reducible assumption) | assumption)
                               obtain ⟨ad430, e430, hx430_0, hx430_1, hx430_2, hx430_3, hx430_4, hx430_5⟩ := at_T40 (Kd.R_reads' HO_9.out).2.2 0 p430 q430
                               cases e430
                               have qi430 : (0 < t422.length) = True := eq_true (by omega)
                               (try rw [show ((0 : Int)).toNat = 0 from rfl] at hx430_0)
                               (try rw [show 0 * 6 = 0 from rfl] at hx430_0)
                               (try rw [Addr.add_zero'] at hx430_0)
                               (try rw [show ((0 : Int)).toNat = 0 from rfl] at hx430_1)
                               (try rw [show 0 * 6 = 0 from rfl] at hx430_1)
                               (try rw [Addr.add_zero'] at hx430_1)
                               (try rw [show ((0 : Int)).toNat = 0 from rfl] at hx430_2)
                               (try rw [show 0 * 6 = 0 from rfl] at hx430_2)
                               (try rw [Addr.add_zero'] at hx430_2)
                               (try rw [show ((0 : Int)).toNat = 0 from rfl] at hx430_3)
                               (try rw [show 0 * 6 = 0 from rfl] at hx430_3)
                               (try rw [Addr.add_zero'] at hx430_3)
                               (try rw [show ((0 : Int)).toNat = 0 from rfl] at hx430_4)
                               (try rw [show 0 * 6 = 0 from rfl] at hx430_4)
                               (try rw [Addr.add_zero'] at hx430_4)
                               (try rw [show ((0 : Int)).toNat = 0 from rfl] at hx430_5)
                               (try rw [show 0 * 6 = 0 from rfl] at hx430_5)
                               (try rw [Addr.add_zero'] at hx430_5)
                               replace p430 := eq_true p430
                               replace q430 := eq_true q430
                               have p431 : 0 ≤ (1 : Int) := (by omega)
                               have q431 : 1 < (t422.length : Int) := of_decide_eq_true (by first | (with_reducible assumption) | assumption)
                               obtain ⟨ad431, e431, hx431_0, hx431_1, hx431_2, hx431_3, hx431_4, hx431_5⟩ := at_T40 (Kd.R_reads' HO_9.out).2.2 1 p431 q431
                               obtain rfl : ad430 = ad431 := (by injection e431)
                               (try simp only [show (1 : Int).toNat = 1 from rfl, Nat.reduceMul, Nat.reduceEqDiff, Go.Addr.add, ↓reduceIte] at hx431_0)
                               (try simp only [show (1 : Int).toNat = 1 from rfl, Nat.reduceMul, Nat.reduceEqDiff, Go.Addr.add, ↓reduceIte] at hx431_1)
                               (try simp only [show (1 : Int).toNat = 1 from rfl, Nat.reduceMul, Nat.reduceEqDiff, Go.Addr.add, ↓reduceIte] at hx431_2)
                               (try simp only [show (1 : Int).toNat = 1 from rfl, Nat.reduceMul, Nat.reduceEqDiff, Go.Addr.add, ↓reduceIte] at hx431_3)
                               (try simp only [show (1 : Int).toNat = 1 from rfl, Nat.reduceMul, Nat.reduceEqDiff, Go.Addr.add, ↓reduceIte] at hx431_4)
                               (try simp only [show (1 : Int).toNat = 1 from rfl, Nat.reduceMul, Nat.reduceEqDiff, Go.Addr.add, ↓reduceIte] at hx431_5)
                               have qi431 : (1 < t422.length) = True := eq_true (by omega)
                               (try rw [show ((1 : Int)).toNat = 1 from rfl] at hx431_0)
                               (try rw [show 1 * 6 = 6 from rfl] at hx431_0)
                               (try rw [show ((1 : Int)).toNat = 1 from rfl] at hx431_1)
                               (try rw [show 1 * 6 = 6 from rfl] at hx431_1)
                               (try rw [show ((1 : Int)).toNat = 1 from rfl] at hx431_2)
                               (try rw [show 1 * 6 = 6 from rfl] at hx431_2)
                               (try rw [show ((1 : Int)).toNat = 1 from rfl] at hx431_3)
                               (try rw [show 1 * 6 = 6 from rfl] at hx431_3)
                               (try rw [show ((1 : Int)).toNat = 1 from rfl] at hx431_4)
                               (try rw [show 1 * 6 = 6 from rfl] at hx431_4)
                               (try rw [show ((1 : Int)).toNat = 1 from rfl] at hx431_5)
                               (try rw [show 1 * 6 = 6 from rfl] at hx431_5)
                               replace p431 := eq_true p431
                               replace q431 := eq_true q431
                               have p432 : 0 ≤ (2 : Int) := (by omega)
                               have q432 : 2 < (t422.length : Int) := of_decide_eq_true (by first | (with_reducible assumption) | assumption)
                               obtain ⟨ad432, e432, hx432_0, hx432_1, hx432_2, hx432_3, hx432_4, hx432_5⟩ := at_T40 (Kd.R_reads' HO_9.out).2.2 2 p432 q432
                               obtain rfl : ad430 = ad432 := (by injection e432)
                               (try simp only [show (2 : Int).toNat = 2 from rfl, Nat.reduceMul, Nat.reduceEqDiff, Go.Addr.add, ↓reduceIte] at hx432_0)
                               (try simp only [show (2 : Int).toNat = 2 from rfl, Nat.reduceMul, Nat.reduceEqDiff, Go.Addr.add, ↓reduceIte] at hx432_1)
                               (try simp only [show (2 : Int).toNat = 2 from rfl, Nat.reduceMul, Nat.reduceEqDiff, Go.Addr.add, ↓reduceIte] at hx432_2)
                               (try simp only [show (2 : Int).toNat = 2 from rfl, Nat.reduceMul, Nat.reduceEqDiff, Go.Addr.add, ↓reduceIte] at hx432_3)
                               (try simp only [show (2 : Int).toNat = 2 from rfl, Nat.reduceMul, Nat.reduceEqDiff, Go.Addr.add, ↓reduceIte] at hx432_4)
                               (try simp only [show (2 : Int).toNat = 2 from rfl, Nat.reduceMul, Nat.reduceEqDiff, Go.Addr.add, ↓reduceIte] at hx432_5)
                               have qi432 : (2 < t422.length) = True := eq_true (by omega)
                               (try rw [show ((2 : Int)).toNat = 2 from rfl] at hx432_0)
                               (try rw [show 2 * 6 = 12 from rfl] at hx432_0)
                               (try rw [show ((2 : Int)).toNat = 2 from rfl] at hx432_1)
                               (try rw [show 2 * 6 = 12 from rfl] at hx432_1)
                               (try rw [show ((2 : Int)).toNat = 2 from rfl] at hx432_2)
                               (try rw [show 2 * 6 = 12 from rfl] at hx432_2)
                               (try rw [show ((2 : Int)).toNat = 2 from rfl] at hx432_3)
                               (try rw [show 2 * 6 = 12 from rfl] at hx432_3)
                               (try rw [show ((2 : Int)).toNat = 2 from rfl] at hx432_4)
                               (try rw [show 2 * 6 = 12 from rfl] at hx432_4)
                               (try rw [show ((2 : Int)).toNat = 2 from rfl] at hx432_5)
                               (try rw [show 2 * 6 = 12 from rfl] at hx432_5)
                               replace p432 := eq_true p432
                               replace q432 := eq_true q432
                               have p433 : 0 ≤ (0 : Int) := (by omega)
                               have q433 : 0 < (t422.length : Int) := of_decide_eq_true (by first | (with_reducible assumption) | assumption)
                               obtain ⟨ad433, e433, hx433_0, hx433_1, hx433_2, hx433_3, hx433_4, hx433_5⟩ := at_T40 (Kd.R_reads' HO_9.out).2.2 0 p433 q433
                               obtain rfl : ad430 = ad433 := (by injection e433)
                               have qi433 : (0 < t422.length) = True := eq_true (by omega)
                               (try rw [show ((0 : Int)).toNat = 0 from rfl] at hx433_0)
                               (try rw [show 0 * 6 = 0 from rfl] at hx433_0)
                               (try rw [Addr.add_zero'] at hx433_0)
                               (try rw [show ((0 : Int)).toNat = 0 from rfl] at hx433_1)
                               (try rw [show 0 * 6 = 0 from rfl] at hx433_1)
                               (try rw [Addr.add_zero'] at hx433_1)
                               (try rw [show ((0 : Int)).toNat = 0 from rfl] at hx433_2)
                               (try rw [show 0 * 6 = 0 from rfl] at hx433_2)
                               (try rw [Addr.add_zero'] at hx433_2)
                               (try rw [show ((0 : Int)).toNat = 0 from rfl] at hx433_3)
                               (try rw [show 0 * 6 = 0 from rfl] at hx433_3)
                               (try rw [Addr.add_zero'] at hx433_3)
                               (try rw [show ((0 : Int)).toNat = 0 from rfl] at hx433_4)
                               (try rw [show 0 * 6 = 0 from rfl] at hx433_4)
                               (try rw [Addr.add_zero'] at hx433_4)
                               (try rw [show ((0 : Int)).toNat = 0 from rfl] at hx433_5)
                               (try rw [show 0 * 6 = 0 from rfl] at hx433_5)
                               (try rw [Addr.add_zero'] at hx433_5)
                               replace p433 := eq_true p433
                               replace q433 := eq_true q433
                               have p434 : 0 ≤ (1 : Int) := (by omega)
                               have q434 : 1 < (t422.length : Int) := of_decide_eq_true (by first | (with_reducible assumption) | assumption)
                               obtain ⟨ad434, e434, hx434_0, hx434_1, hx434_2, hx434_3, hx434_4, hx434_5⟩ := at_T40 (Kd.R_reads' HO_9.out).2.2 1 p434 q434
                               obtain rfl : ad430 = ad434 := (by injection e434)
                               (try simp only [show (1 : Int).toNat = 1 from rfl, Nat.reduceMul, Nat.reduceEqDiff, Go.Addr.add, ↓reduceIte] at hx434_0)
                               (try simp only [show (1 : Int).toNat = 1 from rfl, Nat.reduceMul, Nat.reduceEqDiff, Go.Addr.add, ↓reduceIte] at hx434_1)
                               (try simp only [show (1 : Int).toNat = 1 from rfl, Nat.reduceMul, Nat.reduceEqDiff, Go.Addr.add, ↓reduceIte] at hx434_2)
                               (try simp only [show (1 : Int).toNat = 1 from rfl, Nat.reduceMul, Nat.reduceEqDiff, Go.Addr.add, ↓reduceIte] at hx434_3)
                               (try simp only [show (1 : Int).toNat = 1 from rfl, Nat.reduceMul, Nat.reduceEqDiff, Go.Addr.add, ↓reduceIte] at hx434_4)
                               (try simp only [show (1 : Int).toNat = 1 from rfl, Nat.reduceMul, Nat.reduceEqDiff, Go.Addr.add, ↓reduceIte] at hx434_5)
                               have qi434 : (1 < t422.length) = True := eq_true (by omega)
                               (try rw [show ((1 : Int)).toNat = 1 from rfl] at hx434_0)
                               (try rw [show 1 * 6 = 6 from rfl] at hx434_0)
                               (try rw [show ((1 : Int)).toNat = 1 from rfl] at hx434_1)
                               (try rw [show 1 * 6 = 6 from rfl] at hx434_1)
                               (try rw [show ((1 : Int)).toNat = 1 from rfl] at hx434_2)
                               (try rw [show 1 * 6 = 6 from rfl] at hx434_2)
                               (try rw [show ((1 : Int)).toNat = 1 from rfl] at hx434_3)
                               (try rw [show 1 * 6 = 6 from rfl] at hx434_3)
                               (try rw [show ((1 : Int)).toNat = 1 from rfl] at hx434_4)
                               (try rw [show 1 * 6 = 6 from rfl] at hx434_4)
                               (try rw [show ((1 : Int)).toNat = 1 from rfl] at hx434_5)
                               (try rw [show 1 * 6 = 6 from rfl] at hx434_5)
                               replace p434 := eq_true p434
                               replace q434 := eq_true q434
                               have p435 : 0 ≤ (2 : Int) := (by omega)
                               have q435 : 2 < (t422.length : Int) := of_decide_eq_true (by first | (with_reducible assumption) | assumption)
                               obtain ⟨ad435, e435, hx435_0, hx435_1, hx435_2, hx435_3, hx435_4, hx435_5⟩ := at_T40 (Kd.R_reads' HO_9.out).2.2 2 p435 q435
                               obtain rfl : ad430 = ad435 := (by injection e435)
                               (try simp only [show (2 : Int).toNat = 2 from rfl, Nat.reduceMul, Nat.reduceEqDiff, Go.Addr.add, ↓reduceIte] at hx435_0)
                               (try simp only [show (2 : Int).toNat = 2 from rfl, Nat.reduceMul, Nat.reduceEqDiff, Go.Addr.add, ↓reduceIte] at hx435_1)
                               (try simp only [show (2 : Int).toNat = 2 from rfl, Nat.reduceMul, Nat.reduceEqDiff, Go.Addr.add, ↓reduceIte] at hx435_2)
                               (try simp only [show (2 : Int).toNat = 2 from rfl, Nat.reduceMul, Nat.reduceEqDiff, Go.Addr.add, ↓reduceIte] at hx435_3)
                               (try simp only [show (2 : Int).toNat = 2 from rfl, Nat.reduceMul, Nat.reduceEqDiff, Go.Addr.add, ↓reduceIte] at hx435_4)
                               (try simp only [show (2 : Int).toNat = 2 from rfl, Nat.reduceMul, Nat.reduceEqDiff, Go.Addr.add, ↓reduceIte] at hx435_5)
                               have qi435 : (2 < t422.length) = True := eq_true (by omega)
                               (try rw [show ((2 : Int)).toNat = 2 from rfl] at hx435_0)
                               (try rw [show 2 * 6 = 12 from rfl] at hx435_0)
                               (try rw [show ((2 : Int)).toNat = 2 from rfl] at hx435_1)
                               (try rw [show 2 * 6 = 12 from rfl] at hx435_1)
                               (try rw [show ((2 : Int)).toNat = 2 from rfl] at hx435_2)
                               (try rw [show 2 * 6 = 12 from rfl] at hx435_2)
                               (try rw [show ((2 : Int)).toNat = 2 from rfl] at hx435_3)
                               (try rw [show 2 * 6 = 12 from rfl] at hx435_3)
                               (try rw [show ((2 : Int)).toNat = 2 from rfl] at hx435_4)
                               (try rw [show 2 * 6 = 12 from rfl] at hx435_4)
                               (try rw [show ((2 : Int)).toNat = 2 from rfl] at hx435_5)
                               (try rw [show 2 * 6 = 12 from rfl] at hx435_5)
                               replace p435 := eq_true p435
                               replace q435 := eq_true q435
                               go_wp2_with (first | (go_at_call 15; (with_reducible refine (mortiselaw02_heads.calls kj28  t436 _ ?side1 A48.out).mono ?_); (case side1 => exact GInv.below HG.out (by repeat (first | (with_reducible first | exact HB.out | apply below_alloc | apply pw_below_drewN | apply below_drew1 | refine below_set ?_ GE429.out) | exact HB.out))); rintro e w50 ⟨rfl, hb⟩; have n0_ := Aside0.mk (Kd.R_below (by (with_reducible repeat (first | apply Kd.R_alloc | apply Kd.R_drewN | apply Kd.R_drew)); exact HO_9.out) hb); have n1_ := Aside0.mk (blk_below (g := gb429) (o := .cells #[.int .i64 t425, .int .i64 t426, .int .i64 t427, .int .i64 t428] 34 (0, 0)) (by (with_reducible repeat (first | refine blk_drewN ?_ _ | refine blk_drew ?_ | refine blk_alloc ?_ _)); exact BK429.out) hb); have n2_ := Aside0.mk (below_step (by repeat (first | (with_reducible first | exact HB.out | apply below_alloc | apply pw_below_drewN | apply below_drew1 | refine below_set ?_ GE429.out) | exact HB.out)) hb); clear HO_9; clear BK429; clear HB; have HO_9 := n0_; have BK429 := n1_; have HB := n2_; clear n0_ n1_ n2_; (try clear hb); (try clear hb2); (try clear hk); (try clear hi)))
                               go_ret
                               exact ⟨by first | rfl | (simp [errW_none, errW_some] <;> rfl) | (simp [*, errW_none, errW_some] <;> rfl), by repeat (first | (with_reducible first | exact HB.out | apply below_alloc | apply pw_below_drewN | apply below_drew1 | refine below_set ?_ GE429.out) | exact HB.out)⟩
                              ·
                               rw [if_neg c47] at H
                               exact absurd H (by simp)
                             ·
                              rw [if_neg c46] at H
                              exact absurd H (by simp)
                            ·
                             rw [if_neg c45] at H
                             exact absurd H (by simp)
                           ·
                            rw [if_neg c44] at H
                            exact absurd H (by simp)
                          ·
                           rw [if_neg c43] at H
                           exact absurd H (by simp)
                         ·
                          rw [if_neg c42] at H
                          exact absurd H (by simp)
                        ·
                         rw [if_neg c41] at H
                         exact absurd H (by simp)
                       ·
                        rw [if_neg c40] at H
                        exact absurd H (by simp)
                      ·
                       rw [if_neg c39] at H
                       exact absurd H (by simp)
                     ·
                      rw [if_neg c38] at H
                      have c38b0 : decide (2147483647 < a0) = false := decide_eq_false c38
                      clear c38
                      by_cases c51 : 0 < (t422.length : Int)
                      ·
                       rw [if_pos c51] at H
                       have c51b0 : decide (0 < (t422.length : Int)) = true := decide_eq_true c51
                       have c51b1 : decide (0 < t422.length) = true := decide_eq_true (by omega)
                       clear c51
                       by_cases c52 : ((rd_T40 t422 0).f2) = (wrap64 (a0))
                       ·
                        rw [if_pos c52] at H
                        have c52b0 : (((rd_T40 t422 0).f2) == (wrap64 (a0))) = true := beq_iff_eq.mpr c52
                        have c52b1 : (((rd_T40 t422 0).f2) != (wrap64 (a0))) = false := bne_eq_false_iff_eq.mpr c52
                        clear c52
                        by_cases c53 : 1 < (t422.length : Int)
                        ·
                         rw [if_pos c53] at H
                         have c53b0 : decide (1 < (t422.length : Int)) = true := decide_eq_true c53
                         have c53b1 : decide (1 < t422.length) = true := decide_eq_true (by omega)
                         clear c53
                         by_cases c54 : ((rd_T40 t422 1).f2) = (wrap64 (a0))
                         ·
                          rw [if_pos c54] at H
                          have c54b0 : (((rd_T40 t422 1).f2) == (wrap64 (a0))) = true := beq_iff_eq.mpr c54
                          have c54b1 : (((rd_T40 t422 1).f2) != (wrap64 (a0))) = false := bne_eq_false_iff_eq.mpr c54
                          clear c54
                          by_cases c55 : 2 < (t422.length : Int)
                          ·
                           rw [if_pos c55] at H
                           have c55b0 : decide (2 < (t422.length : Int)) = true := decide_eq_true c55
                           have c55b1 : decide (2 < t422.length) = true := decide_eq_true (by omega)
                           clear c55
                           by_cases c56 : ((rd_T40 t422 2).f2) = (wrap64 (a0))
                           ·
                            rw [if_pos c56] at H
                            have c56b0 : (((rd_T40 t422 2).f2) == (wrap64 (a0))) = true := beq_iff_eq.mpr c56
                            have c56b1 : (((rd_T40 t422 2).f2) != (wrap64 (a0))) = false := bne_eq_false_iff_eq.mpr c56
                            clear c56
                            by_cases c57 : ((rd_T40 t422 0).f1).toList = ([105, 110, 116] : List UInt8)
                            ·
                             rw [if_pos c57] at H
                             have c57b0 : (((rd_T40 t422 0).f1).toList == ([105, 110, 116] : List UInt8)) = true := beq_iff_eq.mpr c57
                             have c57b1 : (((rd_T40 t422 0).f1).toList != ([105, 110, 116] : List UInt8)) = false := bne_eq_false_iff_eq.mpr c57
                             clear c57
                             by_cases c58 : ((rd_T40 t422 1).f1).toList = ([105, 110, 116] : List UInt8)
                             ·
                              rw [if_pos c58] at H
                              have c58b0 : (((rd_T40 t422 1).f1).toList == ([105, 110, 116] : List UInt8)) = true := beq_iff_eq.mpr c58
                              have c58b1 : (((rd_T40 t422 1).f1).toList != ([105, 110, 116] : List UInt8)) = false := bne_eq_false_iff_eq.mpr c58
                              clear c58
                              by_cases c59 : ((rd_T40 t422 2).f1).toList = ([117, 110, 115, 105, 103, 110, 101, 100, 32, 105, 110, 116] : List UInt8)
                              ·
                               rw [if_pos c59] at H
                               have c59b0 : (((rd_T40 t422 2).f1).toList == ([117, 110, 115, 105, 103, 110, 101, 100, 32, 105, 110, 116] : List UInt8)) = true := beq_iff_eq.mpr c59
                               have c59b1 : (((rd_T40 t422 2).f1).toList != ([117, 110, 115, 105, 103, 110, 101, 100, 32, 105, 110, 116] : List UInt8)) = false := bne_eq_false_iff_eq.mpr c59
                               clear c59
                               replace H := Option.bind_eq_some_iff.mp H
                               obtain ⟨t443, A600, H⟩ := H
                               replace H : (some t443) = some r := H
                               have A60 := Aside0.mk A600
                               clear A600
                               obtain rfl := Option.some.inj H
                               obtain ⟨Ao61, co61, eo61⟩ := Kd.R_slice HO_9.out
                               subst eo61
                               have p437 : 0 ≤ (0 : Int) := (by omega)
                               have q437 : 0 < (t422.length : Int) := of_decide_eq_true (by first | (with_reducible assumption) | assumption)
                               obtain ⟨ad437, e437, hx437_0, hx437_1, hx437_2, hx437_3, hx437_4, hx437_5⟩ := at_T40 (Kd.R_reads' HO_9.out).2.2 0 p437 q437
                               cases e437
                               have qi437 : (0 < t422.length) = True := eq_true (by omega)
                               (try rw [show ((0 : Int)).toNat = 0 from rfl] at hx437_0)
                               (try rw [show 0 * 6 = 0 from rfl] at hx437_0)
                               (try rw [Addr.add_zero'] at hx437_0)
                               (try rw [show ((0 : Int)).toNat = 0 from rfl] at hx437_1)
                               (try rw [show 0 * 6 = 0 from rfl] at hx437_1)
                               (try rw [Addr.add_zero'] at hx437_1)
                               (try rw [show ((0 : Int)).toNat = 0 from rfl] at hx437_2)
                               (try rw [show 0 * 6 = 0 from rfl] at hx437_2)
                               (try rw [Addr.add_zero'] at hx437_2)
                               (try rw [show ((0 : Int)).toNat = 0 from rfl] at hx437_3)
                               (try rw [show 0 * 6 = 0 from rfl] at hx437_3)
                               (try rw [Addr.add_zero'] at hx437_3)
                               (try rw [show ((0 : Int)).toNat = 0 from rfl] at hx437_4)
                               (try rw [show 0 * 6 = 0 from rfl] at hx437_4)
                               (try rw [Addr.add_zero'] at hx437_4)
                               (try rw [show ((0 : Int)).toNat = 0 from rfl] at hx437_5)
                               (try rw [show 0 * 6 = 0 from rfl] at hx437_5)
                               (try rw [Addr.add_zero'] at hx437_5)
                               replace p437 := eq_true p437
                               replace q437 := eq_true q437
                               have p438 : 0 ≤ (1 : Int) := (by omega)
                               have q438 : 1 < (t422.length : Int) := of_decide_eq_true (by first | (with_reducible assumption) | assumption)
                               obtain ⟨ad438, e438, hx438_0, hx438_1, hx438_2, hx438_3, hx438_4, hx438_5⟩ := at_T40 (Kd.R_reads' HO_9.out).2.2 1 p438 q438
                               obtain rfl : ad437 = ad438 := (by injection e438)
                               (try simp only [show (1 : Int).toNat = 1 from rfl, Nat.reduceMul, Nat.reduceEqDiff, Go.Addr.add, ↓reduceIte] at hx438_0)
                               (try simp only [show (1 : Int).toNat = 1 from rfl, Nat.reduceMul, Nat.reduceEqDiff, Go.Addr.add, ↓reduceIte] at hx438_1)
                               (try simp only [show (1 : Int).toNat = 1 from rfl, Nat.reduceMul, Nat.reduceEqDiff, Go.Addr.add, ↓reduceIte] at hx438_2)
                               (try simp only [show (1 : Int).toNat = 1 from rfl, Nat.reduceMul, Nat.reduceEqDiff, Go.Addr.add, ↓reduceIte] at hx438_3)
                               (try simp only [show (1 : Int).toNat = 1 from rfl, Nat.reduceMul, Nat.reduceEqDiff, Go.Addr.add, ↓reduceIte] at hx438_4)
                               (try simp only [show (1 : Int).toNat = 1 from rfl, Nat.reduceMul, Nat.reduceEqDiff, Go.Addr.add, ↓reduceIte] at hx438_5)
                               have qi438 : (1 < t422.length) = True := eq_true (by omega)
                               (try rw [show ((1 : Int)).toNat = 1 from rfl] at hx438_0)
                               (try rw [show 1 * 6 = 6 from rfl] at hx438_0)
                               (try rw [show ((1 : Int)).toNat = 1 from rfl] at hx438_1)
                               (try rw [show 1 * 6 = 6 from rfl] at hx438_1)
                               (try rw [show ((1 : Int)).toNat = 1 from rfl] at hx438_2)
                               (try rw [show 1 * 6 = 6 from rfl] at hx438_2)
                               (try rw [show ((1 : Int)).toNat = 1 from rfl] at hx438_3)
                               (try rw [show 1 * 6 = 6 from rfl] at hx438_3)
                               (try rw [show ((1 : Int)).toNat = 1 from rfl] at hx438_4)
                               (try rw [show 1 * 6 = 6 from rfl] at hx438_4)
                               (try rw [show ((1 : Int)).toNat = 1 from rfl] at hx438_5)
                               (try rw [show 1 * 6 = 6 from rfl] at hx438_5)
                               replace p438 := eq_true p438
                               replace q438 := eq_true q438
                               have p439 : 0 ≤ (2 : Int) := (by omega)
                               have q439 : 2 < (t422.length : Int) := of_decide_eq_true (by first | (with_reducible assumption) | assumption)
                               obtain ⟨ad439, e439, hx439_0, hx439_1, hx439_2, hx439_3, hx439_4, hx439_5⟩ := at_T40 (Kd.R_reads' HO_9.out).2.2 2 p439 q439
                               obtain rfl : ad437 = ad439 := (by injection e439)
                               (try simp only [show (2 : Int).toNat = 2 from rfl, Nat.reduceMul, Nat.reduceEqDiff, Go.Addr.add, ↓reduceIte] at hx439_0)
                               (try simp only [show (2 : Int).toNat = 2 from rfl, Nat.reduceMul, Nat.reduceEqDiff, Go.Addr.add, ↓reduceIte] at hx439_1)
                               (try simp only [show (2 : Int).toNat = 2 from rfl, Nat.reduceMul, Nat.reduceEqDiff, Go.Addr.add, ↓reduceIte] at hx439_2)
                               (try simp only [show (2 : Int).toNat = 2 from rfl, Nat.reduceMul, Nat.reduceEqDiff, Go.Addr.add, ↓reduceIte] at hx439_3)
                               (try simp only [show (2 : Int).toNat = 2 from rfl, Nat.reduceMul, Nat.reduceEqDiff, Go.Addr.add, ↓reduceIte] at hx439_4)
                               (try simp only [show (2 : Int).toNat = 2 from rfl, Nat.reduceMul, Nat.reduceEqDiff, Go.Addr.add, ↓reduceIte] at hx439_5)
                               have qi439 : (2 < t422.length) = True := eq_true (by omega)
                               (try rw [show ((2 : Int)).toNat = 2 from rfl] at hx439_0)
                               (try rw [show 2 * 6 = 12 from rfl] at hx439_0)
                               (try rw [show ((2 : Int)).toNat = 2 from rfl] at hx439_1)
                               (try rw [show 2 * 6 = 12 from rfl] at hx439_1)
                               (try rw [show ((2 : Int)).toNat = 2 from rfl] at hx439_2)
                               (try rw [show 2 * 6 = 12 from rfl] at hx439_2)
                               (try rw [show ((2 : Int)).toNat = 2 from rfl] at hx439_3)
                               (try rw [show 2 * 6 = 12 from rfl] at hx439_3)
                               (try rw [show ((2 : Int)).toNat = 2 from rfl] at hx439_4)
                               (try rw [show 2 * 6 = 12 from rfl] at hx439_4)
                               (try rw [show ((2 : Int)).toNat = 2 from rfl] at hx439_5)
                               (try rw [show 2 * 6 = 12 from rfl] at hx439_5)
                               replace p439 := eq_true p439
                               replace q439 := eq_true q439
                               have p440 : 0 ≤ (0 : Int) := (by omega)
                               have q440 : 0 < (t422.length : Int) := of_decide_eq_true (by first | (with_reducible assumption) | assumption)
                               obtain ⟨ad440, e440, hx440_0, hx440_1, hx440_2, hx440_3, hx440_4, hx440_5⟩ := at_T40 (Kd.R_reads' HO_9.out).2.2 0 p440 q440
                               obtain rfl : ad437 = ad440 := (by injection e440)
                               have qi440 : (0 < t422.length) = True := eq_true (by omega)
                               (try rw [show ((0 : Int)).toNat = 0 from rfl] at hx440_0)
                               (try rw [show 0 * 6 = 0 from rfl] at hx440_0)
                               (try rw [Addr.add_zero'] at hx440_0)
                               (try rw [show ((0 : Int)).toNat = 0 from rfl] at hx440_1)
                               (try rw [show 0 * 6 = 0 from rfl] at hx440_1)
                               (try rw [Addr.add_zero'] at hx440_1)
                               (try rw [show ((0 : Int)).toNat = 0 from rfl] at hx440_2)
                               (try rw [show 0 * 6 = 0 from rfl] at hx440_2)
                               (try rw [Addr.add_zero'] at hx440_2)
                               (try rw [show ((0 : Int)).toNat = 0 from rfl] at hx440_3)
                               (try rw [show 0 * 6 = 0 from rfl] at hx440_3)
                               (try rw [Addr.add_zero'] at hx440_3)
                               (try rw [show ((0 : Int)).toNat = 0 from rfl] at hx440_4)
                               (try rw [show 0 * 6 = 0 from rfl] at hx440_4)
                               (try rw [Addr.add_zero'] at hx440_4)
                               (try rw [show ((0 : Int)).toNat = 0 from rfl] at hx440_5)
                               (try rw [show 0 * 6 = 0 from rfl] at hx440_5)
                               (try rw [Addr.add_zero'] at hx440_5)
                               replace p440 := eq_true p440
                               replace q440 := eq_true q440
                               have p441 : 0 ≤ (1 : Int) := (by omega)
                               have q441 : 1 < (t422.length : Int) := of_decide_eq_true (by first | (with_reducible assumption) | assumption)
                               obtain ⟨ad441, e441, hx441_0, hx441_1, hx441_2, hx441_3, hx441_4, hx441_5⟩ := at_T40 (Kd.R_reads' HO_9.out).2.2 1 p441 q441
                               obtain rfl : ad437 = ad441 := (by injection e441)
                               (try simp only [show (1 : Int).toNat = 1 from rfl, Nat.reduceMul, Nat.reduceEqDiff, Go.Addr.add, ↓reduceIte] at hx441_0)
                               (try simp only [show (1 : Int).toNat = 1 from rfl, Nat.reduceMul, Nat.reduceEqDiff, Go.Addr.add, ↓reduceIte] at hx441_1)
                               (try simp only [show (1 : Int).toNat = 1 from rfl, Nat.reduceMul, Nat.reduceEqDiff, Go.Addr.add, ↓reduceIte] at hx441_2)
                               (try simp only [show (1 : Int).toNat = 1 from rfl, Nat.reduceMul, Nat.reduceEqDiff, Go.Addr.add, ↓reduceIte] at hx441_3)
                               (try simp only [show (1 : Int).toNat = 1 from rfl, Nat.reduceMul, Nat.reduceEqDiff, Go.Addr.add, ↓reduceIte] at hx441_4)
                               (try simp only [show (1 : Int).toNat = 1 from rfl, Nat.reduceMul, Nat.reduceEqDiff, Go.Addr.add, ↓reduceIte] at hx441_5)
                               have qi441 : (1 < t422.length) = True := eq_true (by omega)
                               (try rw [show ((1 : Int)).toNat = 1 from rfl] at hx441_0)
                               (try rw [show 1 * 6 = 6 from rfl] at hx441_0)
                               (try rw [show ((1 : Int)).toNat = 1 from rfl] at hx441_1)
                               (try rw [show 1 * 6 = 6 from rfl] at hx441_1)
                               (try rw [show ((1 : Int)).toNat = 1 from rfl] at hx441_2)
                               (try rw [show 1 * 6 = 6 from rfl] at hx441_2)
                               (try rw [show ((1 : Int)).toNat = 1 from rfl] at hx441_3)
                               (try rw [show 1 * 6 = 6 from rfl] at hx441_3)
                               (try rw [show ((1 : Int)).toNat = 1 from rfl] at hx441_4)
                               (try rw [show 1 * 6 = 6 from rfl] at hx441_4)
                               (try rw [show ((1 : Int)).toNat = 1 from rfl] at hx441_5)
                               (try rw [show 1 * 6 = 6 from rfl] at hx441_5)
                               replace p441 := eq_true p441
                               replace q441 := eq_true q441
                               have p442 : 0 ≤ (2 : Int) := (by omega)
                               have q442 : 2 < (t422.length : Int) := of_decide_eq_true (by first | (with_reducible assumption) | assumption)
                               obtain ⟨ad442, e442, hx442_0, hx442_1, hx442_2, hx442_3, hx442_4, hx442_5⟩ := at_T40 (Kd.R_reads' HO_9.out).2.2 2 p442 q442
                               obtain rfl : ad437 = ad442 := (by injection e442)
                               (try simp only [show (2 : Int).toNat = 2 from rfl, Nat.reduceMul, Nat.reduceEqDiff, Go.Addr.add, ↓reduceIte] at hx442_0)
                               (try simp only [show (2 : Int).toNat = 2 from rfl, Nat.reduceMul, Nat.reduceEqDiff, Go.Addr.add, ↓reduceIte] at hx442_1)
                               (try simp only [show (2 : Int).toNat = 2 from rfl, Nat.reduceMul, Nat.reduceEqDiff, Go.Addr.add, ↓reduceIte] at hx442_2)
                               (try simp only [show (2 : Int).toNat = 2 from rfl, Nat.reduceMul, Nat.reduceEqDiff, Go.Addr.add, ↓reduceIte] at hx442_3)
                               (try simp only [show (2 : Int).toNat = 2 from rfl, Nat.reduceMul, Nat.reduceEqDiff, Go.Addr.add, ↓reduceIte] at hx442_4)
                               (try simp only [show (2 : Int).toNat = 2 from rfl, Nat.reduceMul, Nat.reduceEqDiff, Go.Addr.add, ↓reduceIte] at hx442_5)
                               have qi442 : (2 < t422.length) = True := eq_true (by omega)
                               (try rw [show ((2 : Int)).toNat = 2 from rfl] at hx442_0)
                               (try rw [show 2 * 6 = 12 from rfl] at hx442_0)
                               (try rw [show ((2 : Int)).toNat = 2 from rfl] at hx442_1)
                               (try rw [show 2 * 6 = 12 from rfl] at hx442_1)
                               (try rw [show ((2 : Int)).toNat = 2 from rfl] at hx442_2)
                               (try rw [show 2 * 6 = 12 from rfl] at hx442_2)
                               (try rw [show ((2 : Int)).toNat = 2 from rfl] at hx442_3)
                               (try rw [show 2 * 6 = 12 from rfl] at hx442_3)
                               (try rw [show ((2 : Int)).toNat = 2 from rfl] at hx442_4)
                               (try rw [show 2 * 6 = 12 from rfl] at hx442_4)
                               (try rw [show ((2 : Int)).toNat = 2 from rfl] at hx442_5)
                               (try rw [show 2 * 6 = 12 from rfl] at hx442_5)
                               replace p442 := eq_true p442
                               replace q442 := eq_true q442
                               go_wp2_with (first | (go_at_call 15; (with_reducible refine (mortiselaw02_heads.calls kj28  t443 _ ?side1 A60.out).mono ?_); (case side1 => exact GInv.below HG.out (by repeat (first | (with_reducible first | exact HB.out | apply below_alloc | apply pw_below_drewN | apply below_drew1 | refine below_set ?_ GE429.out) | exact HB.out))); rintro e w62 ⟨rfl, hb⟩; have n0_ := Aside0.mk (Kd.R_below (by (with_reducible repeat (first | apply Kd.R_alloc | apply Kd.R_drewN | apply Kd.R_drew)); exact HO_9.out) hb); have n1_ := Aside0.mk (blk_below (g := gb429) (o := .cells #[.int .i64 t425, .int .i64 t426, .int .i64 t427, .int .i64 t428] 34 (0, 0)) (by (with_reducible repeat (first | refine blk_drewN ?_ _ | refine blk_drew ?_ | refine blk_alloc ?_ _)); exact BK429.out) hb); have n2_ := Aside0.mk (below_step (by repeat (first | (with_reducible first | exact HB.out | apply below_alloc | apply pw_below_drewN | apply below_drew1 | refine below_set ?_ GE429.out) | exact HB.out)) hb); clear HO_9; clear BK429; clear HB; have HO_9 := n0_; have BK429 := n1_; have HB := n2_; clear n0_ n1_ n2_; (try clear hb); (try clear hb2); (try clear hk); (try clear hi)))
                               go_ret
                               exact ⟨by first | rfl | (simp [errW_none, errW_some] <;> rfl) | (simp [*, errW_none, errW_some] <;> rfl), by repeat (first | (with_reducible first | exact HB.out | apply below_alloc | apply pw_below_drewN | apply below_drew1 | refine below_set ?_ GE429.out) | exact HB.out)⟩
                              ·
                               rw [if_neg c59] at H
                               exact absurd H (by simp)
                             ·
                              rw [if_neg c58] at H
                              exact absurd H (by simp)
                            ·
                             rw [if_neg c57] at H
                             exact absurd H (by simp)
                           ·
                            rw [if_neg c56] at H
                            exact absurd H (by simp)
                          ·
                           rw [if_neg c55] at H
                           exact absurd H (by simp)
                         ·
                          rw [if_neg c54] at H
                          exact absurd H (by simp)
                        ·
                         rw [if_neg c53] at H
                         exact absurd H (by simp)
                       ·
                        rw [if_neg c52] at H
                        exact absurd H (by simp)
                      ·
                       rw [if_neg c51] at H
                       exact absurd H (by simp)
                 ·
                  rw [if_neg c27] at H
                  exact absurd H (by simp)
                ·
                 rw [if_neg c26] at H
                 exact absurd H (by simp)
               ·
                rw [if_neg c25] at H
                exact absurd H (by simp)
              ·
               rw [if_neg c24] at H
               exact absurd H (by simp)
             ·
              rw [if_neg c23] at H
              exact absurd H (by simp)
            ·
             rw [if_neg c22] at H
             exact absurd H (by simp)

end Go.Proofs.YtpfjkpknljigmaaDoor.Q
