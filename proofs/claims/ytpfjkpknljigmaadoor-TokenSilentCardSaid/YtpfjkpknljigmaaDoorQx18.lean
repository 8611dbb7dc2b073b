-- Written by a program of this session (qprint.py) out of the translation; the kernel checks it.
import Derived.Test.YtpfjkpknljigmaaDoorQx0
import Derived.Test.YtpfjkpknljigmaaDoorQx2
import Derived.Test.YtpfjkpknljigmaaDoorQx7
import Derived.Test.YtpfjkpknljigmaaDoorQx14
import Derived.Test.YtpfjkpknljigmaaDoorQx16
import Derived.Test.YtpfjkpknljigmaaDoorH0
import Derived.Test.YtpfjkpknljigmaaDoorH3
namespace Go.Proofs.YtpfjkpknljigmaaDoor.Q
open Go.RowKit Go.Proofs.YtpfjkpknljigmaaDoorW.PrintWords Go.Proofs.YtpfjkpknljigmaaDoorW.PrintLast Go.Proofs.YtpfjkpknljigmaaDoorW.PrintMore
attribute [local go_sem] max2_int min2_int max_two min_two max_three min_three max_four min_four   -- for this text's walks alone
set_option linter.unusedVariables false
set_option linter.unusedSimpArgs false

attribute [local go_sem high] eqA34
/-! ### mortiselaw02_TokenSilent: function 5 -/
mutual
def mortiselaw02_TokenSilent.l0 : Nat → List Int → List (S40) → List ByteArray → ByteArray → Int → Option (Bool)
 | 0, _, _, _, _, _ => none
 | k + 1, x1, x5, x7, x8, x9 => if x9 < (x5.length : Int) then (mortiselaw02_TokenSilent.j1 k x1 x5 x7 x8 x9 (decide ((x8.size : Int) < 60000))) else (mortiselaw02_TokenSilent.j1 k x1 x5 x7 x8 x9 false)
def mortiselaw02_TokenSilent.j1 : Nat → List Int → List (S40) → List ByteArray → ByteArray → Int → Bool → Option (Bool)
 | 0, _, _, _, _, _, _ => none
 | k + 1, x1, x5, x7, x8, x9, x45 => if x45 = true then (if 0 ≤ x9 then (if x9 < (x5.length : Int) then ((token_Write.f k ((rd_T40 x5 x9).f0) ((rd_T40 x5 x9).f1) ((rd_T40 x5 x9).f2) ((rd_T40 x5 x9).f3.f0) ((rd_T40 x5 x9).f3.f1) ((rd_T40 x5 x9).f3.f2)).bind fun bt333 => ((mortiselaw02_num.f bt333.2).bind fun t335 => (if t335 = 0 then (if x9 < (x1.length : Int) then (if (x7.length : Int) = 0 then (none) else (if x8.size + bt333.1.size ≤ 9223372036854775807 then (if (x8 ++ bt333.1).size + 1 ≤ 9223372036854775807 then (if 0 ≤ (Int.tmod (wrap64 (rd x1 x9)) (x7.length : Int)) then (if (Int.tmod (wrap64 (rd x1 x9)) (x7.length : Int)) < (x7.length : Int) then (if ((x8 ++ bt333.1) ++ (⟨#[32]⟩ : ByteArray)).size + (rdOf ByteArray.empty x7 (Int.tmod (wrap64 (rd x1 x9)) (x7.length : Int))).size ≤ 9223372036854775807 then (mortiselaw02_TokenSilent.l0 k x1 x5 x7 (((x8 ++ bt333.1) ++ (⟨#[32]⟩ : ByteArray)) ++ (rdOf ByteArray.empty x7 (Int.tmod (wrap64 (rd x1 x9)) (x7.length : Int)))) (wrap64 (x9 + 1))) else (none)) else (none)) else (none)) else (none)) else (none))) else (if x8.size + bt333.1.size ≤ 9223372036854775807 then (if (x8 ++ bt333.1).size + 1 ≤ 9223372036854775807 then (if 0 < (x7.length : Int) then (if ((x8 ++ bt333.1) ++ (⟨#[32]⟩ : ByteArray)).size + (rdOf ByteArray.empty x7 0).size ≤ 9223372036854775807 then (mortiselaw02_TokenSilent.l0 k x1 x5 x7 (((x8 ++ bt333.1) ++ (⟨#[32]⟩ : ByteArray)) ++ (rdOf ByteArray.empty x7 0)) (wrap64 (x9 + 1))) else (none)) else (none)) else (none)) else (none))) else (none)))) else (none)) else (none)) else (if (x8.size : Int) ≥ 60000 then ((mortiselaw02_heads.f k).bind fun t339 => (some t339)) else ((token_Scan.f x8).bind fun bt340 => (if (bt340.2.1 == 0 && ((bt340.2.2.1 == 0 && (bt340.2.2.2.1 == 0 && (bt340.2.2.2.2 == 0))))) = true then ((mortiselaw02_plain.f k x5).bind fun t348 => ((mortiselaw02_plain.f k bt340.1).bind fun t351 => ((mortiselaw02_Same.f k t348 t351).bind fun t354 => (if t354 = true then ((mortiselaw02_heads.f k).bind fun t355 => (some t355)) else (none))))) else (none))))
end
def mortiselaw02_TokenSilent.f (k : Nat) (a0 : ByteArray) (l1 : List Int) : Option (Bool) := (token_Scan.f a0).bind fun bt318 => (if (!(bt318.2.1 == 0) || ((!(bt318.2.2.1 == 0) || (!(bt318.2.2.2.1 == 0) || (!(bt318.2.2.2.2 == 0)))))) = true then ((mortiselaw02_num.f bt318.2.1).bind fun t326 => (if t326 ≥ 20 then ((mortiselaw02_num.f bt318.2.1).bind fun t327 => (if t327 ≤ 26 then ((mortiselaw02_heads.f k).bind fun t328 => (some t328)) else (none))) else (none))) else (mortiselaw02_TokenSilent.l0 k l1 bt318.1 (([(⟨#[32]⟩ : ByteArray), (⟨#[10]⟩ : ByteArray), (⟨#[47, 42, 34, 42, 47]⟩ : ByteArray), (⟨#[9, 13, 11, 12, 32]⟩ : ByteArray), (⟨#[47, 47, 32, 39, 10]⟩ : ByteArray), (⟨#[47, 42, 42, 42, 47, 32, 47, 42, 42, 47]⟩ : ByteArray)] : List ByteArray)) (⟨#[10]⟩ : ByteArray) 0))
theorem mortiselaw02_TokenSilent.mono_l : ∀ k, (∀ y0 y1 y2 y3 y4, LeO (mortiselaw02_TokenSilent.l0 k y0 y1 y2 y3 y4) (mortiselaw02_TokenSilent.l0 (k + 1) y0 y1 y2 y3 y4)) ∧ (∀ y0 y1 y2 y3 y4 y5, LeO (mortiselaw02_TokenSilent.j1 k y0 y1 y2 y3 y4 y5) (mortiselaw02_TokenSilent.j1 (k + 1) y0 y1 y2 y3 y4 y5))
 | 0 => ⟨fun _ _ _ _ _ r h => by simp [mortiselaw02_TokenSilent.l0] at h, fun _ _ _ _ _ _ r h => by simp [mortiselaw02_TokenSilent.j1] at h⟩
 | k + 1 => by
  obtain ⟨ih0, ih1⟩ := mortiselaw02_TokenSilent.mono_l k
  refine ⟨?_, ?_⟩
  ·
   intro y0 y1 y2 y3 y4
   unfold mortiselaw02_TokenSilent.l0
   repeat' first
   | (with_reducible exact ih0 _ _ _ _ _)
   | (with_reducible exact ih1 _ _ _ _ _ _)
   | (with_reducible exact mortiselaw02_Same.mono _ _ _)
   | (with_reducible exact mortiselaw02_heads.mono _)
   | (with_reducible exact mortiselaw02_plain.mono _ _)
   | (with_reducible exact token_Write.mono _ _ _ _ _ _ _)
   | (with_reducible exact LeO.refl _)
   | (with_reducible exact LeO.none _)
   | (with_reducible refine LeO.ite ?_ ?_)
   | (with_reducible refine LeO.bind ?_ (fun _ => ?_))
   | exact ih0 _ _ _ _ _
   | exact ih1 _ _ _ _ _ _
   | exact mortiselaw02_Same.mono _ _ _
   | exact mortiselaw02_heads.mono _
   | exact mortiselaw02_plain.mono _ _
   | exact token_Write.mono _ _ _ _ _ _ _
   | exact LeO.none _
   | refine LeO.ite ?_ ?_
   | refine LeO.bind ?_ (fun _ => ?_)
  ·
   intro y0 y1 y2 y3 y4 y5
   unfold mortiselaw02_TokenSilent.j1
   repeat' first
   | (with_reducible exact ih0 _ _ _ _ _)
   | (with_reducible exact ih1 _ _ _ _ _ _)
   | (with_reducible exact mortiselaw02_Same.mono _ _ _)
   | (with_reducible exact mortiselaw02_heads.mono _)
   | (with_reducible exact mortiselaw02_plain.mono _ _)
   | (with_reducible exact token_Write.mono _ _ _ _ _ _ _)
   | (with_reducible exact LeO.refl _)
   | (with_reducible exact LeO.none _)
   | (with_reducible refine LeO.ite ?_ ?_)
   | (with_reducible refine LeO.bind ?_ (fun _ => ?_))
   | exact ih0 _ _ _ _ _
   | exact ih1 _ _ _ _ _ _
   | exact mortiselaw02_Same.mono _ _ _
   | exact mortiselaw02_heads.mono _
   | exact mortiselaw02_plain.mono _ _
   | exact token_Write.mono _ _ _ _ _ _ _
   | exact LeO.none _
   | refine LeO.ite ?_ ?_
   | refine LeO.bind ?_ (fun _ => ?_)
theorem mortiselaw02_TokenSilent.mono : ∀ a0 a1 k, LeO (mortiselaw02_TokenSilent.f k a0 a1) (mortiselaw02_TokenSilent.f (k + 1) a0 a1) := by
 intro a0 a1 k
 obtain ⟨ih0, ih1⟩ := mortiselaw02_TokenSilent.mono_l k
 unfold mortiselaw02_TokenSilent.f
 repeat' first
   | (with_reducible exact ih0 _ _ _ _ _)
   | (with_reducible exact ih1 _ _ _ _ _ _)
   | (with_reducible exact mortiselaw02_Same.mono _ _ _)
   | (with_reducible exact mortiselaw02_heads.mono _)
   | (with_reducible exact mortiselaw02_plain.mono _ _)
   | (with_reducible exact token_Write.mono _ _ _ _ _ _ _)
   | (with_reducible exact LeO.refl _)
   | (with_reducible exact LeO.none _)
   | (with_reducible refine LeO.ite ?_ ?_)
   | (with_reducible refine LeO.bind ?_ (fun _ => ?_))
   | exact ih0 _ _ _ _ _
   | exact ih1 _ _ _ _ _ _
   | exact mortiselaw02_Same.mono _ _ _
   | exact mortiselaw02_heads.mono _
   | exact mortiselaw02_plain.mono _ _
   | exact token_Write.mono _ _ _ _ _ _ _
   | exact LeO.none _
   | refine LeO.ite ?_ ?_
   | refine LeO.bind ?_ (fun _ => ?_)
set_option maxHeartbeats 2000000 in
set_option maxRecDepth 100000 in
theorem mortiselaw02_TokenSilent.calls (k : Nat) (a0 : ByteArray) (A1 : Option Addr) (c1 : Nat) (l1 : List Int) (r : Bool) (w : World) (hG : GInv w) (hr1 : Kd.C (Kd.int .u8) w A1 l1.length l1) (hc1 : l1.length ≤ c1) (h : mortiselaw02_TokenSilent.f k a0 l1 = some r) :
  Calls Tryd.prog 5 #[.string a0, .slice A1 l1.length c1] w fun e w' => e = .returned (.bool r) ∧ Below w.heap.size w w' := by
 have hu34 := Tryd.underlying34
 have hu40 := Tryd.underlying40
 have HR1 := Aside0.mk hr1
 have HC1 := Aside0.mk hc1
 clear hr1 hc1
 have HB := Aside0.mk (Below.refl w.heap.size w)
 have HG := Aside0.mk hG
 clear hG
 have H : ((token_Scan.f a0).bind fun bt318 => (if (!(bt318.2.1 == 0) || ((!(bt318.2.2.1 == 0) || (!(bt318.2.2.2.1 == 0) || (!(bt318.2.2.2.2 == 0)))))) = true then ((mortiselaw02_num.f bt318.2.1).bind fun t326 => (if t326 ≥ 20 then ((mortiselaw02_num.f bt318.2.1).bind fun t327 => (if t327 ≤ 26 then ((mortiselaw02_heads.f k).bind fun t328 => (some t328)) else (none))) else (none))) else (mortiselaw02_TokenSilent.l0 k l1 bt318.1 (([(⟨#[32]⟩ : ByteArray), (⟨#[10]⟩ : ByteArray), (⟨#[47, 42, 34, 42, 47]⟩ : ByteArray), (⟨#[9, 13, 11, 12, 32]⟩ : ByteArray), (⟨#[47, 47, 32, 39, 10]⟩ : ByteArray), (⟨#[47, 42, 42, 42, 47, 32, 47, 42, 42, 47]⟩ : ByteArray)] : List ByteArray)) (⟨#[10]⟩ : ByteArray) 0))) = some r := h
 clear h
 replace H := Option.bind_eq_some_iff.mp H
 obtain ⟨⟨t318, t321, t322, t323, t324⟩, A30, H⟩ := H
 replace H : (if (!(t321 == 0) || ((!(t322 == 0) || (!(t323 == 0) || (!(t324 == 0)))))) = true then ((mortiselaw02_num.f t321).bind fun t326 => (if t326 ≥ 20 then ((mortiselaw02_num.f t321).bind fun t327 => (if t327 ≤ 26 then ((mortiselaw02_heads.f k).bind fun t328 => (some t328)) else (none))) else (none))) else (mortiselaw02_TokenSilent.l0 k l1 t318 (([(⟨#[32]⟩ : ByteArray), (⟨#[10]⟩ : ByteArray), (⟨#[47, 42, 34, 42, 47]⟩ : ByteArray), (⟨#[9, 13, 11, 12, 32]⟩ : ByteArray), (⟨#[47, 47, 32, 39, 10]⟩ : ByteArray), (⟨#[47, 42, 42, 42, 47, 32, 47, 42, 42, 47]⟩ : ByteArray)] : List ByteArray)) (⟨#[10]⟩ : ByteArray) 0)) = some r := H
 have A3 := Aside0.mk A30
 clear A30
 by_cases c4 : (!(t321 == 0) || ((!(t322 == 0) || (!(t323 == 0) || (!(t324 == 0)))))) = true
 ·
  rw [if_pos c4] at H
  have c4b0 : (!(t321 == 0) || ((!(t322 == 0) || (!(t323 == 0) || (!(t324 == 0)))))) = true := c4
  clear c4
  replace H := Option.bind_eq_some_iff.mp H
  obtain ⟨t326, A50, H⟩ := H
  replace H : (if t326 ≥ 20 then ((mortiselaw02_num.f t321).bind fun t327 => (if t327 ≤ 26 then ((mortiselaw02_heads.f k).bind fun t328 => (some t328)) else (none))) else (none)) = some r := H
  have A5 := Aside0.mk A50
  clear A50
  by_cases c6 : t326 ≥ 20
  ·
   rw [if_pos c6] at H
   have c6b0 : decide (20 ≤ t326) = true := decide_eq_true c6
   clear c6
   replace H := Option.bind_eq_some_iff.mp H
   obtain ⟨t327, A70, H⟩ := H
   replace H : (if t327 ≤ 26 then ((mortiselaw02_heads.f k).bind fun t328 => (some t328)) else (none)) = some r := H
   have A7 := Aside0.mk A70
   clear A70
   by_cases c8 : t327 ≤ 26
   ·
    rw [if_pos c8] at H
    have c8b0 : decide (t327 ≤ 26) = true := decide_eq_true c8
    clear c8
    replace H := Option.bind_eq_some_iff.mp H
    obtain ⟨t328, A90, H⟩ := H
    replace H : (some t328) = some r := H
    have A9 := Aside0.mk A90
    clear A90
    obtain rfl := Option.some.inj H
    go_enter Tryd.func5, Tryd.ntmps5
    go_wp2_with (first | ((with_reducible refine gate_callee (f := 18) rfl ?_); refine goesL_ (some 17) rfl rfl Tryd.func18 (by kernel_rfl) rfl #[.string a0] rfl (by (try simp only [List.map_toArray, List.map_cons, List.map_nil]); first | done | rfl | (simp only [List.length_drop, List.length_take]; rfl)) ?_; (with_reducible refine (token_Scan.calls a0 t318 t321 t322 t323 t324 _ ?side1 A3.out).mono ?_); (case side1 => exact GInv.below HG.out (by repeat (first | (with_reducible first | exact HB.out | apply below_alloc | apply pw_below_drewN | apply below_drew1) | exact HB.out))); rintro e w10 ⟨v319, rfl, ho0, hb⟩; refine ⟨_, rfl, ?_⟩; have n0_ := Aside0.mk (Kd.R_lower ho0 (below_size (by repeat (first | (with_reducible first | exact HB.out | apply below_alloc | apply pw_below_drewN | apply below_drew1) | exact HB.out)))); have n1_ := Aside0.mk (below_step (by repeat (first | (with_reducible first | exact HB.out | apply below_alloc | apply pw_below_drewN | apply below_drew1) | exact HB.out)) hb); clear HB; have HO320 := n0_; have HB := n1_; clear n0_ n1_; (try clear hb); (try clear hb2); (try clear hk); (try clear hi); (try clear ho0)) | ((with_reducible refine gate_dst (N := 6) rfl ?_); refine box_event ?hg (N := 6) ?hd (cs := #[.int .i64 0, .int .i64 0, .int .i64 0, .int .i64 0]) (t := 34) ?hr ?_; (case hd => rfl); (case hg => rfl); (case hr => first | (go_simp; done) | (go_simp; rfl)); intro gb325 hg w11 hbox hb; have n0_ := Aside0.mk (Kd.R_below (by (with_reducible repeat (first | apply Kd.R_alloc | apply Kd.R_drewN | apply Kd.R_drew)); exact HO320.out) hb); have n1_ := Aside0.mk (below_step (by repeat (first | (with_reducible first | exact HB.out | apply below_alloc | apply pw_below_drewN | apply below_drew1) | exact HB.out)) hb); have n2_ := Aside0.mk (hbox); have n3_ := Aside0.mk ((by rw [hg]; exact (below_size (by repeat (first | (with_reducible first | exact HB.out | apply below_alloc | apply pw_below_drewN | apply below_drew1) | exact HB.out))) : w.heap.size ≤ gb325)); have n4_ := n3_; clear HO320; clear HB; have HO320 := n0_; have HB := n1_; have BK325 := n2_; have GW325 := n3_; have GE325 := n4_; clear n0_ n1_ n2_ n3_ n4_; clear hb hbox hg; have hcz12_0 : w11.cell? ⟨gb325, 0, none⟩ = some (.int .i64 0) := (blk_cell BK325.out 0).trans rfl; have hcz12_1 : w11.cell? ⟨gb325, 1, none⟩ = some (.int .i64 0) := (blk_cell BK325.out 1).trans rfl; have hcz12_2 : w11.cell? ⟨gb325, 2, none⟩ = some (.int .i64 0) := (blk_cell BK325.out 2).trans rfl; have hcz12_3 : w11.cell? ⟨gb325, 3, none⟩ = some (.int .i64 0) := (blk_cell BK325.out 3).trans rfl; have hfz12_0 := blk_frozen BK325.out 0; have hfz12_1 := blk_frozen BK325.out 1; have hfz12_2 := blk_frozen BK325.out 2; have hfz12_3 := blk_frozen BK325.out 3) | ((with_reducible refine gate_callee (f := 17) rfl ?_); refine goesL_ (some 25) rfl rfl Tryd.func17 (by kernel_rfl) rfl #[.int .i64 t321] rfl (by (try simp only [List.map_toArray, List.map_cons, List.map_nil]); first | done | rfl | (simp only [List.length_drop, List.length_take]; rfl)) ?_; (with_reducible refine (mortiselaw02_num.calls t321 t326 _ A5.out).mono ?_); rintro e w' ⟨rfl, ⟨nd, rfl⟩⟩; refine ⟨_, rfl, ?_⟩) | (go_at_call 17; (with_reducible refine (mortiselaw02_num.calls t321 t327 _ A7.out).mono ?_); rintro e w' ⟨rfl, ⟨nd, rfl⟩⟩) | (go_at_call 15; (with_reducible refine (mortiselaw02_heads.calls k  t328 _ ?side1 A9.out).mono ?_); (case side1 => exact GInv.below HG.out (by repeat (first | (with_reducible first | exact HB.out | apply below_alloc | apply pw_below_drewN | apply below_drew1 | refine below_set ?_ GE325.out) | exact HB.out))); rintro e w13 ⟨rfl, hb⟩; have n0_ := Aside0.mk (Kd.R_below (by (with_reducible repeat (first | apply Kd.R_alloc | apply Kd.R_drewN | apply Kd.R_drew)); exact (Kd.R_mono (Kd.R_far (p := ⟨gb325, 3, none⟩) (Kd.R_far (p := ⟨gb325, 2, none⟩) (Kd.R_far (p := ⟨gb325, 1, none⟩) (Kd.R_far (p := ⟨gb325, 0, none⟩) (Kd.R_types HO320.out BK325.out (by decide)) (fun _ hk => hk.2) (.int .i64 t321)) (fun _ hk => hk.2) (.int .i64 t322)) (fun _ hk => hk.2) (.int .i64 t323)) (fun _ hk => hk.2) (.int .i64 t324)) (fun _ h_ => h_.1))) hb); have n1_ := Aside0.mk (blk_below (g := gb325) (o := .cells #[.int .i64 t321, .int .i64 t322, .int .i64 t323, .int .i64 t324] 34 (0, 0)) (by (with_reducible repeat (first | refine blk_drewN ?_ _ | refine blk_drew ?_ | refine blk_alloc ?_ _)); refine blk_put (cs := #[.int .i64 t321, .int .i64 t322, .int .i64 t323, .int .i64 0]) ?_ 3 _ rfl; (with_reducible repeat (first | refine blk_drewN ?_ _ | refine blk_drew ?_ | refine blk_alloc ?_ _)); refine blk_put (cs := #[.int .i64 t321, .int .i64 t322, .int .i64 0, .int .i64 0]) ?_ 2 _ rfl; (with_reducible repeat (first | refine blk_drewN ?_ _ | refine blk_drew ?_ | refine blk_alloc ?_ _)); refine blk_put (cs := #[.int .i64 t321, .int .i64 0, .int .i64 0, .int .i64 0]) ?_ 1 _ rfl; (with_reducible repeat (first | refine blk_drewN ?_ _ | refine blk_drew ?_ | refine blk_alloc ?_ _)); refine blk_put (cs := #[.int .i64 0, .int .i64 0, .int .i64 0, .int .i64 0]) ?_ 0 _ rfl; (with_reducible repeat (first | refine blk_drewN ?_ _ | refine blk_drew ?_ | refine blk_alloc ?_ _)); exact BK325.out) hb); have n2_ := Aside0.mk (below_step (by repeat (first | (with_reducible first | exact HB.out | apply below_alloc | apply pw_below_drewN | apply below_drew1 | refine below_set ?_ GE325.out) | exact HB.out)) hb); clear HO320; clear BK325; clear HB; have HO320 := n0_; have BK325 := n1_; have HB := n2_; clear n0_ n1_ n2_; (try clear hb); (try clear hb2); (try clear hk); (try clear hi)))
    go_ret
    exact ⟨by first | rfl | (simp [errW_none, errW_some] <;> rfl) | (simp [*, errW_none, errW_some] <;> rfl), by repeat (first | (with_reducible first | exact HB.out | apply below_alloc | apply pw_below_drewN | apply below_drew1 | refine below_set ?_ GE325.out) | exact HB.out)⟩
   ·
    rw [if_neg c8] at H
    exact absurd H (by simp)
  ·
   rw [if_neg c6] at H
   exact absurd H (by simp)
 ·
  rw [if_neg c4] at H
  have c4b0 : (!(t321 == 0) || ((!(t322 == 0) || (!(t323 == 0) || (!(t324 == 0)))))) = false := by simpa using c4
  clear c4
  obtain ⟨y329, hy329⟩ : ∃ y_ : List ByteArray, y_ = (([(⟨#[32]⟩ : ByteArray), (⟨#[10]⟩ : ByteArray), (⟨#[47, 42, 34, 42, 47]⟩ : ByteArray), (⟨#[9, 13, 11, 12, 32]⟩ : ByteArray), (⟨#[47, 47, 32, 39, 10]⟩ : ByteArray), (⟨#[47, 42, 42, 42, 47, 32, 47, 42, 42, 47]⟩ : ByteArray)] : List ByteArray)) := ⟨_, rfl⟩
  replace H : (mortiselaw02_TokenSilent.l0 k l1 t318 y329 (⟨#[10]⟩ : ByteArray) 0) = some r := by first | (rw [hy329]; with_reducible exact H) | (have H2_ := (Option.bind_some _ _).symm.trans H; rw [hy329]; with_reducible exact H2_) | (have H2_ := (Option.bind_some _ _).symm.trans H; with_reducible exact H2_) | with_reducible exact H | (rw [hy329]; exact H) | exact H
  have Ny329 := Aside0.mk hy329
  clear hy329
  have H' := Aside0.mk H
  clear H
  go_enter Tryd.func5, Tryd.ntmps5
  go_wp2_with (first | ((with_reducible refine gate_callee (f := 18) rfl ?_); refine goesL_ (some 17) rfl rfl Tryd.func18 (by kernel_rfl) rfl #[.string a0] rfl (by (try simp only [List.map_toArray, List.map_cons, List.map_nil]); first | done | rfl | (simp only [List.length_drop, List.length_take]; rfl)) ?_; (with_reducible refine (token_Scan.calls a0 t318 t321 t322 t323 t324 _ ?side1 A3.out).mono ?_); (case side1 => exact GInv.below HG.out (by repeat (first | (with_reducible first | exact HB.out | apply below_alloc | apply pw_below_drewN | apply below_drew1) | exact HB.out))); rintro e w14 ⟨v319, rfl, ho0, hb⟩; refine ⟨_, rfl, ?_⟩; have n0_ := Aside0.mk (Kd.R_lower ho0 (below_size (by repeat (first | (with_reducible first | exact HB.out | apply below_alloc | apply pw_below_drewN | apply below_drew1) | exact HB.out)))); have n1_ := Aside0.mk (below_step (by repeat (first | (with_reducible first | exact HB.out | apply below_alloc | apply pw_below_drewN | apply below_drew1) | exact HB.out)) hb); clear HB; have HO320 := n0_; have HB := n1_; clear n0_ n1_; (try clear hb); (try clear hb2); (try clear hk); (try clear hi); (try clear ho0)) | ((with_reducible refine gate_dst (N := 6) rfl ?_); refine box_event ?hg (N := 6) ?hd (cs := #[.int .i64 0, .int .i64 0, .int .i64 0, .int .i64 0]) (t := 34) ?hr ?_; (case hd => rfl); (case hg => rfl); (case hr => first | (go_simp; done) | (go_simp; rfl)); intro gb325 hg w15 hbox hb; have n0_ := Aside0.mk (Kd.R_below (by (with_reducible repeat (first | apply Kd.R_alloc | apply Kd.R_drewN | apply Kd.R_drew)); exact HO320.out) hb); have n1_ := Aside0.mk (below_step (by repeat (first | (with_reducible first | exact HB.out | apply below_alloc | apply pw_below_drewN | apply below_drew1) | exact HB.out)) hb); have n2_ := Aside0.mk (hbox); have n3_ := Aside0.mk ((by rw [hg]; exact (below_size (by repeat (first | (with_reducible first | exact HB.out | apply below_alloc | apply pw_below_drewN | apply below_drew1) | exact HB.out))) : w.heap.size ≤ gb325)); have n4_ := n3_; clear HO320; clear HB; have HO320 := n0_; have HB := n1_; have BK325 := n2_; have GW325 := n3_; have GE325 := n4_; clear n0_ n1_ n2_ n3_ n4_; clear hb hbox hg; have hcz16_0 : w15.cell? ⟨gb325, 0, none⟩ = some (.int .i64 0) := (blk_cell BK325.out 0).trans rfl; have hcz16_1 : w15.cell? ⟨gb325, 1, none⟩ = some (.int .i64 0) := (blk_cell BK325.out 1).trans rfl; have hcz16_2 : w15.cell? ⟨gb325, 2, none⟩ = some (.int .i64 0) := (blk_cell BK325.out 2).trans rfl; have hcz16_3 : w15.cell? ⟨gb325, 3, none⟩ = some (.int .i64 0) := (blk_cell BK325.out 3).trans rfl; have hfz16_0 := blk_frozen BK325.out 0; have hfz16_1 := blk_frozen BK325.out 1; have hfz16_2 := blk_frozen BK325.out 2; have hfz16_3 := blk_frozen BK325.out 3) | ((with_reducible refine gate_dst (N := 36) rfl ?_); refine Kd.R_lit Kd.string _ 9 ?hg (N := 36) ?hd (xs := ([(⟨#[32]⟩ : ByteArray), (⟨#[10]⟩ : ByteArray), (⟨#[47, 42, 34, 42, 47]⟩ : ByteArray), (⟨#[9, 13, 11, 12, 32]⟩ : ByteArray), (⟨#[47, 47, 32, 39, 10]⟩ : ByteArray), (⟨#[47, 42, 42, 42, 47, 32, 47, 42, 42, 47]⟩ : ByteArray)] : List ByteArray)) (inner := [.string (⟨#[32]⟩ : ByteArray), .string (⟨#[10]⟩ : ByteArray), .string (⟨#[47, 42, 34, 42, 47]⟩ : ByteArray), .string (⟨#[9, 13, 11, 12, 32]⟩ : ByteArray), .string (⟨#[47, 47, 32, 39, 10]⟩ : ByteArray), .string (⟨#[47, 42, 42, 42, 47, 32, 47, 42, 42, 47]⟩ : ByteArray)]) (ok := fun _ => True) (okp := fun _ => True) ?hr ?hp (fun _ hk => hk) trivial (Below.refl _ _) (Nat.le_refl _) (by simp) ?_; (case hd => rfl); (case hg => rfl); (case hr => first | (go_simp; done) | (go_simp; rfl)); (case hp => exact (Reps.one (show Kd.M Kd.string _ _ _ (⟨#[32]⟩ : ByteArray) [.string (⟨#[32]⟩ : ByteArray)] from rfl) (Reps.one (show Kd.M Kd.string _ _ _ (⟨#[10]⟩ : ByteArray) [.string (⟨#[10]⟩ : ByteArray)] from rfl) (Reps.one (show Kd.M Kd.string _ _ _ (⟨#[47, 42, 34, 42, 47]⟩ : ByteArray) [.string (⟨#[47, 42, 34, 42, 47]⟩ : ByteArray)] from rfl) (Reps.one (show Kd.M Kd.string _ _ _ (⟨#[9, 13, 11, 12, 32]⟩ : ByteArray) [.string (⟨#[9, 13, 11, 12, 32]⟩ : ByteArray)] from rfl) (Reps.one (show Kd.M Kd.string _ _ _ (⟨#[47, 47, 32, 39, 10]⟩ : ByteArray) [.string (⟨#[47, 47, 32, 39, 10]⟩ : ByteArray)] from rfl) (Reps.one (show Kd.M Kd.string _ _ _ (⟨#[47, 42, 42, 42, 47, 32, 47, 42, 42, 47]⟩ : ByteArray) [.string (⟨#[47, 42, 42, 42, 47, 32, 47, 42, 42, 47]⟩ : ByteArray)] from rfl) (Reps.none _ _)))))))); intro v330 w17 ho18 hb hg_ hnew_; clear hg_ hnew_; (first | rw [← Ny329.out] at ho18 | (simp only [Int.reduceToNat] at ho18; rw [← Ny329.out] at ho18)); have n0_ := Aside0.mk (Kd.R_below (by (with_reducible repeat (first | apply Kd.R_alloc | apply Kd.R_drewN | apply Kd.R_drew)); exact (Kd.R_mono (Kd.R_far (p := ⟨gb325, 3, none⟩) (Kd.R_far (p := ⟨gb325, 2, none⟩) (Kd.R_far (p := ⟨gb325, 1, none⟩) (Kd.R_far (p := ⟨gb325, 0, none⟩) (Kd.R_types HO320.out BK325.out (by decide)) (fun _ hk => hk.2) (.int .i64 t321)) (fun _ hk => hk.2) (.int .i64 t322)) (fun _ hk => hk.2) (.int .i64 t323)) (fun _ hk => hk.2) (.int .i64 t324)) (fun _ h_ => h_.1))) hb); have n1_ := Aside0.mk (Kd.R_lower ho18 (below_size (by repeat (first | (with_reducible first | exact HB.out | apply below_alloc | apply pw_below_drewN | apply below_drew1 | refine below_set ?_ GE325.out) | exact HB.out)))); have n2_ := Aside0.mk (blk_below (g := gb325) (o := .cells #[.int .i64 t321, .int .i64 t322, .int .i64 t323, .int .i64 t324] 34 (0, 0)) (by (with_reducible repeat (first | refine blk_drewN ?_ _ | refine blk_drew ?_ | refine blk_alloc ?_ _)); refine blk_put (cs := #[.int .i64 t321, .int .i64 t322, .int .i64 t323, .int .i64 0]) ?_ 3 _ rfl; (with_reducible repeat (first | refine blk_drewN ?_ _ | refine blk_drew ?_ | refine blk_alloc ?_ _)); refine blk_put (cs := #[.int .i64 t321, .int .i64 t322, .int .i64 0, .int .i64 0]) ?_ 2 _ rfl; (with_reducible repeat (first | refine blk_drewN ?_ _ | refine blk_drew ?_ | refine blk_alloc ?_ _)); refine blk_put (cs := #[.int .i64 t321, .int .i64 0, .int .i64 0, .int .i64 0]) ?_ 1 _ rfl; (with_reducible repeat (first | refine blk_drewN ?_ _ | refine blk_drew ?_ | refine blk_alloc ?_ _)); refine blk_put (cs := #[.int .i64 0, .int .i64 0, .int .i64 0, .int .i64 0]) ?_ 0 _ rfl; (with_reducible repeat (first | refine blk_drewN ?_ _ | refine blk_drew ?_ | refine blk_alloc ?_ _)); exact BK325.out) hb); have n3_ := Aside0.mk (below_step (by repeat (first | (with_reducible first | exact HB.out | apply below_alloc | apply pw_below_drewN | apply below_drew1 | refine below_set ?_ GE325.out) | exact HB.out)) hb); clear HO320; clear BK325; clear HB; have HO320 := n0_; have HO331 := n1_; have BK325 := n2_; have HB := n3_; clear n0_ n1_ n2_ n3_; clear hb ho18))
  (try simp only [Act.put, List.setIfInBounds_toArray, List.set_cons_zero, List.set_cons_succ])
  go_loopg [8, 9] k (fun kq v8 v9 w' => ∃ (x8_1 : ByteArray) (x9_1 : Int), v8 = .string x8_1 ∧ v9 = .int .i64 x9_1 ∧ Aside0 (mortiselaw02_TokenSilent.l0 kq l1 t318 y329 x8_1 x9_1 = some r) ∧ Aside0 (kq ≤ k) ∧ Aside0 (Kd.R k40 40 w' w.heap.size (fun _ => True) v319 t318) ∧ Aside0 (Kd.R Kd.string 9 w' w.heap.size (fun _ => True) v330 y329) ∧ Aside0 (w'.heap[gb325]? = some (.cells #[.int .i64 t321, .int .i64 t322, .int .i64 t323, .int .i64 t324] 34 (0, 0))) ∧ Aside0 (Below w.heap.size w w'))
  case atStart => exact ⟨((⟨#[10]⟩ : ByteArray)), (0), (by first | rfl | (simp; done) | (simp [*]; done)), (by first | rfl | (simp; done) | (simp [*]; done)), H', ⟨Nat.le_refl _⟩, ⟨by (with_reducible repeat (first | apply Kd.R_alloc | apply Kd.R_drewN | apply Kd.R_drew)); exact HO320.out⟩, ⟨by (with_reducible repeat (first | apply Kd.R_alloc | apply Kd.R_drewN | apply Kd.R_drew)); exact HO331.out⟩, ⟨by (with_reducible repeat (first | refine blk_drewN ?_ _ | refine blk_drew ?_ | refine blk_alloc ?_ _)); exact BK325.out⟩, ⟨by repeat (first | (with_reducible first | exact HB.out | apply below_alloc | apply pw_below_drewN | apply below_drew1 | refine below_set ?_ GE325.out) | exact HB.out)⟩⟩
  case round =>
   clear H'
   try clear c1
   try clear p2
   try clear c4
   try clear c4b0
   try clear c5
   try clear c6
   try clear c6b0
   try clear c8
   try clear c8b0
   try clear c17
   try clear c18
   try clear hcz12_0
   try clear hcz12_1
   try clear hcz12_2
   try clear hcz12_3
   try clear hcz16_0
   try clear hcz16_1
   try clear hcz16_2
   try clear hcz16_3
   try clear hfz12_0
   try clear hfz12_1
   try clear hfz12_2
   try clear hfz12_3
   try clear hfz16_0
   try clear hfz16_1
   try clear hfz16_2
   try clear hfz16_3
   obtain ⟨x8_1, x9_1, rfl, rfl, HA, HK1, HO_5, HO_7, BK325, HB⟩ := hrel
   cases gk with
   | zero => exact absurd HA.out (by simp [mortiselaw02_TokenSilent.l0])
   | succ k1 =>
    have H := HA.out
    clear HA
    simp only [mortiselaw02_TokenSilent.l0] at H
    have HC19 := Aside0.mk H
    clear H
    go_upto_region 7 with (fail)
    go_cut [45] (fun v45 wc => ∃ (kq : Nat) (x45_18 : Bool), v45 = .bool x45_18 ∧ Aside0 (mortiselaw02_TokenSilent.j1 kq l1 t318 y329 x8_1 x9_1 x45_18 = some r) ∧ Aside0 (kq ≤ k1) ∧ Aside0 (Kd.R k40 40 wc w.heap.size (fun _ => True) v319 t318) ∧ Aside0 (Kd.R Kd.string 9 wc w.heap.size (fun _ => True) v330 y329) ∧ Aside0 (wc.heap[gb325]? = some (.cells #[.int .i64 t321, .int .i64 t322, .int .i64 t323, .int .i64 t324] 34 (0, 0))) ∧ Aside0 (Below w.heap.size w wc))
    case first =>
     have H := HC19.out
     clear HC19
     by_cases c20 : x9_1 < (t318.length : Int)
     ·
      rw [if_pos c20] at H
      have c20b0 : decide (x9_1 < (t318.length : Int)) = true := decide_eq_true c20
      clear c20
      (first | rw [c20b0] | (simp only [i64_w, i32_w]; rw [c20b0]) | skip)
      have H' := Aside0.mk H
      clear H
      obtain ⟨Ao21, co21, eo21⟩ := Kd.R_slice HO_5.out
      subst eo21
      go_wp2
      go_meet
      case rel => exact ⟨_, (decide ((x8_1.size : Int) < 60000)), (by first | rfl | (simp; done) | (simp [*]; done)), H', ⟨by have := HK1.out; first | omega | exact Nat.le_refl _⟩, ⟨by (with_reducible repeat (first | apply Kd.R_alloc | apply Kd.R_drewN | apply Kd.R_drew)); exact HO_5.out⟩, ⟨by (with_reducible repeat (first | apply Kd.R_alloc | apply Kd.R_drewN | apply Kd.R_drew)); exact HO_7.out⟩, ⟨by (with_reducible repeat (first | refine blk_drewN ?_ _ | refine blk_drew ?_ | refine blk_alloc ?_ _)); exact BK325.out⟩, ⟨by repeat (first | (with_reducible first | exact HB.out | apply below_alloc | apply pw_below_drewN | apply below_drew1 | refine below_set ?_ GE325.out) | exact HB.out)⟩⟩
     ·
      rw [if_neg c20] at H
      have c20b0 : decide (x9_1 < (t318.length : Int)) = false := decide_eq_false c20
      clear c20
      (first | rw [c20b0] | (simp only [i64_w, i32_w]; rw [c20b0]) | skip)
      have H' := Aside0.mk H
      clear H
      obtain ⟨Ao22, co22, eo22⟩ := Kd.R_slice HO_5.out
      subst eo22
      go_wp2
      go_meet
      case rel => exact ⟨_, (false), (by first | rfl | (simp; done) | (simp [*]; done)), H', ⟨by have := HK1.out; first | omega | exact Nat.le_refl _⟩, ⟨by (with_reducible repeat (first | apply Kd.R_alloc | apply Kd.R_drewN | apply Kd.R_drew)); exact HO_5.out⟩, ⟨by (with_reducible repeat (first | apply Kd.R_alloc | apply Kd.R_drewN | apply Kd.R_drew)); exact HO_7.out⟩, ⟨by (with_reducible repeat (first | refine blk_drewN ?_ _ | refine blk_drew ?_ | refine blk_alloc ?_ _)); exact BK325.out⟩, ⟨by repeat (first | (with_reducible first | exact HB.out | apply below_alloc | apply pw_below_drewN | apply below_drew1 | refine below_set ?_ GE325.out) | exact HB.out)⟩⟩
    case rest =>
     clear HC19
     try clear c1
     try clear c2
     try clear p2
     try clear c4
     try clear c4b0
     try clear c5
     try clear c6
     try clear c6b0
     try clear c8
     try clear c8b0
     try clear c17
     try clear c18
     try clear c20
     try clear c20b0
     try clear hcz12_0
     try clear hcz12_1
     try clear hcz12_2
     try clear hcz12_3
     try clear hcz16_0
     try clear hcz16_1
     try clear hcz16_2
     try clear hcz16_3
     try clear hfz12_0
     try clear hfz12_1
     try clear hfz12_2
     try clear hfz12_3
     try clear hfz16_0
     try clear hfz16_1
     try clear hfz16_2
     try clear hfz16_3
     try clear p2
     obtain ⟨kq, x45_18, rfl, HA, HJ18, HO_5, HO_7, BK325, HB⟩ := hcut
     cases kq with
     | zero => exact absurd HA.out (by simp [mortiselaw02_TokenSilent.j1])
     | succ kj18 =>
      have H := HA.out
      clear HA
      simp only [mortiselaw02_TokenSilent.j1] at H
      by_cases c23 : x45_18 = true
      ·
       subst c23
       have H1 : (if 0 ≤ x9_1 then (if x9_1 < (t318.length : Int) then ((token_Write.f kj18 ((rd_T40 t318 x9_1).f0) ((rd_T40 t318 x9_1).f1) ((rd_T40 t318 x9_1).f2) ((rd_T40 t318 x9_1).f3.f0) ((rd_T40 t318 x9_1).f3.f1) ((rd_T40 t318 x9_1).f3.f2)).bind fun bt333 => ((mortiselaw02_num.f bt333.2).bind fun t335 => (if t335 = 0 then (if x9_1 < (l1.length : Int) then (if (y329.length : Int) = 0 then (none) else (if x8_1.size + bt333.1.size ≤ 9223372036854775807 then (if (x8_1 ++ bt333.1).size + 1 ≤ 9223372036854775807 then (if 0 ≤ (Int.tmod (wrap64 (rd l1 x9_1)) (y329.length : Int)) then (if (Int.tmod (wrap64 (rd l1 x9_1)) (y329.length : Int)) < (y329.length : Int) then (if ((x8_1 ++ bt333.1) ++ (⟨#[32]⟩ : ByteArray)).size + (rdOf ByteArray.empty y329 (Int.tmod (wrap64 (rd l1 x9_1)) (y329.length : Int))).size ≤ 9223372036854775807 then (mortiselaw02_TokenSilent.l0 kj18 l1 t318 y329 (((x8_1 ++ bt333.1) ++ (⟨#[32]⟩ : ByteArray)) ++ (rdOf ByteArray.empty y329 (Int.tmod (wrap64 (rd l1 x9_1)) (y329.length : Int)))) (wrap64 (x9_1 + 1))) else (none)) else (none)) else (none)) else (none)) else (none))) else (if x8_1.size + bt333.1.size ≤ 9223372036854775807 then (if (x8_1 ++ bt333.1).size + 1 ≤ 9223372036854775807 then (if 0 < (y329.length : Int) then (if ((x8_1 ++ bt333.1) ++ (⟨#[32]⟩ : ByteArray)).size + (rdOf ByteArray.empty y329 0).size ≤ 9223372036854775807 then (mortiselaw02_TokenSilent.l0 kj18 l1 t318 y329 (((x8_1 ++ bt333.1) ++ (⟨#[32]⟩ : ByteArray)) ++ (rdOf ByteArray.empty y329 0)) (wrap64 (x9_1 + 1))) else (none)) else (none)) else (none)) else (none))) else (none)))) else (none)) else (none)) = some r := by rw [if_pos rfl] at H; exact H
       clear H
       have H := H1
       clear H1
       by_cases c24 : 0 ≤ x9_1
       ·
        rw [if_pos c24] at H
        have c24b0 : decide (0 ≤ x9_1) = true := decide_eq_true c24
        clear c24
        by_cases c25 : x9_1 < (t318.length : Int)
        ·
         rw [if_pos c25] at H
         have c25b0 : decide (x9_1 < (t318.length : Int)) = true := decide_eq_true c25
         clear c25
         replace H := Option.bind_eq_some_iff.mp H
         obtain ⟨⟨t333, t334⟩, A260, H⟩ := H
         replace H : ((mortiselaw02_num.f t334).bind fun t335 => (if t335 = 0 then (if x9_1 < (l1.length : Int) then (if (y329.length : Int) = 0 then (none) else (if x8_1.size + t333.size ≤ 9223372036854775807 then (if (x8_1 ++ t333).size + 1 ≤ 9223372036854775807 then (if 0 ≤ (Int.tmod (wrap64 (rd l1 x9_1)) (y329.length : Int)) then (if (Int.tmod (wrap64 (rd l1 x9_1)) (y329.length : Int)) < (y329.length : Int) then (if ((x8_1 ++ t333) ++ (⟨#[32]⟩ : ByteArray)).size + (rdOf ByteArray.empty y329 (Int.tmod (wrap64 (rd l1 x9_1)) (y329.length : Int))).size ≤ 9223372036854775807 then (mortiselaw02_TokenSilent.l0 kj18 l1 t318 y329 (((x8_1 ++ t333) ++ (⟨#[32]⟩ : ByteArray)) ++ (rdOf ByteArray.empty y329 (Int.tmod (wrap64 (rd l1 x9_1)) (y329.length : Int)))) (wrap64 (x9_1 + 1))) else (none)) else (none)) else (none)) else (none)) else (none))) else (if x8_1.size + t333.size ≤ 9223372036854775807 then (if (x8_1 ++ t333).size + 1 ≤ 9223372036854775807 then (if 0 < (y329.length : Int) then (if ((x8_1 ++ t333) ++ (⟨#[32]⟩ : ByteArray)).size + (rdOf ByteArray.empty y329 0).size ≤ 9223372036854775807 then (mortiselaw02_TokenSilent.l0 kj18 l1 t318 y329 (((x8_1 ++ t333) ++ (⟨#[32]⟩ : ByteArray)) ++ (rdOf ByteArray.empty y329 0)) (wrap64 (x9_1 + 1))) else (none)) else (none)) else (none)) else (none))) else (none))) = some r := H
         have A26 := Aside0.mk A260
         clear A260
         replace H := Option.bind_eq_some_iff.mp H
         obtain ⟨t335, A270, H⟩ := H
         replace H : (if t335 = 0 then (if x9_1 < (l1.length : Int) then (if (y329.length : Int) = 0 then (none) else (if x8_1.size + t333.size ≤ 9223372036854775807 then (if (x8_1 ++ t333).size + 1 ≤ 9223372036854775807 then (if 0 ≤ (Int.tmod (wrap64 (rd l1 x9_1)) (y329.length : Int)) then (if (Int.tmod (wrap64 (rd l1 x9_1)) (y329.length : Int)) < (y329.length : Int) then (if ((x8_1 ++ t333) ++ (⟨#[32]⟩ : ByteArray)).size + (rdOf ByteArray.empty y329 (Int.tmod (wrap64 (rd l1 x9_1)) (y329.length : Int))).size ≤ 9223372036854775807 then (mortiselaw02_TokenSilent.l0 kj18 l1 t318 y329 (((x8_1 ++ t333) ++ (⟨#[32]⟩ : ByteArray)) ++ (rdOf ByteArray.empty y329 (Int.tmod (wrap64 (rd l1 x9_1)) (y329.length : Int)))) (wrap64 (x9_1 + 1))) else (none)) else (none)) else (none)) else (none)) else (none))) else (if x8_1.size + t333.size ≤ 9223372036854775807 then (if (x8_1 ++ t333).size + 1 ≤ 9223372036854775807 then (if 0 < (y329.length : Int) then (if ((x8_1 ++ t333) ++ (⟨#[32]⟩ : ByteArray)).size + (rdOf ByteArray.empty y329 0).size ≤ 9223372036854775807 then (mortiselaw02_TokenSilent.l0 kj18 l1 t318 y329 (((x8_1 ++ t333) ++ (⟨#[32]⟩ : ByteArray)) ++ (rdOf ByteArray.empty y329 0)) (wrap64 (x9_1 + 1))) else (none)) else (none)) else (none)) else (none))) else (none)) = some r := H
         have A27 := Aside0.mk A270
         clear A270
         by_cases c28 : t335 = 0
         ·
          rw [if_pos c28] at H
          have c28b0 : (t335 == 0) = true := beq_iff_eq.mpr c28
          have c28b1 : (t335 != 0) = false := bne_eq_false_iff_eq.mpr c28
          clear c28
          by_cases c29 : x9_1 < (l1.length : Int)
          ·
           rw [if_pos c29] at H
           have c29b0 : decide (x9_1 < (l1.length : Int)) = true := decide_eq_true c29
           clear c29
           by_cases c30 : (y329.length : Int) = 0
           ·
            rw [if_pos c30] at H
            exact absurd H (by simp)
           ·
            rw [if_neg c30] at H
            have c30b0 : ((y329.length : Int) == 0) = false := beq_eq_false_iff_ne.mpr c30
            have c30b1 : ((y329.length : Int) != 0) = true := bne_iff_ne.mpr c30
            have c30b2 : ¬ (y329 = []) := fun h_ => c30 (by rw [h_]; rfl)
            by_cases c31 : x8_1.size + t333.size ≤ 9223372036854775807
            ·
             rw [if_pos c31] at H
             have c31b0 := eq_true c31
             have c31b1 : decide (x8_1.size + t333.size ≤ 9223372036854775807) = true := decide_eq_true c31
             try have c31b2 : (9223372036854775807 < x8_1.size + t333.size) = False := eq_false (Nat.not_lt.2 c31)
             by_cases c32 : (x8_1 ++ t333).size + 1 ≤ 9223372036854775807
             ·
              rw [if_pos c32] at H
              have c32b0 := eq_true c32
              have c32b1 : decide ((x8_1 ++ t333).size + 1 ≤ 9223372036854775807) = true := decide_eq_true c32
              try have c32b2 : (9223372036854775807 < (x8_1 ++ t333).size + 1) = False := eq_false (Nat.not_lt.2 c32)
              (try (have c32b3 := eq_false (Nat.not_lt.2 c32); simp at c32b3))
              obtain ⟨ji33, hji33⟩ : ∃ j_ : Int, (Int.tmod (wrap64 (rd l1 x9_1)) (y329.length : Int)) = j_ := ⟨_, rfl⟩
              replace H : (if 0 ≤ (ji33) then (if (ji33) < (y329.length : Int) then (if ((x8_1 ++ t333) ++ (⟨#[32]⟩ : ByteArray)).size + (rdOf ByteArray.empty y329 (ji33)).size ≤ 9223372036854775807 then (mortiselaw02_TokenSilent.l0 kj18 l1 t318 y329 (((x8_1 ++ t333) ++ (⟨#[32]⟩ : ByteArray)) ++ (rdOf ByteArray.empty y329 (ji33))) (wrap64 (x9_1 + 1))) else (none)) else (none)) else (none)) = some r := by first | (rw [hji33] at H; exact H) | (simp only [hji33] at H ⊢; exact H)
              (try rw [hji33] at A26)
              (try rw [hji33] at A27)
              by_cases c34 : 0 ≤ (ji33)
              ·
               rw [if_pos c34] at H
               have c34b0 : decide (0 ≤ (ji33)) = true := decide_eq_true c34
               clear c34
               by_cases c35 : (ji33) < (y329.length : Int)
               ·
                rw [if_pos c35] at H
                have c35b0 : decide ((ji33) < (y329.length : Int)) = true := decide_eq_true c35
                clear c35
                by_cases c36 : ((x8_1 ++ t333) ++ (⟨#[32]⟩ : ByteArray)).size + (rdOf ByteArray.empty y329 (ji33)).size ≤ 9223372036854775807
                ·
                 rw [if_pos c36] at H
                 have c36b0 := eq_true c36
                 have c36b1 : decide (((x8_1 ++ t333) ++ (⟨#[32]⟩ : ByteArray)).size + (rdOf ByteArray.empty y329 (ji33)).size ≤ 9223372036854775807) = true := decide_eq_true c36
                 try have c36b2 : (9223372036854775807 < ((x8_1 ++ t333) ++ (⟨#[32]⟩ : ByteArray)).size + (rdOf ByteArray.empty y329 (ji33)).size) = False := eq_false (Nat.not_lt.2 c36)
                 (try (have c36b3 := eq_false (Nat.not_lt.2 c36); simp at c36b3))
                 have H' := Aside0.mk H
                 clear H
                 obtain ⟨Ao37, co37, eo37⟩ := Kd.R_slice HO_5.out
                 subst eo37
                 have p332 : 0 ≤ (x9_1 : Int) := of_decide_eq_true (by first | (with_reducible assumption) | assumption)
                 have q332 : x9_1 < (t318.length : Int) := of_decide_eq_true (by first | (with_reducible assumption) | assumption)
                 obtain ⟨ad332, e332, hx332_0, hx332_1, hx332_2, hx332_3, hx332_4, hx332_5⟩ := at_T40 (Kd.R_reads' HO_5.out).2.2 x9_1 p332 q332
                 cases e332
                 replace p332 := eq_true p332
                 replace q332 := eq_true q332
                 go_wp2_with (first | ((with_reducible refine gate_callee (f := 21) rfl ?_); refine goesL_ (some 53) rfl rfl Tryd.func21 (by kernel_rfl) rfl #[.agg #[.int .i64 ((rd_T40 t318 x9_1).f0), .string ((rd_T40 t318 x9_1).f1), .int .i64 ((rd_T40 t318 x9_1).f2), .int .i64 ((rd_T40 t318 x9_1).f3.f0), .int .i64 ((rd_T40 t318 x9_1).f3.f1), .int .i64 ((rd_T40 t318 x9_1).f3.f2)]] rfl (by (try simp only [List.map_toArray, List.map_cons, List.map_nil]); first | done | rfl | (simp only [List.length_drop, List.length_take]; rfl)) ?_; (with_reducible refine (token_Write.calls kj18 ((rd_T40 t318 x9_1).f0) ((rd_T40 t318 x9_1).f1) ((rd_T40 t318 x9_1).f2) ((rd_T40 t318 x9_1).f3.f0) ((rd_T40 t318 x9_1).f3.f1) ((rd_T40 t318 x9_1).f3.f2) t333 t334 _ ?side1 A26.out).mono ?_); (case side1 => exact GInv.below HG.out (by repeat (first | (with_reducible first | exact HB.out | apply below_alloc | apply pw_below_drewN | apply below_drew1 | refine below_set ?_ GE325.out) | exact HB.out))); rintro e w38 ⟨rfl, hb⟩; refine ⟨_, rfl, ?_⟩; have n0_ := Aside0.mk (Kd.R_below (by (with_reducible repeat (first | apply Kd.R_alloc | apply Kd.R_drewN | apply Kd.R_drew)); exact HO_5.out) hb); have n1_ := Aside0.mk (Kd.R_below (by (with_reducible repeat (first | apply Kd.R_alloc | apply Kd.R_drewN | apply Kd.R_drew)); exact HO_7.out) hb); have n2_ := Aside0.mk (blk_below (g := gb325) (o := .cells #[.int .i64 t321, .int .i64 t322, .int .i64 t323, .int .i64 t324] 34 (0, 0)) (by (with_reducible repeat (first | refine blk_drewN ?_ _ | refine blk_drew ?_ | refine blk_alloc ?_ _)); exact BK325.out) hb); have n3_ := Aside0.mk (below_step (by repeat (first | (with_reducible first | exact HB.out | apply below_alloc | apply pw_below_drewN | apply below_drew1 | refine below_set ?_ GE325.out) | exact HB.out)) hb); clear HO_5; clear HO_7; clear BK325; clear HB; have HO_5 := n0_; have HO_7 := n1_; have BK325 := n2_; have HB := n3_; clear n0_ n1_ n2_ n3_; (try clear hb); (try clear hb2); (try clear hk); (try clear hi)) | ((with_reducible refine gate_callee (f := 17) rfl ?_); refine goesL_ (some 57) rfl rfl Tryd.func17 (by kernel_rfl) rfl #[.int .i64 t334] rfl (by (try simp only [List.map_toArray, List.map_cons, List.map_nil]); first | done | rfl | (simp only [List.length_drop, List.length_take]; rfl)) ?_; (with_reducible refine (mortiselaw02_num.calls t334 t335 _ A27.out).mono ?_); rintro e w' ⟨rfl, ⟨nd, rfl⟩⟩; refine ⟨_, rfl, ?_⟩; have p336 : 0 ≤ (x9_1 : Int) := of_decide_eq_true (by first | (with_reducible assumption) | assumption); have q336 : x9_1 < (l1.length : Int) := of_decide_eq_true (by first | (with_reducible assumption) | assumption); obtain ⟨ad336, e336, hx336_0⟩ := Kd.at_int HR1.out x9_1 p336 q336; cases e336; replace hx336_0 := (HB.out.cell (World.block_lt_of_cell? w _ hx336_0)).trans hx336_0; replace p336 := eq_true p336; replace q336 := eq_true q336; obtain ⟨Ao39, co39, eo39⟩ := Kd.R_slice HO_7.out; subst eo39; have p337 : 0 ≤ ((ji33) : Int) := of_decide_eq_true (by first | (with_reducible assumption) | assumption); have q337 : (ji33) < (y329.length : Int) := of_decide_eq_true (by first | (with_reducible assumption) | assumption); obtain ⟨ad337, e337, hx337_0⟩ := Kd.at_string (Kd.R_reads' HO_7.out).2.2 (ji33) p337 q337; cases e337; replace p337 := eq_true p337; replace q337 := eq_true q337))
                 go_roundg kj18
                 case measure => have := HK1.out; have := HJ18.out; omega
                 case rel => exact ⟨(((x8_1 ++ t333) ++ (⟨#[32]⟩ : ByteArray)) ++ (rdOf ByteArray.empty y329 (ji33))), (wrap64 (x9_1 + 1)), (by first | rfl | (simp; done) | (simp only [← hji33] <;> (first | rfl | simp)) | (simp [*]; done)), (by first | rfl | (simp; done) | (simp [*]; done)), H', ⟨by have := HK1.out; have := HJ18.out; omega⟩, ⟨by (with_reducible repeat (first | apply Kd.R_alloc | apply Kd.R_drewN | apply Kd.R_drew)); exact HO_5.out⟩, ⟨by (with_reducible repeat (first | apply Kd.R_alloc | apply Kd.R_drewN | apply Kd.R_drew)); exact HO_7.out⟩, ⟨by (with_reducible repeat (first | refine blk_drewN ?_ _ | refine blk_drew ?_ | refine blk_alloc ?_ _)); exact BK325.out⟩, ⟨by repeat (first | (with_reducible first | exact HB.out | apply below_alloc | apply pw_below_drewN | apply below_drew1 | refine below_set ?_ GE325.out) | exact HB.out)⟩⟩
                ·
                 rw [if_neg c36] at H
                 exact absurd H (by simp)
               ·
                rw [if_neg c35] at H
                exact absurd H (by simp)
              ·
               rw [if_neg c34] at H
               exact absurd H (by simp)
             ·
              rw [if_neg c32] at H
              exact absurd H (by simp)
            ·
             rw [if_neg c31] at H
             exact absurd H (by simp)
          ·
           rw [if_neg c29] at H
           have c29b0 : decide (x9_1 < (l1.length : Int)) = false := decide_eq_false c29
           clear c29
           by_cases c40 : x8_1.size + t333.size ≤ 9223372036854775807
           ·
            rw [if_pos c40] at H
            have c40b0 := eq_true c40
            have c40b1 : decide (x8_1.size + t333.size ≤ 9223372036854775807) = true := decide_eq_true c40
            try have c40b2 : (9223372036854775807 < x8_1.size + t333.size) = False := eq_false (Nat.not_lt.2 c40)
            by_cases c41 : (x8_1 ++ t333).size + 1 ≤ 9223372036854775807
            ·
             rw [if_pos c41] at H
             have c41b0 := eq_true c41
             have c41b1 : decide ((x8_1 ++ t333).size + 1 ≤ 9223372036854775807) = true := decide_eq_true c41
             try have c41b2 : (9223372036854775807 < (x8_1 ++ t333).size + 1) = False := eq_false (Nat.not_lt.2 c41)
             (try (have c41b3 := eq_false (Nat.not_lt.2 c41); simp at c41b3))
             by_cases c42 : 0 < (y329.length : Int)
             ·
              rw [if_pos c42] at H
              have c42b0 : decide (0 < (y329.length : Int)) = true := decide_eq_true c42
              have c42b1 : decide (0 < y329.length) = true := decide_eq_true (by omega)
              clear c42
              by_cases c43 : ((x8_1 ++ t333) ++ (⟨#[32]⟩ : ByteArray)).size + (rdOf ByteArray.empty y329 0).size ≤ 9223372036854775807
              ·
               rw [if_pos c43] at H
               have c43b0 := eq_true c43
               have c43b1 : decide (((x8_1 ++ t333) ++ (⟨#[32]⟩ : ByteArray)).size + (rdOf ByteArray.empty y329 0).size ≤ 9223372036854775807) = true := decide_eq_true c43
               try have c43b2 : (9223372036854775807 < ((x8_1 ++ t333) ++ (⟨#[32]⟩ : ByteArray)).size + (rdOf ByteArray.empty y329 0).size) = False := eq_false (Nat.not_lt.2 c43)
               (try (have c43b3 := eq_false (Nat.not_lt.2 c43); simp at c43b3))
               have H' := Aside0.mk H
               clear H
               obtain ⟨Ao44, co44, eo44⟩ := Kd.R_slice HO_5.out
               subst eo44
               have p332 : 0 ≤ (x9_1 : Int) := of_decide_eq_true (by first | (with_reducible assumption) | assumption)
               have q332 : x9_1 < (t318.length : Int) := of_decide_eq_true (by first | (with_reducible assumption) | assumption)
               obtain ⟨ad332, e332, hx332_0, hx332_1, hx332_2, hx332_3, hx332_4, hx332_5⟩ := at_T40 (Kd.R_reads' HO_5.out).2.2 x9_1 p332 q332
               cases e332
               replace p332 := eq_true p332
               replace q332 := eq_true q332
               go_wp2_with (first | ((with_reducible refine gate_callee (f := 21) rfl ?_); refine goesL_ (some 53) rfl rfl Tryd.func21 (by kernel_rfl) rfl #[.agg #[.int .i64 ((rd_T40 t318 x9_1).f0), .string ((rd_T40 t318 x9_1).f1), .int .i64 ((rd_T40 t318 x9_1).f2), .int .i64 ((rd_T40 t318 x9_1).f3.f0), .int .i64 ((rd_T40 t318 x9_1).f3.f1), .int .i64 ((rd_T40 t318 x9_1).f3.f2)]] rfl (by (try simp only [List.map_toArray, List.map_cons, List.map_nil]); first | done | rfl | (simp only [List.length_drop, List.length_take]; rfl)) ?_; (with_reducible refine (token_Write.calls kj18 ((rd_T40 t318 x9_1).f0) ((rd_T40 t318 x9_1).f1) ((rd_T40 t318 x9_1).f2) ((rd_T40 t318 x9_1).f3.f0) ((rd_T40 t318 x9_1).f3.f1) ((rd_T40 t318 x9_1).f3.f2) t333 t334 _ ?side1 A26.out).mono ?_); (case side1 => exact GInv.below HG.out (by repeat (first | (with_reducible first | exact HB.out | apply below_alloc | apply pw_below_drewN | apply below_drew1 | refine below_set ?_ GE325.out) | exact HB.out))); rintro e w45 ⟨rfl, hb⟩; refine ⟨_, rfl, ?_⟩; have n0_ := Aside0.mk (Kd.R_below (by (with_reducible repeat (first | apply Kd.R_alloc | apply Kd.R_drewN | apply Kd.R_drew)); exact HO_5.out) hb); have n1_ := Aside0.mk (Kd.R_below (by (with_reducible repeat (first | apply Kd.R_alloc | apply Kd.R_drewN | apply Kd.R_drew)); exact HO_7.out) hb); have n2_ := Aside0.mk (blk_below (g := gb325) (o := .cells #[.int .i64 t321, .int .i64 t322, .int .i64 t323, .int .i64 t324] 34 (0, 0)) (by (with_reducible repeat (first | refine blk_drewN ?_ _ | refine blk_drew ?_ | refine blk_alloc ?_ _)); exact BK325.out) hb); have n3_ := Aside0.mk (below_step (by repeat (first | (with_reducible first | exact HB.out | apply below_alloc | apply pw_below_drewN | apply below_drew1 | refine below_set ?_ GE325.out) | exact HB.out)) hb); clear HO_5; clear HO_7; clear BK325; clear HB; have HO_5 := n0_; have HO_7 := n1_; have BK325 := n2_; have HB := n3_; clear n0_ n1_ n2_ n3_; (try clear hb); (try clear hb2); (try clear hk); (try clear hi)) | ((with_reducible refine gate_callee (f := 17) rfl ?_); refine goesL_ (some 57) rfl rfl Tryd.func17 (by kernel_rfl) rfl #[.int .i64 t334] rfl (by (try simp only [List.map_toArray, List.map_cons, List.map_nil]); first | done | rfl | (simp only [List.length_drop, List.length_take]; rfl)) ?_; (with_reducible refine (mortiselaw02_num.calls t334 t335 _ A27.out).mono ?_); rintro e w' ⟨rfl, ⟨nd, rfl⟩⟩; refine ⟨_, rfl, ?_⟩; obtain ⟨Ao46, co46, eo46⟩ := Kd.R_slice HO_7.out; subst eo46; have p338 : 0 ≤ (0 : Int) := (by omega); have q338 : 0 < (y329.length : Int) := of_decide_eq_true (by first | (with_reducible assumption) | assumption); obtain ⟨ad338, e338, hx338_0⟩ := Kd.at_string (Kd.R_reads' HO_7.out).2.2 0 p338 q338; cases e338; have qi338 : (0 < y329.length) = True := eq_true (by omega); (try rw [show ((0 : Int)).toNat = 0 from rfl] at hx338_0); (try rw [Addr.add_zero'] at hx338_0); replace p338 := eq_true p338; replace q338 := eq_true q338))
               go_roundg kj18
               case measure => have := HK1.out; have := HJ18.out; omega
               case rel => exact ⟨(((x8_1 ++ t333) ++ (⟨#[32]⟩ : ByteArray)) ++ (rdOf ByteArray.empty y329 0)), (wrap64 (x9_1 + 1)), (by first | rfl | (simp; done) | (simp [*]; done)), (by first | rfl | (simp; done) | (simp [*]; done)), H', ⟨by have := HK1.out; have := HJ18.out; omega⟩, ⟨by (with_reducible repeat (first | apply Kd.R_alloc | apply Kd.R_drewN | apply Kd.R_drew)); exact HO_5.out⟩, ⟨by (with_reducible repeat (first | apply Kd.R_alloc | apply Kd.R_drewN | apply Kd.R_drew)); exact HO_7.out⟩, ⟨by (with_reducible repeat (first | refine blk_drewN ?_ _ | refine blk_drew ?_ | refine blk_alloc ?_ _)); exact BK325.out⟩, ⟨by repeat (first | (with_reducible first | exact HB.out | apply below_alloc | apply pw_below_drewN | apply below_drew1 | refine below_set ?_ GE325.out) | exact HB.out)⟩⟩
              ·
               rw [if_neg c43] at H
               exact absurd H (by simp)
             ·
              rw [if_neg c42] at H
              exact absurd H (by simp)
            ·
             rw [if_neg c41] at H
             exact absurd H (by simp)
           ·
            rw [if_neg c40] at H
            exact absurd H (by simp)
         ·
          rw [if_neg c28] at H
          exact absurd H (by simp)
        ·
         rw [if_neg c25] at H
         exact absurd H (by simp)
       ·
        rw [if_neg c24] at H
        exact absurd H (by simp)
      ·
       replace c23 := Bool.eq_false_iff.mpr c23
       subst c23
       have H1 : (if (x8_1.size : Int) ≥ 60000 then ((mortiselaw02_heads.f kj18).bind fun t339 => (some t339)) else ((token_Scan.f x8_1).bind fun bt340 => (if (bt340.2.1 == 0 && ((bt340.2.2.1 == 0 && (bt340.2.2.2.1 == 0 && (bt340.2.2.2.2 == 0))))) = true then ((mortiselaw02_plain.f kj18 t318).bind fun t348 => ((mortiselaw02_plain.f kj18 bt340.1).bind fun t351 => ((mortiselaw02_Same.f kj18 t348 t351).bind fun t354 => (if t354 = true then ((mortiselaw02_heads.f kj18).bind fun t355 => (some t355)) else (none))))) else (none)))) = some r := by rw [if_neg (show ¬ (false = true) by decide)] at H; exact H
       clear H
       have H := H1
       clear H1
       by_cases c47 : (x8_1.size : Int) ≥ 60000
       ·
        rw [if_pos c47] at H
        have c47b0 : decide (60000 ≤ (x8_1.size : Int)) = true := decide_eq_true c47
        have c47b1 : decide (60000 ≤ x8_1.size) = true := decide_eq_true (by omega)
        clear c47
        replace H := Option.bind_eq_some_iff.mp H
        obtain ⟨t339, A480, H⟩ := H
        replace H : (some t339) = some r := H
        have A48 := Aside0.mk A480
        clear A480
        obtain rfl := Option.some.inj H
        go_wp2_with (first | ((with_reducible refine gate_callee (f := 15) rfl ?_); refine goesL_ (some 83) rfl rfl Tryd.func15 (by kernel_rfl) rfl #[] rfl (by (try simp only [List.map_toArray, List.map_cons, List.map_nil]); first | done | rfl | (simp only [List.length_drop, List.length_take]; rfl)) ?_; (with_reducible refine (mortiselaw02_heads.calls kj18  t339 _ ?side1 A48.out).mono ?_); (case side1 => exact GInv.below HG.out (by repeat (first | (with_reducible first | exact HB.out | apply below_alloc | apply pw_below_drewN | apply below_drew1 | refine below_set ?_ GE325.out) | exact HB.out))); rintro e w49 ⟨rfl, hb⟩; refine ⟨_, rfl, ?_⟩; have n0_ := Aside0.mk (Kd.R_below (by (with_reducible repeat (first | apply Kd.R_alloc | apply Kd.R_drewN | apply Kd.R_drew)); exact HO_5.out) hb); have n1_ := Aside0.mk (Kd.R_below (by (with_reducible repeat (first | apply Kd.R_alloc | apply Kd.R_drewN | apply Kd.R_drew)); exact HO_7.out) hb); have n2_ := Aside0.mk (blk_below (g := gb325) (o := .cells #[.int .i64 t321, .int .i64 t322, .int .i64 t323, .int .i64 t324] 34 (0, 0)) (by (with_reducible repeat (first | refine blk_drewN ?_ _ | refine blk_drew ?_ | refine blk_alloc ?_ _)); exact BK325.out) hb); have n3_ := Aside0.mk (below_step (by repeat (first | (with_reducible first | exact HB.out | apply below_alloc | apply pw_below_drewN | apply below_drew1 | refine below_set ?_ GE325.out) | exact HB.out)) hb); clear HO_5; clear HO_7; clear BK325; clear HB; have HO_5 := n0_; have HO_7 := n1_; have BK325 := n2_; have HB := n3_; clear n0_ n1_ n2_ n3_; (try clear hb); (try clear hb2); (try clear hk); (try clear hi)))
        go_ret
        exact ⟨by first | rfl | (simp [errW_none, errW_some] <;> rfl) | (simp [*, errW_none, errW_some] <;> rfl), by repeat (first | (with_reducible first | exact HB.out | apply below_alloc | apply pw_below_drewN | apply below_drew1 | refine below_set ?_ GE325.out) | exact HB.out)⟩
       ·
        rw [if_neg c47] at H
        have c47b0 : decide (60000 ≤ (x8_1.size : Int)) = false := decide_eq_false c47
        have c47b1 : decide (60000 ≤ x8_1.size) = false := decide_eq_false (by omega)
        clear c47
        replace H := Option.bind_eq_some_iff.mp H
        obtain ⟨⟨t340, t343, t344, t345, t346⟩, A500, H⟩ := H
        replace H : (if (t343 == 0 && ((t344 == 0 && (t345 == 0 && (t346 == 0))))) = true then ((mortiselaw02_plain.f kj18 t318).bind fun t348 => ((mortiselaw02_plain.f kj18 t340).bind fun t351 => ((mortiselaw02_Same.f kj18 t348 t351).bind fun t354 => (if t354 = true then ((mortiselaw02_heads.f kj18).bind fun t355 => (some t355)) else (none))))) else (none)) = some r := H
        have A50 := Aside0.mk A500
        clear A500
        by_cases c51 : (t343 == 0 && ((t344 == 0 && (t345 == 0 && (t346 == 0))))) = true
        ·
         rw [if_pos c51] at H
         have c51b0 : (t343 == 0 && ((t344 == 0 && (t345 == 0 && (t346 == 0))))) = true := c51
         (try (have c51b1 : decide (t343 = 0 && ((t344 == 0 && (t345 == 0 && (t346 == 0))))) = true := by simpa using c51))
         (try (have c51b2 : (t343 == 0 && ((t344 == 0 && (t345 == 0 && (t346 == 0))))) = true := by simpa using c51))
         clear c51
         replace H := Option.bind_eq_some_iff.mp H
         obtain ⟨t348, A520, H⟩ := H
         replace H : ((mortiselaw02_plain.f kj18 t340).bind fun t351 => ((mortiselaw02_Same.f kj18 t348 t351).bind fun t354 => (if t354 = true then ((mortiselaw02_heads.f kj18).bind fun t355 => (some t355)) else (none)))) = some r := H
         have A52 := Aside0.mk A520
         clear A520
         replace H := Option.bind_eq_some_iff.mp H
         obtain ⟨t351, A530, H⟩ := H
         replace H : ((mortiselaw02_Same.f kj18 t348 t351).bind fun t354 => (if t354 = true then ((mortiselaw02_heads.f kj18).bind fun t355 => (some t355)) else (none))) = some r := H
         have A53 := Aside0.mk A530
         clear A530
         replace H := Option.bind_eq_some_iff.mp H
         obtain ⟨t354, A540, H⟩ := H
         replace H : (if t354 = true then ((mortiselaw02_heads.f kj18).bind fun t355 => (some t355)) else (none)) = some r := H
         have A54 := Aside0.mk A540
         clear A540
         by_cases c55 : t354 = true
         ·
          subst c55
          have H1 : ((mortiselaw02_heads.f kj18).bind fun t355 => (some t355)) = some r := by rw [if_pos rfl] at H; exact H
          clear H
          have H := H1
          clear H1
          replace H := Option.bind_eq_some_iff.mp H
          obtain ⟨t355, A560, H⟩ := H
          replace H : (some t355) = some r := H
          have A56 := Aside0.mk A560
          clear A560
          obtain rfl := Option.some.inj H
          go_wp2_with (first | ((with_reducible refine gate_callee (f := 18) rfl ?_); refine goesL_ (some 86) rfl rfl Tryd.func18 (by kernel_rfl) rfl #[.string x8_1] rfl (by (try simp only [List.map_toArray, List.map_cons, List.map_nil]); first | done | rfl | (simp only [List.length_drop, List.length_take]; rfl)) ?_; (with_reducible refine (token_Scan.calls x8_1 t340 t343 t344 t345 t346 _ ?side1 A50.out).mono ?_); (case side1 => exact GInv.below HG.out (by repeat (first | (with_reducible first | exact HB.out | apply below_alloc | apply pw_below_drewN | apply below_drew1 | refine below_set ?_ GE325.out) | exact HB.out))); rintro e w57 ⟨v341, rfl, ho0, hb⟩; refine ⟨_, rfl, ?_⟩; have n0_ := Aside0.mk (Kd.R_elder' (by (with_reducible repeat (first | apply Kd.R_alloc | apply Kd.R_drewN | apply Kd.R_drew)); exact HO_5.out) (Kd.R_base ho0) hb); have n1_ := Aside0.mk (Kd.R_below (by (with_reducible repeat (first | apply Kd.R_alloc | apply Kd.R_drewN | apply Kd.R_drew)); exact HO_7.out) hb); have n2_ := Aside0.mk (Kd.R_lower (Kd.R_new' ho0 (Kd.R_lt (by (with_reducible repeat (first | apply Kd.R_alloc | apply Kd.R_drewN | apply Kd.R_drew)); exact HO_5.out))) (below_size (by repeat (first | (with_reducible first | exact HB.out | apply below_alloc | apply pw_below_drewN | apply below_drew1 | refine below_set ?_ GE325.out) | exact HB.out)))); have n3_ := Aside0.mk (blk_below (g := gb325) (o := .cells #[.int .i64 t321, .int .i64 t322, .int .i64 t323, .int .i64 t324] 34 (0, 0)) (by (with_reducible repeat (first | refine blk_drewN ?_ _ | refine blk_drew ?_ | refine blk_alloc ?_ _)); exact BK325.out) hb); have n4_ := Aside0.mk (below_step (by repeat (first | (with_reducible first | exact HB.out | apply below_alloc | apply pw_below_drewN | apply below_drew1 | refine below_set ?_ GE325.out) | exact HB.out)) hb); clear HO_5; clear HO_7; clear BK325; clear HB; have HO_5 := n0_; have HO_7 := n1_; have HO342 := n2_; have BK325 := n3_; have HB := n4_; clear n0_ n1_ n2_ n3_ n4_; (try clear hb); (try clear hb2); (try clear hk); (try clear hi); (try clear ho0)) | ((with_reducible refine gate_dst (N := 14) rfl ?_); refine box_event ?hg (N := 14) ?hd (cs := #[.int .i64 0, .int .i64 0, .int .i64 0, .int .i64 0]) (t := 34) ?hr ?_; (case hd => rfl); (case hg => rfl); (case hr => first | (go_simp; done) | (go_simp; rfl)); intro gb347 hg w58 hbox hb; have n0_ := Aside0.mk (Kd.R_below (by (with_reducible repeat (first | apply Kd.R_alloc | apply Kd.R_drewN | apply Kd.R_drew)); exact HO_5.out) hb); have n1_ := Aside0.mk (Kd.R_below (by (with_reducible repeat (first | apply Kd.R_alloc | apply Kd.R_drewN | apply Kd.R_drew)); exact HO_7.out) hb); have n2_ := Aside0.mk (Kd.R_below (by (with_reducible repeat (first | apply Kd.R_alloc | apply Kd.R_drewN | apply Kd.R_drew)); exact HO342.out) hb); have n3_ := Aside0.mk (blk_below (g := gb325) (o := .cells #[.int .i64 t321, .int .i64 t322, .int .i64 t323, .int .i64 t324] 34 (0, 0)) (by (with_reducible repeat (first | refine blk_drewN ?_ _ | refine blk_drew ?_ | refine blk_alloc ?_ _)); exact BK325.out) hb); have n4_ := Aside0.mk (below_step (by repeat (first | (with_reducible first | exact HB.out | apply below_alloc | apply pw_below_drewN | apply below_drew1 | refine below_set ?_ GE325.out) | exact HB.out)) hb); have n5_ := Aside0.mk (hbox); have n6_ := Aside0.mk ((by rw [hg]; exact (below_size (by repeat (first | (with_reducible first | exact HB.out | apply below_alloc | apply pw_below_drewN | apply below_drew1 | refine below_set ?_ GE325.out) | exact HB.out))) : w.heap.size ≤ gb347)); have n7_ := n6_; have n8_ := Aside0.mk ((by rw [hg]; exact Nat.ne_of_lt (blk_lt (g := gb325) (o := .cells #[.int .i64 t321, .int .i64 t322, .int .i64 t323, .int .i64 t324] 34 (0, 0)) (by (with_reducible repeat (first | refine blk_drewN ?_ _ | refine blk_drew ?_ | refine blk_alloc ?_ _)); exact BK325.out)) : gb325 ≠ gb347)); have n9_ := Aside0.mk ((by rw [hg]; exact Nat.ne_of_gt (blk_lt (g := gb325) (o := .cells #[.int .i64 t321, .int .i64 t322, .int .i64 t323, .int .i64 t324] 34 (0, 0)) (by (with_reducible repeat (first | refine blk_drewN ?_ _ | refine blk_drew ?_ | refine blk_alloc ?_ _)); exact BK325.out)) : gb347 ≠ gb325)); clear HO_5; clear HO_7; clear HO342; clear BK325; clear HB; have HO_5 := n0_; have HO_7 := n1_; have HO342 := n2_; have BK325 := n3_; have HB := n4_; have BK347 := n5_; have GW347 := n6_; have GE347 := n7_; have NB325_347 := n8_; have NB347_325 := n9_; clear n0_ n1_ n2_ n3_ n4_ n5_ n6_ n7_ n8_ n9_; clear hb hbox hg; have hnb59 := NB347_325.out; have hnc59 := NB325_347.out; have hcz60_0 : w58.cell? ⟨gb347, 0, none⟩ = some (.int .i64 0) := (blk_cell BK347.out 0).trans rfl; have hcz60_1 : w58.cell? ⟨gb347, 1, none⟩ = some (.int .i64 0) := (blk_cell BK347.out 1).trans rfl; have hcz60_2 : w58.cell? ⟨gb347, 2, none⟩ = some (.int .i64 0) := (blk_cell BK347.out 2).trans rfl; have hcz60_3 : w58.cell? ⟨gb347, 3, none⟩ = some (.int .i64 0) := (blk_cell BK347.out 3).trans rfl; have hfz60_0 := blk_frozen BK347.out 0; have hfz60_1 := blk_frozen BK347.out 1; have hfz60_2 := blk_frozen BK347.out 2; have hfz60_3 := blk_frozen BK347.out 3; obtain ⟨Ao61, co61, eo61⟩ := Kd.R_slice HO_5.out; subst eo61) | (go_at_call 19; (with_reducible refine (mortiselaw02_plain.calls kj18 _ _ t318 t348 _ ?side1 ?side2 A52.out).mono ?_); (case side1 => refine (Kd.R_reads' (e := 40) (base := w.heap.size) (ok := fun k_ => (True ∧ some k_ ≠ (v341 : Value).ownBlock)) (n := t318.length) (c := co61) ?_).2.2; exact (by (with_reducible repeat (first | apply Kd.R_alloc | apply Kd.R_drewN | apply Kd.R_drew)); exact (Kd.R_mono (Kd.R_far (p := ⟨gb347, 3, none⟩) (Kd.R_far (p := ⟨gb347, 2, none⟩) (Kd.R_far (p := ⟨gb347, 1, none⟩) (Kd.R_far (p := ⟨gb347, 0, none⟩) (Kd.R_types HO_5.out BK347.out (by decide)) (fun _ hk => hk.2) (.int .i64 t343)) (fun _ hk => hk.2) (.int .i64 t344)) (fun _ hk => hk.2) (.int .i64 t345)) (fun _ hk => hk.2) (.int .i64 t346)) (fun _ h_ => h_.1)))); (case side2 => exact (Kd.R_reads' HO_5.out).2.1); rintro e w62 ⟨v349, rfl, ho0, hb⟩; have n0_ := Aside0.mk (Kd.R_elder' (by (with_reducible repeat (first | apply Kd.R_alloc | apply Kd.R_drewN | apply Kd.R_drew)); exact (Kd.R_mono (Kd.R_far (p := ⟨gb347, 3, none⟩) (Kd.R_far (p := ⟨gb347, 2, none⟩) (Kd.R_far (p := ⟨gb347, 1, none⟩) (Kd.R_far (p := ⟨gb347, 0, none⟩) (Kd.R_types HO_5.out BK347.out (by decide)) (fun _ hk => hk.2) (.int .i64 t343)) (fun _ hk => hk.2) (.int .i64 t344)) (fun _ hk => hk.2) (.int .i64 t345)) (fun _ hk => hk.2) (.int .i64 t346)) (fun _ h_ => h_.1))) (Kd.R_base ho0) hb); have n1_ := Aside0.mk (Kd.R_below (by (with_reducible repeat (first | apply Kd.R_alloc | apply Kd.R_drewN | apply Kd.R_drew)); exact (Kd.R_mono (Kd.R_far (p := ⟨gb347, 3, none⟩) (Kd.R_far (p := ⟨gb347, 2, none⟩) (Kd.R_far (p := ⟨gb347, 1, none⟩) (Kd.R_far (p := ⟨gb347, 0, none⟩) (Kd.R_types HO_7.out BK347.out (by decide)) (fun _ hk => hk.2) (.int .i64 t343)) (fun _ hk => hk.2) (.int .i64 t344)) (fun _ hk => hk.2) (.int .i64 t345)) (fun _ hk => hk.2) (.int .i64 t346)) (fun _ h_ => h_.1))) hb); have n2_ := Aside0.mk (Kd.R_elder' (by (with_reducible repeat (first | apply Kd.R_alloc | apply Kd.R_drewN | apply Kd.R_drew)); exact (Kd.R_mono (Kd.R_far (p := ⟨gb347, 3, none⟩) (Kd.R_far (p := ⟨gb347, 2, none⟩) (Kd.R_far (p := ⟨gb347, 1, none⟩) (Kd.R_far (p := ⟨gb347, 0, none⟩) (Kd.R_types HO342.out BK347.out (by decide)) (fun _ hk => hk.2) (.int .i64 t343)) (fun _ hk => hk.2) (.int .i64 t344)) (fun _ hk => hk.2) (.int .i64 t345)) (fun _ hk => hk.2) (.int .i64 t346)) (fun _ h_ => h_.1))) (Kd.R_base ho0) hb); have n3_ := Aside0.mk (Kd.R_lower (Kd.R_new' (Kd.R_new' ho0 (Kd.R_lt (by (with_reducible repeat (first | apply Kd.R_alloc | apply Kd.R_drewN | apply Kd.R_drew)); exact (Kd.R_mono (Kd.R_far (p := ⟨gb347, 3, none⟩) (Kd.R_far (p := ⟨gb347, 2, none⟩) (Kd.R_far (p := ⟨gb347, 1, none⟩) (Kd.R_far (p := ⟨gb347, 0, none⟩) (Kd.R_types HO_5.out BK347.out (by decide)) (fun _ hk => hk.2) (.int .i64 t343)) (fun _ hk => hk.2) (.int .i64 t344)) (fun _ hk => hk.2) (.int .i64 t345)) (fun _ hk => hk.2) (.int .i64 t346)) (fun _ h_ => h_.1))))) (Kd.R_lt (by (with_reducible repeat (first | apply Kd.R_alloc | apply Kd.R_drewN | apply Kd.R_drew)); exact (Kd.R_mono (Kd.R_far (p := ⟨gb347, 3, none⟩) (Kd.R_far (p := ⟨gb347, 2, none⟩) (Kd.R_far (p := ⟨gb347, 1, none⟩) (Kd.R_far (p := ⟨gb347, 0, none⟩) (Kd.R_types HO342.out BK347.out (by decide)) (fun _ hk => hk.2) (.int .i64 t343)) (fun _ hk => hk.2) (.int .i64 t344)) (fun _ hk => hk.2) (.int .i64 t345)) (fun _ hk => hk.2) (.int .i64 t346)) (fun _ h_ => h_.1))))) (below_size (by repeat (first | (with_reducible first | exact HB.out | apply below_alloc | apply pw_below_drewN | apply below_drew1 | refine below_set ?_ GE325.out | refine below_set ?_ GE347.out) | exact HB.out)))); have n4_ := Aside0.mk (blk_below (g := gb325) (o := .cells #[.int .i64 t321, .int .i64 t322, .int .i64 t323, .int .i64 t324] 34 (0, 0)) (by (with_reducible repeat (first | refine blk_drewN ?_ _ | refine blk_drew ?_ | refine blk_alloc ?_ _)); refine blk_far ?_ NB325_347.out _; (with_reducible repeat (first | refine blk_drewN ?_ _ | refine blk_drew ?_ | refine blk_alloc ?_ _)); refine blk_far ?_ NB325_347.out _; (with_reducible repeat (first | refine blk_drewN ?_ _ | refine blk_drew ?_ | refine blk_alloc ?_ _)); refine blk_far ?_ NB325_347.out _; (with_reducible repeat (first | refine blk_drewN ?_ _ | refine blk_drew ?_ | refine blk_alloc ?_ _)); refine blk_far ?_ NB325_347.out _; (with_reducible repeat (first | refine blk_drewN ?_ _ | refine blk_drew ?_ | refine blk_alloc ?_ _)); exact BK325.out) hb); have n5_ := Aside0.mk (blk_below (g := gb347) (o := .cells #[.int .i64 t343, .int .i64 t344, .int .i64 t345, .int .i64 t346] 34 (0, 0)) (by (with_reducible repeat (first | refine blk_drewN ?_ _ | refine blk_drew ?_ | refine blk_alloc ?_ _)); refine blk_put (cs := #[.int .i64 t343, .int .i64 t344, .int .i64 t345, .int .i64 0]) ?_ 3 _ rfl; (with_reducible repeat (first | refine blk_drewN ?_ _ | refine blk_drew ?_ | refine blk_alloc ?_ _)); refine blk_put (cs := #[.int .i64 t343, .int .i64 t344, .int .i64 0, .int .i64 0]) ?_ 2 _ rfl; (with_reducible repeat (first | refine blk_drewN ?_ _ | refine blk_drew ?_ | refine blk_alloc ?_ _)); refine blk_put (cs := #[.int .i64 t343, .int .i64 0, .int .i64 0, .int .i64 0]) ?_ 1 _ rfl; (with_reducible repeat (first | refine blk_drewN ?_ _ | refine blk_drew ?_ | refine blk_alloc ?_ _)); refine blk_put (cs := #[.int .i64 0, .int .i64 0, .int .i64 0, .int .i64 0]) ?_ 0 _ rfl; (with_reducible repeat (first | refine blk_drewN ?_ _ | refine blk_drew ?_ | refine blk_alloc ?_ _)); exact BK347.out) hb); have n6_ := Aside0.mk (below_step (by repeat (first | (with_reducible first | exact HB.out | apply below_alloc | apply pw_below_drewN | apply below_drew1 | refine below_set ?_ GE325.out | refine below_set ?_ GE347.out) | exact HB.out)) hb); clear HO_5; clear HO_7; clear HO342; clear BK325; clear BK347; clear HB; have HO_5 := n0_; have HO_7 := n1_; have HO342 := n2_; have HO350 := n3_; have BK325 := n4_; have BK347 := n5_; have HB := n6_; clear n0_ n1_ n2_ n3_ n4_ n5_ n6_; (try clear hb); (try clear hb2); (try clear hk); (try clear hi); (try clear ho0); obtain ⟨Ao63, co63, eo63⟩ := Kd.R_slice HO342.out; subst eo63) | (go_at_call 19; (with_reducible refine (mortiselaw02_plain.calls kj18 _ _ t340 t351 _ ?side1 ?side2 A53.out).mono ?_); (case side1 => repeat (first | exact (Kd.R_reads' HO342.out).2.2 | (with_reducible refine Kd.C_alloc ?_ _) | (with_reducible refine Kd.C_drewN ?_ _) | (with_reducible refine Kd.C_drew ?_))); (case side2 => exact (Kd.R_reads' HO342.out).2.1); rintro e w64 ⟨v352, rfl, ho0, hb⟩; have n0_ := Aside0.mk (Kd.R_elder' (by (with_reducible repeat (first | apply Kd.R_alloc | apply Kd.R_drewN | apply Kd.R_drew)); exact HO_5.out) (Kd.R_base ho0) hb); have n1_ := Aside0.mk (Kd.R_below (by (with_reducible repeat (first | apply Kd.R_alloc | apply Kd.R_drewN | apply Kd.R_drew)); exact HO_7.out) hb); have n2_ := Aside0.mk (Kd.R_elder' (by (with_reducible repeat (first | apply Kd.R_alloc | apply Kd.R_drewN | apply Kd.R_drew)); exact HO342.out) (Kd.R_base ho0) hb); have n3_ := Aside0.mk (Kd.R_elder' (by (with_reducible repeat (first | apply Kd.R_alloc | apply Kd.R_drewN | apply Kd.R_drew)); exact HO350.out) (Kd.R_base ho0) hb); have n4_ := Aside0.mk (Kd.R_lower (Kd.R_new' (Kd.R_new' (Kd.R_new' ho0 (Kd.R_lt (by (with_reducible repeat (first | apply Kd.R_alloc | apply Kd.R_drewN | apply Kd.R_drew)); exact HO_5.out))) (Kd.R_lt (by (with_reducible repeat (first | apply Kd.R_alloc | apply Kd.R_drewN | apply Kd.R_drew)); exact HO342.out))) (Kd.R_lt (by (with_reducible repeat (first | apply Kd.R_alloc | apply Kd.R_drewN | apply Kd.R_drew)); exact HO350.out))) (below_size (by repeat (first | (with_reducible first | exact HB.out | apply below_alloc | apply pw_below_drewN | apply below_drew1 | refine below_set ?_ GE325.out | refine below_set ?_ GE347.out) | exact HB.out)))); have n5_ := Aside0.mk (blk_below (g := gb325) (o := .cells #[.int .i64 t321, .int .i64 t322, .int .i64 t323, .int .i64 t324] 34 (0, 0)) (by (with_reducible repeat (first | refine blk_drewN ?_ _ | refine blk_drew ?_ | refine blk_alloc ?_ _)); exact BK325.out) hb); have n6_ := Aside0.mk (blk_below (g := gb347) (o := .cells #[.int .i64 t343, .int .i64 t344, .int .i64 t345, .int .i64 t346] 34 (0, 0)) (by (with_reducible repeat (first | refine blk_drewN ?_ _ | refine blk_drew ?_ | refine blk_alloc ?_ _)); exact BK347.out) hb); have n7_ := Aside0.mk (below_step (by repeat (first | (with_reducible first | exact HB.out | apply below_alloc | apply pw_below_drewN | apply below_drew1 | refine below_set ?_ GE325.out | refine below_set ?_ GE347.out) | exact HB.out)) hb); clear HO_5; clear HO_7; clear HO342; clear HO350; clear BK325; clear BK347; clear HB; have HO_5 := n0_; have HO_7 := n1_; have HO342 := n2_; have HO350 := n3_; have HO353 := n4_; have BK325 := n5_; have BK347 := n6_; have HB := n7_; clear n0_ n1_ n2_ n3_ n4_ n5_ n6_ n7_; (try clear hb); (try clear hb2); (try clear hk); (try clear hi); (try clear ho0); obtain ⟨Ao65, co65, eo65⟩ := Kd.R_slice HO350.out; subst eo65; obtain ⟨Ao66, co66, eo66⟩ := Kd.R_slice HO353.out; subst eo66) | (go_at_call 20; (with_reducible refine (mortiselaw02_Same.calls kj18 _ _ t348 _ _ t351 true _ ?side1 ?side2 ?side3 ?side4 A54.out).mono ?_); (case side1 => repeat (first | exact (Kd.R_reads' HO350.out).2.2 | (with_reducible refine Kd.C_alloc ?_ _) | (with_reducible refine Kd.C_drewN ?_ _) | (with_reducible refine Kd.C_drew ?_))); (case side2 => exact (Kd.R_reads' HO350.out).2.1); (case side3 => repeat (first | exact (Kd.R_reads' HO353.out).2.2 | (with_reducible refine Kd.C_alloc ?_ _) | (with_reducible refine Kd.C_drewN ?_ _) | (with_reducible refine Kd.C_drew ?_))); (case side4 => exact (Kd.R_reads' HO353.out).2.1); rintro e w' ⟨rfl, ⟨nd, rfl⟩⟩) | (go_at_call 15; (with_reducible refine (mortiselaw02_heads.calls kj18  t355 _ ?side1 A56.out).mono ?_); (case side1 => exact GInv.below HG.out (by repeat (first | (with_reducible first | exact HB.out | apply below_alloc | apply pw_below_drewN | apply below_drew1 | refine below_set ?_ GE325.out | refine below_set ?_ GE347.out) | exact HB.out))); rintro e w67 ⟨rfl, hb⟩; have n0_ := Aside0.mk (Kd.R_below (by (with_reducible repeat (first | apply Kd.R_alloc | apply Kd.R_drewN | apply Kd.R_drew)); exact HO_5.out) hb); have n1_ := Aside0.mk (Kd.R_below (by (with_reducible repeat (first | apply Kd.R_alloc | apply Kd.R_drewN | apply Kd.R_drew)); exact HO_7.out) hb); have n2_ := Aside0.mk (Kd.R_below (by (with_reducible repeat (first | apply Kd.R_alloc | apply Kd.R_drewN | apply Kd.R_drew)); exact HO342.out) hb); have n3_ := Aside0.mk (Kd.R_below (by (with_reducible repeat (first | apply Kd.R_alloc | apply Kd.R_drewN | apply Kd.R_drew)); exact HO350.out) hb); have n4_ := Aside0.mk (Kd.R_below (by (with_reducible repeat (first | apply Kd.R_alloc | apply Kd.R_drewN | apply Kd.R_drew)); exact HO353.out) hb); have n5_ := Aside0.mk (blk_below (g := gb325) (o := .cells #[.int .i64 t321, .int .i64 t322, .int .i64 t323, .int .i64 t324] 34 (0, 0)) (by (with_reducible repeat (first | refine blk_drewN ?_ _ | refine blk_drew ?_ | refine blk_alloc ?_ _)); exact BK325.out) hb); have n6_ := Aside0.mk (blk_below (g := gb347) (o := .cells #[.int .i64 t343, .int .i64 t344, .int .i64 t345, .int .i64 t346] 34 (0, 0)) (by (with_reducible repeat (first | refine blk_drewN ?_ _ | refine blk_drew ?_ | refine blk_alloc ?_ _)); exact BK347.out) hb); have n7_ := Aside0.mk (below_step (by repeat (first | (with_reducible first | exact HB.out | apply below_alloc | apply pw_below_drewN | apply below_drew1 | refine below_set ?_ GE325.out | refine below_set ?_ GE347.out) | exact HB.out)) hb); clear HO_5; clear HO_7; clear HO342; clear HO350; clear HO353; clear BK325; clear BK347; clear HB; have HO_5 := n0_; have HO_7 := n1_; have HO342 := n2_; have HO350 := n3_; have HO353 := n4_; have BK325 := n5_; have BK347 := n6_; have HB := n7_; clear n0_ n1_ n2_ n3_ n4_ n5_ n6_ n7_; (try clear hb); (try clear hb2); (try clear hk); (try clear hi)))
          go_ret
          exact ⟨by first | rfl | (simp [errW_none, errW_some] <;> rfl) | (simp [*, errW_none, errW_some] <;> rfl), by repeat (first | (with_reducible first | exact HB.out | apply below_alloc | apply pw_below_drewN | apply below_drew1 | refine below_set ?_ GE325.out | refine below_set ?_ GE347.out) | exact HB.out)⟩
         ·
          replace c55 := Bool.eq_false_iff.mpr c55
          subst c55
          have H1 : (none) = some r := by rw [if_neg (show ¬ (false = true) by decide)] at H; exact H
          clear H
          have H := H1
          clear H1
          exact absurd H (by simp)
        ·
         rw [if_neg c51] at H
         exact absurd H (by simp)

end Go.Proofs.YtpfjkpknljigmaaDoor.Q
