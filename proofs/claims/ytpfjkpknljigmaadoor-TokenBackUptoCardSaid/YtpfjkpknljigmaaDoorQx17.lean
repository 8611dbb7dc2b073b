-- Written by a program of this session (qprint.py) out of the translation; the kernel checks it.
import Derived.Test.YtpfjkpknljigmaaDoorQx0
import Derived.Test.YtpfjkpknljigmaaDoorQx2
import Derived.Test.YtpfjkpknljigmaaDoorQx7
import Derived.Test.YtpfjkpknljigmaaDoorQx15
import Derived.Test.YtpfjkpknljigmaaDoorQx16
import Derived.Test.YtpfjkpknljigmaaDoorH0
import Derived.Test.YtpfjkpknljigmaaDoorH3
namespace Go.Proofs.YtpfjkpknljigmaaDoor.Q
open Go.RowKit Go.Proofs.YtpfjkpknljigmaaDoorW.PrintWords Go.Proofs.YtpfjkpknljigmaaDoorW.PrintLast Go.Proofs.YtpfjkpknljigmaaDoorW.PrintMore
attribute [local go_sem] max2_int min2_int max_two min_two max_three min_three max_four min_four   -- for this text's walks alone
set_option linter.unusedVariables false
set_option linter.unusedSimpArgs false

attribute [local go_sem high] eqA34
/-! ### mortiselaw02_TokenBack: function 4 -/
mutual
def mortiselaw02_TokenBack.j0 : Nat → List (S40) → ByteArray → List (S40) → Bool → Int → Int → Int → Int → Option (Bool)
 | 0, _, _, _, _, _, _, _, _ => none
 | k + 1, x0, x3, x5, x35, x297000, x297001, x297002, x297003 => if x35 = true then (if (x0.length : Int) > 16384 then ((mortiselaw02_heads.f k).bind fun t299 => (some t299)) else (if (x3.size : Int) > 65536 then ((mortiselaw02_heads.f k).bind fun t300 => (some t300)) else (none))) else ((mortiselaw02_plain.f k x0).bind fun t301 => (if (t301.length : Int) = 0 then (mortiselaw02_TokenBack.j1 k x5 t301 true x297000 x297001 x297002 x297003) else (if 0 ≤ (wrap64 ((t301.length : Int) - 1)) then (if (wrap64 ((t301.length : Int) - 1)) < (t301.length : Int) then (mortiselaw02_TokenBack.j1 k x5 t301 (((rd_T40 t301 (wrap64 ((t301.length : Int) - 1))).f0) != 0) x297000 x297001 x297002 x297003) else (none)) else (none))))
def mortiselaw02_TokenBack.j1 : Nat → List (S40) → List (S40) → Bool → Int → Int → Int → Int → Option (Bool)
 | 0, _, _, _, _, _, _, _ => none
 | k + 1, x5, x7, x61, x297000, x297001, x297002, x297003 => if x61 = true then (if x7.length < 2513169434916 then (if (x297000 == 0 && ((x297001 == 0 && (x297002 == 0 && (x297003 == 0))))) = true then ((mortiselaw02_plain.f k x5).bind fun t308 => ((mortiselaw02_Same.f k t308 (x7 ++ [(⟨0, (⟨#[]⟩ : ByteArray), 0, (⟨0, 0, 0⟩ : S23)⟩ : S40)])).bind fun t311 => (if t311 = true then ((mortiselaw02_heads.f k).bind fun t312 => (some t312)) else (none)))) else (none)) else (none)) else (if (x297000 == 0 && ((x297001 == 0 && (x297002 == 0 && (x297003 == 0))))) = true then ((mortiselaw02_plain.f k x5).bind fun t313 => ((mortiselaw02_Same.f k t313 x7).bind fun t316 => (if t316 = true then ((mortiselaw02_heads.f k).bind fun t317 => (some t317)) else (none)))) else (none))
end
def mortiselaw02_TokenBack.f (k : Nat) (l0 : List (S40)) : Option (Bool) := (token_Join.f k l0).bind fun bt285 => ((mortiselaw02_num.f bt285.2).bind fun t287 => (if t287 = 0 then ((token_Scan.f bt285.1).bind fun bt289 => ((mortiselaw02_num.f bt289.2.1).bind fun t297 => (if t297 = 23 then (mortiselaw02_TokenBack.j0 k l0 bt285.1 bt289.1 true bt289.2.1 bt289.2.2.1 bt289.2.2.2.1 bt289.2.2.2.2) else ((mortiselaw02_num.f bt289.2.1).bind fun t298 => (mortiselaw02_TokenBack.j0 k l0 bt285.1 bt289.1 (t298 == 24) bt289.2.1 bt289.2.2.1 bt289.2.2.2.1 bt289.2.2.2.2))))) else (if bt285.1.toList = ([] : List UInt8) then ((mortiselaw02_heads.f k).bind fun t288 => (some t288)) else (none))))
theorem mortiselaw02_TokenBack.mono_l : ∀ k, (∀ y0 y1 y2 y3 y4 y5 y6 y7, LeO (mortiselaw02_TokenBack.j0 k y0 y1 y2 y3 y4 y5 y6 y7) (mortiselaw02_TokenBack.j0 (k + 1) y0 y1 y2 y3 y4 y5 y6 y7)) ∧ (∀ y0 y1 y2 y3 y4 y5 y6, LeO (mortiselaw02_TokenBack.j1 k y0 y1 y2 y3 y4 y5 y6) (mortiselaw02_TokenBack.j1 (k + 1) y0 y1 y2 y3 y4 y5 y6))
 | 0 => ⟨fun _ _ _ _ _ _ _ _ r h => by simp [mortiselaw02_TokenBack.j0] at h, fun _ _ _ _ _ _ _ r h => by simp [mortiselaw02_TokenBack.j1] at h⟩
 | k + 1 => by
  obtain ⟨ih0, ih1⟩ := mortiselaw02_TokenBack.mono_l k
  refine ⟨?_, ?_⟩
  ·
   intro y0 y1 y2 y3 y4 y5 y6 y7
   unfold mortiselaw02_TokenBack.j0
   repeat' first
   | (with_reducible exact ih0 _ _ _ _ _ _ _ _)
   | (with_reducible exact ih1 _ _ _ _ _ _ _)
   | (with_reducible exact mortiselaw02_Same.mono _ _ _)
   | (with_reducible exact mortiselaw02_heads.mono _)
   | (with_reducible exact mortiselaw02_plain.mono _ _)
   | (with_reducible exact token_Join.mono _ _)
   | (with_reducible exact LeO.refl _)
   | (with_reducible exact LeO.none _)
   | (with_reducible refine LeO.ite ?_ ?_)
   | (with_reducible refine LeO.bind ?_ (fun _ => ?_))
   | exact ih0 _ _ _ _ _ _ _ _
   | exact ih1 _ _ _ _ _ _ _
   | exact mortiselaw02_Same.mono _ _ _
   | exact mortiselaw02_heads.mono _
   | exact mortiselaw02_plain.mono _ _
   | exact token_Join.mono _ _
   | exact LeO.none _
   | refine LeO.ite ?_ ?_
   | refine LeO.bind ?_ (fun _ => ?_)
  ·
   intro y0 y1 y2 y3 y4 y5 y6
   unfold mortiselaw02_TokenBack.j1
   repeat' first
   | (with_reducible exact ih0 _ _ _ _ _ _ _ _)
   | (with_reducible exact ih1 _ _ _ _ _ _ _)
   | (with_reducible exact mortiselaw02_Same.mono _ _ _)
   | (with_reducible exact mortiselaw02_heads.mono _)
   | (with_reducible exact mortiselaw02_plain.mono _ _)
   | (with_reducible exact token_Join.mono _ _)
   | (with_reducible exact LeO.refl _)
   | (with_reducible exact LeO.none _)
   | (with_reducible refine LeO.ite ?_ ?_)
   | (with_reducible refine LeO.bind ?_ (fun _ => ?_))
   | exact ih0 _ _ _ _ _ _ _ _
   | exact ih1 _ _ _ _ _ _ _
   | exact mortiselaw02_Same.mono _ _ _
   | exact mortiselaw02_heads.mono _
   | exact mortiselaw02_plain.mono _ _
   | exact token_Join.mono _ _
   | exact LeO.none _
   | refine LeO.ite ?_ ?_
   | refine LeO.bind ?_ (fun _ => ?_)
theorem mortiselaw02_TokenBack.mono : ∀ a0 k, LeO (mortiselaw02_TokenBack.f k a0) (mortiselaw02_TokenBack.f (k + 1) a0) := by
 intro a0 k
 obtain ⟨ih0, ih1⟩ := mortiselaw02_TokenBack.mono_l k
 unfold mortiselaw02_TokenBack.f
 repeat' first
   | (with_reducible exact ih0 _ _ _ _ _ _ _ _)
   | (with_reducible exact ih1 _ _ _ _ _ _ _)
   | (with_reducible exact mortiselaw02_Same.mono _ _ _)
   | (with_reducible exact mortiselaw02_heads.mono _)
   | (with_reducible exact mortiselaw02_plain.mono _ _)
   | (with_reducible exact token_Join.mono _ _)
   | (with_reducible exact LeO.refl _)
   | (with_reducible exact LeO.none _)
   | (with_reducible refine LeO.ite ?_ ?_)
   | (with_reducible refine LeO.bind ?_ (fun _ => ?_))
   | exact ih0 _ _ _ _ _ _ _ _
   | exact ih1 _ _ _ _ _ _ _
   | exact mortiselaw02_Same.mono _ _ _
   | exact mortiselaw02_heads.mono _
   | exact mortiselaw02_plain.mono _ _
   | exact token_Join.mono _ _
   | exact LeO.none _
   | refine LeO.ite ?_ ?_
   | refine LeO.bind ?_ (fun _ => ?_)
set_option maxHeartbeats 2000000 in
set_option maxRecDepth 100000 in
theorem mortiselaw02_TokenBack.calls (k : Nat) (A0 : Option Addr) (c0 : Nat) (l0 : List (S40)) (r : Bool) (w : World) (hG : GInv w) (hr0 : Kd.C k40 w A0 l0.length l0) (hc0 : l0.length ≤ c0) (h : mortiselaw02_TokenBack.f k l0 = some r) :
  Calls Tryd.prog 4 #[.slice A0 l0.length c0] w fun e w' => e = .returned (.bool r) ∧ Below w.heap.size w w' := by
 have hu34 := Tryd.underlying34
 have hu40 := Tryd.underlying40
 have HR0 := Aside0.mk hr0
 have HC0 := Aside0.mk hc0
 clear hr0 hc0
 have HB := Aside0.mk (Below.refl w.heap.size w)
 have HG := Aside0.mk hG
 clear hG
 have H : ((token_Join.f k l0).bind fun bt285 => ((mortiselaw02_num.f bt285.2).bind fun t287 => (if t287 = 0 then ((token_Scan.f bt285.1).bind fun bt289 => ((mortiselaw02_num.f bt289.2.1).bind fun t297 => (if t297 = 23 then (mortiselaw02_TokenBack.j0 k l0 bt285.1 bt289.1 true bt289.2.1 bt289.2.2.1 bt289.2.2.2.1 bt289.2.2.2.2) else ((mortiselaw02_num.f bt289.2.1).bind fun t298 => (mortiselaw02_TokenBack.j0 k l0 bt285.1 bt289.1 (t298 == 24) bt289.2.1 bt289.2.2.1 bt289.2.2.2.1 bt289.2.2.2.2))))) else (if bt285.1.toList = ([] : List UInt8) then ((mortiselaw02_heads.f k).bind fun t288 => (some t288)) else (none))))) = some r := h
 clear h
 replace H := Option.bind_eq_some_iff.mp H
 obtain ⟨⟨t285, t286⟩, A20, H⟩ := H
 replace H : ((mortiselaw02_num.f t286).bind fun t287 => (if t287 = 0 then ((token_Scan.f t285).bind fun bt289 => ((mortiselaw02_num.f bt289.2.1).bind fun t297 => (if t297 = 23 then (mortiselaw02_TokenBack.j0 k l0 t285 bt289.1 true bt289.2.1 bt289.2.2.1 bt289.2.2.2.1 bt289.2.2.2.2) else ((mortiselaw02_num.f bt289.2.1).bind fun t298 => (mortiselaw02_TokenBack.j0 k l0 t285 bt289.1 (t298 == 24) bt289.2.1 bt289.2.2.1 bt289.2.2.2.1 bt289.2.2.2.2))))) else (if t285.toList = ([] : List UInt8) then ((mortiselaw02_heads.f k).bind fun t288 => (some t288)) else (none)))) = some r := H
 have A2 := Aside0.mk A20
 clear A20
 replace H := Option.bind_eq_some_iff.mp H
 obtain ⟨t287, A30, H⟩ := H
 replace H : (if t287 = 0 then ((token_Scan.f t285).bind fun bt289 => ((mortiselaw02_num.f bt289.2.1).bind fun t297 => (if t297 = 23 then (mortiselaw02_TokenBack.j0 k l0 t285 bt289.1 true bt289.2.1 bt289.2.2.1 bt289.2.2.2.1 bt289.2.2.2.2) else ((mortiselaw02_num.f bt289.2.1).bind fun t298 => (mortiselaw02_TokenBack.j0 k l0 t285 bt289.1 (t298 == 24) bt289.2.1 bt289.2.2.1 bt289.2.2.2.1 bt289.2.2.2.2))))) else (if t285.toList = ([] : List UInt8) then ((mortiselaw02_heads.f k).bind fun t288 => (some t288)) else (none))) = some r := H
 have A3 := Aside0.mk A30
 clear A30
 by_cases c4 : t287 = 0
 ·
  rw [if_pos c4] at H
  have c4b0 : (t287 == 0) = true := beq_iff_eq.mpr c4
  have c4b1 : (t287 != 0) = false := bne_eq_false_iff_eq.mpr c4
  clear c4
  replace H := Option.bind_eq_some_iff.mp H
  obtain ⟨⟨t289, t292, t293, t294, t295⟩, A50, H⟩ := H
  replace H : ((mortiselaw02_num.f t292).bind fun t297 => (if t297 = 23 then (mortiselaw02_TokenBack.j0 k l0 t285 t289 true t292 t293 t294 t295) else ((mortiselaw02_num.f t292).bind fun t298 => (mortiselaw02_TokenBack.j0 k l0 t285 t289 (t298 == 24) t292 t293 t294 t295)))) = some r := H
  have A5 := Aside0.mk A50
  clear A50
  have HC6 := Aside0.mk H
  clear H
  go_enter Tryd.func4, Tryd.ntmps4
  go_upto_region 5 with (first | ((with_reducible refine gate_callee (f := 16) rfl ?_); refine goesL_ (some 10) rfl rfl Tryd.func16 (by kernel_rfl) rfl #[.slice A0 l0.length c0] rfl (by (try simp only [List.map_toArray, List.map_cons, List.map_nil]); first | done | rfl | (simp only [List.length_drop, List.length_take]; rfl)) ?_; (with_reducible refine (token_Join.calls k _ _ l0 t285 t286 _ ?side1 ?side2 ?side3 A2.out).mono ?_); (case side1 => exact GInv.below HG.out (by repeat (first | (with_reducible first | exact HB.out | apply below_alloc | apply pw_below_drewN | apply below_drew1) | exact HB.out))); (case side2 => repeat (first | exact HR0.out | (with_reducible refine Kd.C_alloc ?_ _) | (with_reducible refine Kd.C_drewN ?_ _) | (with_reducible refine Kd.C_drew ?_))); (case side3 => exact HC0.out); rintro e w7 ⟨rfl, hb⟩; refine ⟨_, rfl, ?_⟩; have n0_ := Aside0.mk (below_step (by repeat (first | (with_reducible first | exact HB.out | apply below_alloc | apply pw_below_drewN | apply below_drew1) | exact HB.out)) hb); clear HB; have HB := n0_; clear n0_; (try clear hb); (try clear hb2); (try clear hk); (try clear hi)) | ((with_reducible refine gate_callee (f := 17) rfl ?_); refine goesL_ (some 14) rfl rfl Tryd.func17 (by kernel_rfl) rfl #[.int .i64 t286] rfl (by (try simp only [List.map_toArray, List.map_cons, List.map_nil]); first | done | rfl | (simp only [List.length_drop, List.length_take]; rfl)) ?_; (with_reducible refine (mortiselaw02_num.calls t286 t287 _ A3.out).mono ?_); rintro e w' ⟨rfl, ⟨nd, rfl⟩⟩; refine ⟨_, rfl, ?_⟩; (try (rw [drewN_self w7]; generalize hq_ : World.drewN w7 _ = w7; have n0_ : Aside0 (Below w.heap.size w w7) := ⟨by rw [← hq_]; exact (by repeat (first | (with_reducible first | exact HB.out | apply below_alloc | apply pw_below_drewN | apply below_drew1) | exact HB.out))⟩; clear HB hq_; have HB := n0_; clear n0_))) | ((with_reducible refine gate_callee (f := 18) rfl ?_); refine goesL_ (some 23) rfl rfl Tryd.func18 (by kernel_rfl) rfl #[.string t285] rfl (by (try simp only [List.map_toArray, List.map_cons, List.map_nil]); first | done | rfl | (simp only [List.length_drop, List.length_take]; rfl)) ?_; (with_reducible refine (token_Scan.calls t285 t289 t292 t293 t294 t295 _ ?side1 A5.out).mono ?_); (case side1 => exact GInv.below HG.out (by repeat (first | (with_reducible first | exact HB.out | apply below_alloc | apply pw_below_drewN | apply below_drew1) | exact HB.out))); rintro e w8 ⟨v290, rfl, ho0, hb⟩; refine ⟨_, rfl, ?_⟩; have n0_ := Aside0.mk (Kd.R_lower ho0 (below_size (by repeat (first | (with_reducible first | exact HB.out | apply below_alloc | apply pw_below_drewN | apply below_drew1) | exact HB.out)))); have n1_ := Aside0.mk (below_step (by repeat (first | (with_reducible first | exact HB.out | apply below_alloc | apply pw_below_drewN | apply below_drew1) | exact HB.out)) hb); clear HB; have HO291 := n0_; have HB := n1_; clear n0_ n1_; (try clear hb); (try clear hb2); (try clear hk); (try clear hi); (try clear ho0)) | ((with_reducible refine gate_dst (N := 6) rfl ?_); refine box_event ?hg (N := 6) ?hd (cs := #[.int .i64 0, .int .i64 0, .int .i64 0, .int .i64 0]) (t := 34) ?hr ?_; (case hd => rfl); (case hg => rfl); (case hr => first | (go_simp; done) | (go_simp; rfl)); intro gb296 hg w9 hbox hb; have n0_ := Aside0.mk (Kd.R_below (by (with_reducible repeat (first | apply Kd.R_alloc | apply Kd.R_drewN | apply Kd.R_drew)); exact HO291.out) hb); have n1_ := Aside0.mk (below_step (by repeat (first | (with_reducible first | exact HB.out | apply below_alloc | apply pw_below_drewN | apply below_drew1) | exact HB.out)) hb); have n2_ := Aside0.mk (hbox); have n3_ := Aside0.mk ((by rw [hg]; exact (below_size (by repeat (first | (with_reducible first | exact HB.out | apply below_alloc | apply pw_below_drewN | apply below_drew1) | exact HB.out))) : w.heap.size ≤ gb296)); have n4_ := n3_; clear HO291; clear HB; have HO291 := n0_; have HB := n1_; have BK296 := n2_; have GW296 := n3_; have GE296 := n4_; clear n0_ n1_ n2_ n3_ n4_; clear hb hbox hg; have hcz10_0 : w9.cell? ⟨gb296, 0, none⟩ = some (.int .i64 0) := (blk_cell BK296.out 0).trans rfl; have hcz10_1 : w9.cell? ⟨gb296, 1, none⟩ = some (.int .i64 0) := (blk_cell BK296.out 1).trans rfl; have hcz10_2 : w9.cell? ⟨gb296, 2, none⟩ = some (.int .i64 0) := (blk_cell BK296.out 2).trans rfl; have hcz10_3 : w9.cell? ⟨gb296, 3, none⟩ = some (.int .i64 0) := (blk_cell BK296.out 3).trans rfl; have hfz10_0 := blk_frozen BK296.out 0; have hfz10_1 := blk_frozen BK296.out 1; have hfz10_2 := blk_frozen BK296.out 2; have hfz10_3 := blk_frozen BK296.out 3))
  (try simp only [Act.put, List.setIfInBounds_toArray, List.set_cons_zero, List.set_cons_succ])
  go_cut [35] (fun v35 wc => ∃ (kq : Nat) (x35_5 : Bool), v35 = .bool x35_5 ∧ Aside0 (mortiselaw02_TokenBack.j0 kq l0 t285 t289 x35_5 t292 t293 t294 t295 = some r) ∧ Aside0 (kq ≤ k) ∧ Aside0 (Kd.R k40 40 wc w.heap.size (fun _ => True) v290 t289) ∧ Aside0 (wc.heap[gb296]? = some (.cells #[.int .i64 t292, .int .i64 t293, .int .i64 t294, .int .i64 t295] 34 (0, 0))) ∧ Aside0 (Below w.heap.size w wc))
  case first =>
   have H := HC6.out
   clear HC6
   replace H := Option.bind_eq_some_iff.mp H
   obtain ⟨t297, A110, H⟩ := H
   replace H : (if t297 = 23 then (mortiselaw02_TokenBack.j0 k l0 t285 t289 true t292 t293 t294 t295) else ((mortiselaw02_num.f t292).bind fun t298 => (mortiselaw02_TokenBack.j0 k l0 t285 t289 (t298 == 24) t292 t293 t294 t295))) = some r := H
   have A11 := Aside0.mk A110
   clear A110
   by_cases c12 : t297 = 23
   ·
    rw [if_pos c12] at H
    have c12b0 : (t297 == 23) = true := beq_iff_eq.mpr c12
    have c12b1 : (t297 != 23) = false := bne_eq_false_iff_eq.mpr c12
    clear c12
    (first | rw [c12b0] | (simp only [i64_w, i32_w]; rw [c12b0]) | skip)
    have H' := Aside0.mk H
    clear H
    have hcz13_0 : w9.cell? ⟨gb296, 0, none⟩ = some (.int .i64 0) := (blk_cell BK296.out 0).trans rfl
    have hcz13_1 : w9.cell? ⟨gb296, 1, none⟩ = some (.int .i64 0) := (blk_cell BK296.out 1).trans rfl
    have hcz13_2 : w9.cell? ⟨gb296, 2, none⟩ = some (.int .i64 0) := (blk_cell BK296.out 2).trans rfl
    have hcz13_3 : w9.cell? ⟨gb296, 3, none⟩ = some (.int .i64 0) := (blk_cell BK296.out 3).trans rfl
    have hfz13_0 := blk_frozen BK296.out 0
    have hfz13_1 := blk_frozen BK296.out 1
    have hfz13_2 := blk_frozen BK296.out 2
    have hfz13_3 := blk_frozen BK296.out 3
    go_wp2_with (first | ((with_reducible refine gate_callee (f := 17) rfl ?_); refine goesL_ (some 28) rfl rfl Tryd.func17 (by kernel_rfl) rfl #[.int .i64 t292] rfl (by (try simp only [List.map_toArray, List.map_cons, List.map_nil]); first | done | rfl | (simp only [List.length_drop, List.length_take]; rfl)) ?_; (with_reducible refine (mortiselaw02_num.calls t292 t297 _ A11.out).mono ?_); rintro e w' ⟨rfl, ⟨nd, rfl⟩⟩; refine ⟨_, rfl, ?_⟩))
    go_meet
    case rel => exact ⟨_, (true), (by first | rfl | (simp; done) | (simp [*]; done)), H', ⟨by first | omega | exact Nat.le_refl _⟩, ⟨by (with_reducible repeat (first | apply Kd.R_alloc | apply Kd.R_drewN | apply Kd.R_drew)); exact Kd.R_mono (Kd.R_far (p := ⟨gb296, 3, none⟩) (Kd.R_far (p := ⟨gb296, 2, none⟩) (Kd.R_far (p := ⟨gb296, 1, none⟩) (Kd.R_far (p := ⟨gb296, 0, none⟩) (Kd.R_types HO291.out BK296.out (by decide)) (fun _ hk => hk.2) (.int .i64 t292)) (fun _ hk => hk.2) (.int .i64 t293)) (fun _ hk => hk.2) (.int .i64 t294)) (fun _ hk => hk.2) (.int .i64 t295)) (fun _ hk => trivial)⟩, ⟨by (with_reducible repeat (first | refine blk_drewN ?_ _ | refine blk_drew ?_ | refine blk_alloc ?_ _)); refine blk_put (cs := #[.int .i64 t292, .int .i64 t293, .int .i64 t294, .int .i64 0]) ?_ 3 _ rfl; (with_reducible repeat (first | refine blk_drewN ?_ _ | refine blk_drew ?_ | refine blk_alloc ?_ _)); refine blk_put (cs := #[.int .i64 t292, .int .i64 t293, .int .i64 0, .int .i64 0]) ?_ 2 _ rfl; (with_reducible repeat (first | refine blk_drewN ?_ _ | refine blk_drew ?_ | refine blk_alloc ?_ _)); refine blk_put (cs := #[.int .i64 t292, .int .i64 0, .int .i64 0, .int .i64 0]) ?_ 1 _ rfl; (with_reducible repeat (first | refine blk_drewN ?_ _ | refine blk_drew ?_ | refine blk_alloc ?_ _)); refine blk_put (cs := #[.int .i64 0, .int .i64 0, .int .i64 0, .int .i64 0]) ?_ 0 _ rfl; (with_reducible repeat (first | refine blk_drewN ?_ _ | refine blk_drew ?_ | refine blk_alloc ?_ _)); exact BK296.out⟩, ⟨by repeat (first | (with_reducible first | exact HB.out | apply below_alloc | apply pw_below_drewN | apply below_drew1 | refine below_set ?_ GE296.out) | exact HB.out)⟩⟩
   ·
    rw [if_neg c12] at H
    have c12b0 : (t297 == 23) = false := beq_eq_false_iff_ne.mpr c12
    have c12b1 : (t297 != 23) = true := bne_iff_ne.mpr c12
    (first | rw [c12b0] | (simp only [i64_w, i32_w]; rw [c12b0]) | skip)
    replace H := Option.bind_eq_some_iff.mp H
    obtain ⟨t298, A140, H⟩ := H
    replace H : (mortiselaw02_TokenBack.j0 k l0 t285 t289 (t298 == 24) t292 t293 t294 t295) = some r := H
    have A14 := Aside0.mk A140
    clear A140
    have H' := Aside0.mk H
    clear H
    have hcz15_0 : w9.cell? ⟨gb296, 0, none⟩ = some (.int .i64 0) := (blk_cell BK296.out 0).trans rfl
    have hcz15_1 : w9.cell? ⟨gb296, 1, none⟩ = some (.int .i64 0) := (blk_cell BK296.out 1).trans rfl
    have hcz15_2 : w9.cell? ⟨gb296, 2, none⟩ = some (.int .i64 0) := (blk_cell BK296.out 2).trans rfl
    have hcz15_3 : w9.cell? ⟨gb296, 3, none⟩ = some (.int .i64 0) := (blk_cell BK296.out 3).trans rfl
    have hfz15_0 := blk_frozen BK296.out 0
    have hfz15_1 := blk_frozen BK296.out 1
    have hfz15_2 := blk_frozen BK296.out 2
    have hfz15_3 := blk_frozen BK296.out 3
    go_wp2_with (first | ((with_reducible refine gate_callee (f := 17) rfl ?_); refine goesL_ (some 28) rfl rfl Tryd.func17 (by kernel_rfl) rfl #[.int .i64 t292] rfl (by (try simp only [List.map_toArray, List.map_cons, List.map_nil]); first | done | rfl | (simp only [List.length_drop, List.length_take]; rfl)) ?_; (with_reducible refine (mortiselaw02_num.calls t292 t297 _ A11.out).mono ?_); rintro e w' ⟨rfl, ⟨nd, rfl⟩⟩; refine ⟨_, rfl, ?_⟩) | (go_at_call 17; (with_reducible refine (mortiselaw02_num.calls t292 t298 _ A14.out).mono ?_); rintro e w' ⟨rfl, ⟨nd, rfl⟩⟩))
    go_meet
    case rel => exact ⟨_, ((t298 == 24)), (by first | rfl | (simp; done) | (simp [*]; done)), H', ⟨by first | omega | exact Nat.le_refl _⟩, ⟨by (with_reducible repeat (first | apply Kd.R_alloc | apply Kd.R_drewN | apply Kd.R_drew)); exact Kd.R_mono (Kd.R_far (p := ⟨gb296, 3, none⟩) (Kd.R_far (p := ⟨gb296, 2, none⟩) (Kd.R_far (p := ⟨gb296, 1, none⟩) (Kd.R_far (p := ⟨gb296, 0, none⟩) (Kd.R_types HO291.out BK296.out (by decide)) (fun _ hk => hk.2) (.int .i64 t292)) (fun _ hk => hk.2) (.int .i64 t293)) (fun _ hk => hk.2) (.int .i64 t294)) (fun _ hk => hk.2) (.int .i64 t295)) (fun _ hk => trivial)⟩, ⟨by (with_reducible repeat (first | refine blk_drewN ?_ _ | refine blk_drew ?_ | refine blk_alloc ?_ _)); refine blk_put (cs := #[.int .i64 t292, .int .i64 t293, .int .i64 t294, .int .i64 0]) ?_ 3 _ rfl; (with_reducible repeat (first | refine blk_drewN ?_ _ | refine blk_drew ?_ | refine blk_alloc ?_ _)); refine blk_put (cs := #[.int .i64 t292, .int .i64 t293, .int .i64 0, .int .i64 0]) ?_ 2 _ rfl; (with_reducible repeat (first | refine blk_drewN ?_ _ | refine blk_drew ?_ | refine blk_alloc ?_ _)); refine blk_put (cs := #[.int .i64 t292, .int .i64 0, .int .i64 0, .int .i64 0]) ?_ 1 _ rfl; (with_reducible repeat (first | refine blk_drewN ?_ _ | refine blk_drew ?_ | refine blk_alloc ?_ _)); refine blk_put (cs := #[.int .i64 0, .int .i64 0, .int .i64 0, .int .i64 0]) ?_ 0 _ rfl; (with_reducible repeat (first | refine blk_drewN ?_ _ | refine blk_drew ?_ | refine blk_alloc ?_ _)); exact BK296.out⟩, ⟨by repeat (first | (with_reducible first | exact HB.out | apply below_alloc | apply pw_below_drewN | apply below_drew1 | refine below_set ?_ GE296.out) | exact HB.out)⟩⟩
  case rest =>
   clear HC6
   try clear c1
   try clear p2
   try clear c4
   try clear c4b0
   try clear c4b1
   try clear c12
   try clear c12b0
   try clear c12b1
   try clear hcz10_0
   try clear hcz10_1
   try clear hcz10_2
   try clear hcz10_3
   try clear hcz13_0
   try clear hcz13_1
   try clear hcz13_2
   try clear hcz13_3
   try clear hcz15_0
   try clear hcz15_1
   try clear hcz15_2
   try clear hcz15_3
   try clear hfz10_0
   try clear hfz10_1
   try clear hfz10_2
   try clear hfz10_3
   try clear hfz13_0
   try clear hfz13_1
   try clear hfz13_2
   try clear hfz13_3
   try clear hfz15_0
   try clear hfz15_1
   try clear hfz15_2
   try clear hfz15_3
   obtain ⟨kq, x35_5, rfl, HA, HJ5, HO_5, BK296, HB⟩ := hcut
   cases kq with
   | zero => exact absurd HA.out (by simp [mortiselaw02_TokenBack.j0])
   | succ kj5 =>
    have H := HA.out
    clear HA
    simp only [mortiselaw02_TokenBack.j0] at H
    by_cases c16 : x35_5 = true
    ·
     subst c16
     have H1 : (if (l0.length : Int) > 16384 then ((mortiselaw02_heads.f kj5).bind fun t299 => (some t299)) else (if (t285.size : Int) > 65536 then ((mortiselaw02_heads.f kj5).bind fun t300 => (some t300)) else (none))) = some r := by rw [if_pos rfl] at H; exact H
     clear H
     have H := H1
     clear H1
     by_cases c17 : (l0.length : Int) > 16384
     ·
      rw [if_pos c17] at H
      have c17b0 : decide (16384 < (l0.length : Int)) = true := decide_eq_true c17
      have c17b1 : decide (16384 < l0.length) = true := decide_eq_true (by omega)
      clear c17
      replace H := Option.bind_eq_some_iff.mp H
      obtain ⟨t299, A180, H⟩ := H
      replace H : (some t299) = some r := H
      have A18 := Aside0.mk A180
      clear A180
      obtain rfl := Option.some.inj H
      go_wp2_with (first | (go_at_call 15; (with_reducible refine (mortiselaw02_heads.calls kj5  t299 _ ?side1 A18.out).mono ?_); (case side1 => exact GInv.below HG.out (by repeat (first | (with_reducible first | exact HB.out | apply below_alloc | apply pw_below_drewN | apply below_drew1 | refine below_set ?_ GE296.out) | exact HB.out))); rintro e w19 ⟨rfl, hb⟩; have n0_ := Aside0.mk (Kd.R_below (by (with_reducible repeat (first | apply Kd.R_alloc | apply Kd.R_drewN | apply Kd.R_drew)); exact HO_5.out) hb); have n1_ := Aside0.mk (blk_below (g := gb296) (o := .cells #[.int .i64 t292, .int .i64 t293, .int .i64 t294, .int .i64 t295] 34 (0, 0)) (by (with_reducible repeat (first | refine blk_drewN ?_ _ | refine blk_drew ?_ | refine blk_alloc ?_ _)); exact BK296.out) hb); have n2_ := Aside0.mk (below_step (by repeat (first | (with_reducible first | exact HB.out | apply below_alloc | apply pw_below_drewN | apply below_drew1 | refine below_set ?_ GE296.out) | exact HB.out)) hb); clear HO_5; clear BK296; clear HB; have HO_5 := n0_; have BK296 := n1_; have HB := n2_; clear n0_ n1_ n2_; (try clear hb); (try clear hb2); (try clear hk); (try clear hi)))
      go_ret
      exact ⟨by first | rfl | (simp [errW_none, errW_some] <;> rfl) | (simp [*, errW_none, errW_some] <;> rfl), by repeat (first | (with_reducible first | exact HB.out | apply below_alloc | apply pw_below_drewN | apply below_drew1 | refine below_set ?_ GE296.out) | exact HB.out)⟩
     ·
      rw [if_neg c17] at H
      have c17b0 : decide (16384 < (l0.length : Int)) = false := decide_eq_false c17
      have c17b1 : decide (16384 < l0.length) = false := decide_eq_false (by omega)
      clear c17
      by_cases c20 : (t285.size : Int) > 65536
      ·
       rw [if_pos c20] at H
       have c20b0 : decide (65536 < (t285.size : Int)) = true := decide_eq_true c20
       have c20b1 : decide (65536 < t285.size) = true := decide_eq_true (by omega)
       clear c20
       replace H := Option.bind_eq_some_iff.mp H
       obtain ⟨t300, A210, H⟩ := H
       replace H : (some t300) = some r := H
       have A21 := Aside0.mk A210
       clear A210
       obtain rfl := Option.some.inj H
       go_wp2_with (first | (go_at_call 15; (with_reducible refine (mortiselaw02_heads.calls kj5  t300 _ ?side1 A21.out).mono ?_); (case side1 => exact GInv.below HG.out (by repeat (first | (with_reducible first | exact HB.out | apply below_alloc | apply pw_below_drewN | apply below_drew1 | refine below_set ?_ GE296.out) | exact HB.out))); rintro e w22 ⟨rfl, hb⟩; have n0_ := Aside0.mk (Kd.R_below (by (with_reducible repeat (first | apply Kd.R_alloc | apply Kd.R_drewN | apply Kd.R_drew)); exact HO_5.out) hb); have n1_ := Aside0.mk (blk_below (g := gb296) (o := .cells #[.int .i64 t292, .int .i64 t293, .int .i64 t294, .int .i64 t295] 34 (0, 0)) (by (with_reducible repeat (first | refine blk_drewN ?_ _ | refine blk_drew ?_ | refine blk_alloc ?_ _)); exact BK296.out) hb); have n2_ := Aside0.mk (below_step (by repeat (first | (with_reducible first | exact HB.out | apply below_alloc | apply pw_below_drewN | apply below_drew1 | refine below_set ?_ GE296.out) | exact HB.out)) hb); clear HO_5; clear BK296; clear HB; have HO_5 := n0_; have BK296 := n1_; have HB := n2_; clear n0_ n1_ n2_; (try clear hb); (try clear hb2); (try clear hk); (try clear hi)))
       go_ret
       exact ⟨by first | rfl | (simp [errW_none, errW_some] <;> rfl) | (simp [*, errW_none, errW_some] <;> rfl), by repeat (first | (with_reducible first | exact HB.out | apply below_alloc | apply pw_below_drewN | apply below_drew1 | refine below_set ?_ GE296.out) | exact HB.out)⟩
      ·
       rw [if_neg c20] at H
       exact absurd H (by simp)
    ·
     replace c16 := Bool.eq_false_iff.mpr c16
     subst c16
     have H1 : ((mortiselaw02_plain.f kj5 l0).bind fun t301 => (if (t301.length : Int) = 0 then (mortiselaw02_TokenBack.j1 kj5 t289 t301 true t292 t293 t294 t295) else (if 0 ≤ (wrap64 ((t301.length : Int) - 1)) then (if (wrap64 ((t301.length : Int) - 1)) < (t301.length : Int) then (mortiselaw02_TokenBack.j1 kj5 t289 t301 (((rd_T40 t301 (wrap64 ((t301.length : Int) - 1))).f0) != 0) t292 t293 t294 t295) else (none)) else (none)))) = some r := by rw [if_neg (show ¬ (false = true) by decide)] at H; exact H
     clear H
     have H := H1
     clear H1
     replace H := Option.bind_eq_some_iff.mp H
     obtain ⟨t301, A230, H⟩ := H
     replace H : (if (t301.length : Int) = 0 then (mortiselaw02_TokenBack.j1 kj5 t289 t301 true t292 t293 t294 t295) else (if 0 ≤ (wrap64 ((t301.length : Int) - 1)) then (if (wrap64 ((t301.length : Int) - 1)) < (t301.length : Int) then (mortiselaw02_TokenBack.j1 kj5 t289 t301 (((rd_T40 t301 (wrap64 ((t301.length : Int) - 1))).f0) != 0) t292 t293 t294 t295) else (none)) else (none))) = some r := H
     have A23 := Aside0.mk A230
     clear A230
     have HC24 := Aside0.mk H
     clear H
     go_upto_region 8 with (first | ((with_reducible refine gate_callee (f := 19) rfl ?_); refine goesL_ (some 48) rfl rfl Tryd.func19 (by kernel_rfl) rfl #[.slice A0 l0.length c0] rfl (by (try simp only [List.map_toArray, List.map_cons, List.map_nil]); first | done | rfl | (simp only [List.length_drop, List.length_take]; rfl)) ?_; (with_reducible refine (mortiselaw02_plain.calls kj5 _ _ l0 t301 _ ?side1 ?side2 A23.out).mono ?_); (case side1 => repeat (first | exact (Kd.C_below HR0.out HB.out) | (with_reducible refine Kd.C_alloc ?_ _) | (with_reducible refine Kd.C_drewN ?_ _) | (with_reducible refine Kd.C_drew ?_))); (case side2 => exact HC0.out); rintro e w25 ⟨v302, rfl, ho0, hb⟩; refine ⟨_, rfl, ?_⟩; have n0_ := Aside0.mk (Kd.R_elder' (by (with_reducible repeat (first | apply Kd.R_alloc | apply Kd.R_drewN | apply Kd.R_drew)); exact HO_5.out) (Kd.R_base ho0) hb); have n1_ := Aside0.mk (Kd.R_lower (Kd.R_new' ho0 (Kd.R_lt (by (with_reducible repeat (first | apply Kd.R_alloc | apply Kd.R_drewN | apply Kd.R_drew)); exact HO_5.out))) (below_size (by repeat (first | (with_reducible first | exact HB.out | apply below_alloc | apply pw_below_drewN | apply below_drew1 | refine below_set ?_ GE296.out) | exact HB.out)))); have n2_ := Aside0.mk (blk_below (g := gb296) (o := .cells #[.int .i64 t292, .int .i64 t293, .int .i64 t294, .int .i64 t295] 34 (0, 0)) (by (with_reducible repeat (first | refine blk_drewN ?_ _ | refine blk_drew ?_ | refine blk_alloc ?_ _)); exact BK296.out) hb); have n3_ := Aside0.mk (below_step (by repeat (first | (with_reducible first | exact HB.out | apply below_alloc | apply pw_below_drewN | apply below_drew1 | refine below_set ?_ GE296.out) | exact HB.out)) hb); clear HO_5; clear BK296; clear HB; have HO_5 := n0_; have HO303 := n1_; have BK296 := n2_; have HB := n3_; clear n0_ n1_ n2_ n3_; (try clear hb); (try clear hb2); (try clear hk); (try clear hi); (try clear ho0)))
     (try simp only [Act.put, List.setIfInBounds_toArray, List.set_cons_zero, List.set_cons_succ])
     go_cut [61] (fun v61 wc => ∃ (kq : Nat) (x61_23 : Bool), v61 = .bool x61_23 ∧ Aside0 (mortiselaw02_TokenBack.j1 kq t289 t301 x61_23 t292 t293 t294 t295 = some r) ∧ Aside0 (kq ≤ kj5) ∧ Aside0 (Kd.R k40 40 wc w.heap.size (fun k_ => some k_ ≠ (v302 : Value).ownBlock) v290 t289) ∧ Aside0 (Kd.R k40 40 wc w.heap.size (fun k_ => some k_ ≠ (v290 : Value).ownBlock) v302 t301) ∧ Aside0 (wc.heap[gb296]? = some (.cells #[.int .i64 t292, .int .i64 t293, .int .i64 t294, .int .i64 t295] 34 (0, 0))) ∧ Aside0 (Below w.heap.size w wc))
     case first =>
      have H := HC24.out
      clear HC24
      by_cases c26 : (t301.length : Int) = 0
      ·
       rw [if_pos c26] at H
       have c26b0 : ((t301.length : Int) == 0) = true := beq_iff_eq.mpr c26
       have c26b1 : ((t301.length : Int) != 0) = false := bne_eq_false_iff_eq.mpr c26
       clear c26
       (first | rw [c26b0] | (simp only [i64_w, i32_w]; rw [c26b0]) | skip)
       have H' := Aside0.mk H
       clear H
       obtain ⟨Ao27, co27, eo27⟩ := Kd.R_slice HO303.out
       subst eo27
       go_wp2
       go_meet
       case rel => exact ⟨_, (true), (by first | rfl | (simp; done) | (simp [*]; done)), H', ⟨by have := HJ5.out; first | omega | exact Nat.le_refl _⟩, ⟨by (with_reducible repeat (first | apply Kd.R_alloc | apply Kd.R_drewN | apply Kd.R_drew)); exact Kd.R_mono HO_5.out (fun _ hk => hk.2)⟩, ⟨by (with_reducible repeat (first | apply Kd.R_alloc | apply Kd.R_drewN | apply Kd.R_drew)); exact Kd.R_mono HO303.out (fun _ hk => hk.2)⟩, ⟨by (with_reducible repeat (first | refine blk_drewN ?_ _ | refine blk_drew ?_ | refine blk_alloc ?_ _)); exact BK296.out⟩, ⟨by repeat (first | (with_reducible first | exact HB.out | apply below_alloc | apply pw_below_drewN | apply below_drew1 | refine below_set ?_ GE296.out) | exact HB.out)⟩⟩
      ·
       rw [if_neg c26] at H
       have c26b0 : ((t301.length : Int) == 0) = false := beq_eq_false_iff_ne.mpr c26
       have c26b1 : ((t301.length : Int) != 0) = true := bne_iff_ne.mpr c26
       have c26b2 : ¬ (t301 = []) := fun h_ => c26 (by rw [h_]; rfl)
       (first | rw [c26b0] | (simp only [i64_w, i32_w]; rw [c26b0]) | skip)
       obtain ⟨ji28, hji28⟩ : ∃ j_ : Int, (wrap64 ((t301.length : Int) - 1)) = j_ := ⟨_, rfl⟩
       replace H : (if 0 ≤ (ji28) then (if (ji28) < (t301.length : Int) then (mortiselaw02_TokenBack.j1 kj5 t289 t301 (((rd_T40 t301 (ji28)).f0) != 0) t292 t293 t294 t295) else (none)) else (none)) = some r := by first | (rw [hji28] at H; exact H) | (simp only [hji28] at H ⊢; exact H)
       have hji28w : (IntKind.i64.wrap ((t301.length : Int) - 1)) = ji28 := (i64_w _).trans hji28
       by_cases c29 : 0 ≤ (ji28)
       ·
        rw [if_pos c29] at H
        have c29b0 : decide (0 ≤ (ji28)) = true := decide_eq_true c29
        clear c29
        by_cases c30 : (ji28) < (t301.length : Int)
        ·
         rw [if_pos c30] at H
         have c30b0 : decide ((ji28) < (t301.length : Int)) = true := decide_eq_true c30
         clear c30
         have H' := Aside0.mk H
         clear H
         obtain ⟨Ao31, co31, eo31⟩ := Kd.R_slice HO303.out
         subst eo31
         have p304 : 0 ≤ ((ji28) : Int) := of_decide_eq_true (by first | (with_reducible assumption) | assumption)
         have q304 : (ji28) < (t301.length : Int) := of_decide_eq_true (by first | (with_reducible assumption) | assumption)
         obtain ⟨ad304, e304, hx304_0, hx304_1, hx304_2, hx304_3, hx304_4, hx304_5⟩ := at_T40 (Kd.R_reads' HO303.out).2.2 (ji28) p304 q304
         cases e304
         replace p304 := eq_true p304
         replace q304 := eq_true q304
         go_wp2
         go_meet
         case rel => exact ⟨_, ((((rd_T40 t301 (ji28)).f0) != 0)), (by first | rfl | (simp; done) | (simp only [← hji28] <;> (first | rfl | simp)) | (simp [*]; done)), H', ⟨by have := HJ5.out; first | omega | exact Nat.le_refl _⟩, ⟨by (with_reducible repeat (first | apply Kd.R_alloc | apply Kd.R_drewN | apply Kd.R_drew)); exact Kd.R_mono HO_5.out (fun _ hk => hk.2)⟩, ⟨by (with_reducible repeat (first | apply Kd.R_alloc | apply Kd.R_drewN | apply Kd.R_drew)); exact Kd.R_mono HO303.out (fun _ hk => hk.2)⟩, ⟨by (with_reducible repeat (first | refine blk_drewN ?_ _ | refine blk_drew ?_ | refine blk_alloc ?_ _)); exact BK296.out⟩, ⟨by repeat (first | (with_reducible first | exact HB.out | apply below_alloc | apply pw_below_drewN | apply below_drew1 | refine below_set ?_ GE296.out) | exact HB.out)⟩⟩
        ·
         rw [if_neg c30] at H
         exact absurd H (by simp)
       ·
        rw [if_neg c29] at H
        exact absurd H (by simp)
     case rest =>
      clear HC24
      try clear c1
      try clear c2
      try clear p2
      try clear c3
      try clear p3
      try clear q3
      try clear hx3
      try clear c4
      try clear c4b0
      try clear c4b1
      try clear p6
      try clear c12
      try clear c12b0
      try clear c12b1
      try clear c16
      try clear c17
      try clear c17b0
      try clear c17b1
      try clear c18
      try clear c19
      try clear c20
      try clear c20b0
      try clear c20b1
      try clear c26
      try clear c26b0
      try clear c26b1
      try clear c26b2
      try clear c29
      try clear c29b0
      try clear c30
      try clear c30b0
      try clear p30
      try clear q30
      try clear hx30
      try clear hcz10_0
      try clear hcz10_1
      try clear hcz10_2
      try clear hcz10_3
      try clear hcz13_0
      try clear hcz13_1
      try clear hcz13_2
      try clear hcz13_3
      try clear hcz15_0
      try clear hcz15_1
      try clear hcz15_2
      try clear hcz15_3
      try clear hfz10_0
      try clear hfz10_1
      try clear hfz10_2
      try clear hfz10_3
      try clear hfz13_0
      try clear hfz13_1
      try clear hfz13_2
      try clear hfz13_3
      try clear hfz15_0
      try clear hfz15_1
      try clear hfz15_2
      try clear hfz15_3
      try clear hx304_0
      try clear hx304_1
      try clear hx304_2
      try clear hx304_3
      try clear hx304_4
      try clear hx304_5
      try clear p2
      try clear p304
      try clear q304
      obtain ⟨kq, x61_23, rfl, HA, HJ23, HO_5, HO_7, BK296, HB⟩ := hcut
      cases kq with
      | zero => exact absurd HA.out (by simp [mortiselaw02_TokenBack.j1])
      | succ kj23 =>
       have H := HA.out
       clear HA
       simp only [mortiselaw02_TokenBack.j1] at H
       by_cases c32 : x61_23 = true
       ·
        subst c32
        have H1 : (if t301.length < 2513169434916 then (if (t292 == 0 && ((t293 == 0 && (t294 == 0 && (t295 == 0))))) = true then ((mortiselaw02_plain.f kj23 t289).bind fun t308 => ((mortiselaw02_Same.f kj23 t308 (t301 ++ [(⟨0, (⟨#[]⟩ : ByteArray), 0, (⟨0, 0, 0⟩ : S23)⟩ : S40)])).bind fun t311 => (if t311 = true then ((mortiselaw02_heads.f kj23).bind fun t312 => (some t312)) else (none)))) else (none)) else (none)) = some r := by rw [if_pos rfl] at H; exact H
        clear H
        have H := H1
        clear H1
        by_cases c33 : t301.length < 2513169434916
        ·
         rw [if_pos c33] at H
         have LMc33 := Aside0.mk c33
         clear c33
         obtain ⟨y305, hy305⟩ : ∃ y_ : List (S40), y_ = (t301 ++ [(⟨0, (⟨#[]⟩ : ByteArray), 0, (⟨0, 0, 0⟩ : S23)⟩ : S40)]) := ⟨_, rfl⟩
         replace H : (if (t292 == 0 && ((t293 == 0 && (t294 == 0 && (t295 == 0))))) = true then ((mortiselaw02_plain.f kj23 t289).bind fun t308 => ((mortiselaw02_Same.f kj23 t308 y305).bind fun t311 => (if t311 = true then ((mortiselaw02_heads.f kj23).bind fun t312 => (some t312)) else (none)))) else (none)) = some r := by first | (rw [hy305]; with_reducible exact H) | (have H2_ := (Option.bind_some _ _).symm.trans H; rw [hy305]; with_reducible exact H2_) | (have H2_ := (Option.bind_some _ _).symm.trans H; with_reducible exact H2_) | with_reducible exact H | (rw [hy305]; exact H) | exact H
         have Ny305 := Aside0.mk hy305
         clear hy305
         by_cases c34 : (t292 == 0 && ((t293 == 0 && (t294 == 0 && (t295 == 0))))) = true
         ·
          rw [if_pos c34] at H
          have c34b0 : (t292 == 0 && ((t293 == 0 && (t294 == 0 && (t295 == 0))))) = true := c34
          (try (have c34b1 : decide (t292 = 0 && ((t293 == 0 && (t294 == 0 && (t295 == 0))))) = true := by simpa using c34))
          (try (have c34b2 : (t292 == 0 && ((t293 == 0 && (t294 == 0 && (t295 == 0))))) = true := by simpa using c34))
          clear c34
          replace H := Option.bind_eq_some_iff.mp H
          obtain ⟨t308, A350, H⟩ := H
          replace H : ((mortiselaw02_Same.f kj23 t308 y305).bind fun t311 => (if t311 = true then ((mortiselaw02_heads.f kj23).bind fun t312 => (some t312)) else (none))) = some r := H
          have A35 := Aside0.mk A350
          clear A350
          replace H := Option.bind_eq_some_iff.mp H
          obtain ⟨t311, A360, H⟩ := H
          replace H : (if t311 = true then ((mortiselaw02_heads.f kj23).bind fun t312 => (some t312)) else (none)) = some r := H
          have A36 := Aside0.mk A360
          clear A360
          by_cases c37 : t311 = true
          ·
           subst c37
           have H1 : ((mortiselaw02_heads.f kj23).bind fun t312 => (some t312)) = some r := by rw [if_pos rfl] at H; exact H
           clear H
           have H := H1
           clear H1
           replace H := Option.bind_eq_some_iff.mp H
           obtain ⟨t312, A380, H⟩ := H
           replace H : (some t312) = some r := H
           have A38 := Aside0.mk A380
           clear A380
           obtain rfl := Option.some.inj H
           go_wp2_with (first | ((with_reducible refine gate_builtin (b := .append) (xs := #[.tmp 62, .tmp 64]) rfl ?_); at_builtin; refine Kd.R_append k40 (w0 := w) w.heap.size rfl (.tmp 62) (.tmp 64) 28 40 (.agg #[(.int .i64 0), (.string ⟨#[]⟩), (.int .i64 0), (.int .i64 0), (.int .i64 0), (.int .i64 0)]) 56 rfl Tryd.underlying28 info40 rfl (by decide) (by omega) v302 t301 (⟨0, (⟨#[]⟩ : ByteArray), 0, (⟨0, 0, 0⟩ : S23)⟩ : S40) [.int .i64 0, .string (⟨#[]⟩ : ByteArray), .int .i64 0, .int .i64 0, .int .i64 0, .int .i64 0] (fun k_ => some k_ ≠ (v290 : Value).ownBlock) (fun _ => False) rfl rfl ?aP (fun _ hk => hk.elim) ?aF ?aO ?aB ?aS ?aL ?_; (case aP => exact k40_mkM _ _ _ (⟨0, (⟨#[]⟩ : ByteArray), 0, (⟨0, 0, 0⟩ : S23)⟩ : S40)); (case aB => exact (by repeat (first | (with_reducible first | exact HB.out | apply below_alloc | apply pw_below_drewN | apply below_drew1 | refine below_set ?_ GE296.out) | exact HB.out))); (case aF => exact (fun k_ hk => Kd.fresh' (Kd.R_lt (by (with_reducible repeat (first | apply Kd.R_alloc | apply Kd.R_drewN | apply Kd.R_drew)); exact HO_5.out)) k_ hk)); (case aO => exact (by (with_reducible repeat (first | apply Kd.R_alloc | apply Kd.R_drewN | apply Kd.R_drew)); exact HO_7.out)); (case aS => exact (below_size (by repeat (first | (with_reducible first | exact HB.out | apply below_alloc | apply pw_below_drewN | apply below_drew1 | refine below_set ?_ GE296.out) | exact HB.out)))); (case aL => have := LMc33.out; omega); intro v306 w39 ho hb hg hat; rw [← Ny305.out] at ho; have n0_ := Aside0.mk (Kd.R_after (ok := (fun _ => True)) (by (with_reducible repeat (first | apply Kd.R_alloc | apply Kd.R_drewN | apply Kd.R_drew)); exact Kd.R_mono HO_5.out (fun _ hk => ⟨trivial, hk⟩)) hg hat); have n1_ := Aside0.mk (blk_grown (g := gb296) (o := .cells #[.int .i64 t292, .int .i64 t293, .int .i64 t294, .int .i64 t295] 34 (0, 0)) (by (with_reducible repeat (first | refine blk_drewN ?_ _ | refine blk_drew ?_ | refine blk_alloc ?_ _)); exact BK296.out) hg (Kd.R_ne HO_7.out BK296.out (by decide))); have n2_ := Aside0.mk (hb); have n3_ := Aside0.mk (ho); clear HO_5; clear BK296; clear HB; clear HO_7; have HO_5 := n0_; have BK296 := n1_; have HB := n2_; have HO307 := n3_; clear n0_ n1_ n2_ n3_; clear ho hb hg hat; have hcz40_0 : w39.cell? ⟨gb296, 0, none⟩ = some (.int .i64 t292) := (blk_cell BK296.out 0).trans rfl; have hcz40_1 : w39.cell? ⟨gb296, 1, none⟩ = some (.int .i64 t293) := (blk_cell BK296.out 1).trans rfl; have hcz40_2 : w39.cell? ⟨gb296, 2, none⟩ = some (.int .i64 t294) := (blk_cell BK296.out 2).trans rfl; have hcz40_3 : w39.cell? ⟨gb296, 3, none⟩ = some (.int .i64 t295) := (blk_cell BK296.out 3).trans rfl; have hfz40_0 := blk_frozen BK296.out 0; have hfz40_1 := blk_frozen BK296.out 1; have hfz40_2 := blk_frozen BK296.out 2; have hfz40_3 := blk_frozen BK296.out 3; obtain ⟨Ao41, co41, eo41⟩ := Kd.R_slice HO_5.out; subst eo41) | (go_at_call 19; (with_reducible refine (mortiselaw02_plain.calls kj23 _ _ t289 t308 _ ?side1 ?side2 A35.out).mono ?_); (case side1 => repeat (first | exact (Kd.R_reads' HO_5.out).2.2 | (with_reducible refine Kd.C_alloc ?_ _) | (with_reducible refine Kd.C_drewN ?_ _) | (with_reducible refine Kd.C_drew ?_))); (case side2 => exact (Kd.R_reads' HO_5.out).2.1); rintro e w42 ⟨v309, rfl, ho0, hb⟩; have n0_ := Aside0.mk (Kd.R_elder' (by (with_reducible repeat (first | apply Kd.R_alloc | apply Kd.R_drewN | apply Kd.R_drew)); exact HO_5.out) (Kd.R_base ho0) hb); have n1_ := Aside0.mk (Kd.R_elder' (by (with_reducible repeat (first | apply Kd.R_alloc | apply Kd.R_drewN | apply Kd.R_drew)); exact HO307.out) (Kd.R_base ho0) hb); have n2_ := Aside0.mk (Kd.R_lower (Kd.R_new' (Kd.R_new' ho0 (Kd.R_lt (by (with_reducible repeat (first | apply Kd.R_alloc | apply Kd.R_drewN | apply Kd.R_drew)); exact HO_5.out))) (Kd.R_lt (by (with_reducible repeat (first | apply Kd.R_alloc | apply Kd.R_drewN | apply Kd.R_drew)); exact HO307.out))) (below_size (by repeat (first | (with_reducible first | exact HB.out | apply below_alloc | apply pw_below_drewN | apply below_drew1 | refine below_set ?_ GE296.out) | exact HB.out)))); have n3_ := Aside0.mk (blk_below (g := gb296) (o := .cells #[.int .i64 t292, .int .i64 t293, .int .i64 t294, .int .i64 t295] 34 (0, 0)) (by (with_reducible repeat (first | refine blk_drewN ?_ _ | refine blk_drew ?_ | refine blk_alloc ?_ _)); exact BK296.out) hb); have n4_ := Aside0.mk (below_step (by repeat (first | (with_reducible first | exact HB.out | apply below_alloc | apply pw_below_drewN | apply below_drew1 | refine below_set ?_ GE296.out) | exact HB.out)) hb); clear HO_5; clear HO307; clear BK296; clear HB; have HO_5 := n0_; have HO307 := n1_; have HO310 := n2_; have BK296 := n3_; have HB := n4_; clear n0_ n1_ n2_ n3_ n4_; (try clear hb); (try clear hb2); (try clear hk); (try clear hi); (try clear ho0); obtain ⟨Ao43, co43, eo43⟩ := Kd.R_slice HO310.out; subst eo43; obtain ⟨Ao44, co44, eo44⟩ := Kd.R_slice HO307.out; subst eo44) | (go_at_call 20; (with_reducible refine (mortiselaw02_Same.calls kj23 _ _ t308 _ _ y305 true _ ?side1 ?side2 ?side3 ?side4 A36.out).mono ?_); (case side1 => repeat (first | exact (Kd.R_reads' HO310.out).2.2 | (with_reducible refine Kd.C_alloc ?_ _) | (with_reducible refine Kd.C_drewN ?_ _) | (with_reducible refine Kd.C_drew ?_))); (case side2 => exact (Kd.R_reads' HO310.out).2.1); (case side3 => repeat (first | exact (Kd.R_reads' HO307.out).2.2 | (with_reducible refine Kd.C_alloc ?_ _) | (with_reducible refine Kd.C_drewN ?_ _) | (with_reducible refine Kd.C_drew ?_))); (case side4 => exact (Kd.R_reads' HO307.out).2.1); rintro e w' ⟨rfl, ⟨nd, rfl⟩⟩) | (go_at_call 15; (with_reducible refine (mortiselaw02_heads.calls kj23  t312 _ ?side1 A38.out).mono ?_); (case side1 => exact GInv.below HG.out (by repeat (first | (with_reducible first | exact HB.out | apply below_alloc | apply pw_below_drewN | apply below_drew1 | refine below_set ?_ GE296.out) | exact HB.out))); rintro e w45 ⟨rfl, hb⟩; have n0_ := Aside0.mk (Kd.R_below (by (with_reducible repeat (first | apply Kd.R_alloc | apply Kd.R_drewN | apply Kd.R_drew)); exact HO_5.out) hb); have n1_ := Aside0.mk (Kd.R_below (by (with_reducible repeat (first | apply Kd.R_alloc | apply Kd.R_drewN | apply Kd.R_drew)); exact HO307.out) hb); have n2_ := Aside0.mk (Kd.R_below (by (with_reducible repeat (first | apply Kd.R_alloc | apply Kd.R_drewN | apply Kd.R_drew)); exact HO310.out) hb); have n3_ := Aside0.mk (blk_below (g := gb296) (o := .cells #[.int .i64 t292, .int .i64 t293, .int .i64 t294, .int .i64 t295] 34 (0, 0)) (by (with_reducible repeat (first | refine blk_drewN ?_ _ | refine blk_drew ?_ | refine blk_alloc ?_ _)); exact BK296.out) hb); have n4_ := Aside0.mk (below_step (by repeat (first | (with_reducible first | exact HB.out | apply below_alloc | apply pw_below_drewN | apply below_drew1 | refine below_set ?_ GE296.out) | exact HB.out)) hb); clear HO_5; clear HO307; clear HO310; clear BK296; clear HB; have HO_5 := n0_; have HO307 := n1_; have HO310 := n2_; have BK296 := n3_; have HB := n4_; clear n0_ n1_ n2_ n3_ n4_; (try clear hb); (try clear hb2); (try clear hk); (try clear hi)))
           go_ret
           exact ⟨by first | rfl | (simp [errW_none, errW_some] <;> rfl) | (simp [*, errW_none, errW_some] <;> rfl), by repeat (first | (with_reducible first | exact HB.out | apply below_alloc | apply pw_below_drewN | apply below_drew1 | refine below_set ?_ GE296.out) | exact HB.out)⟩
          ·
           replace c37 := Bool.eq_false_iff.mpr c37
           subst c37
           have H1 : (none) = some r := by rw [if_neg (show ¬ (false = true) by decide)] at H; exact H
           clear H
           have H := H1
           clear H1
           exact absurd H (by simp)
         ·
          rw [if_neg c34] at H
          exact absurd H (by simp)
        ·
         rw [if_neg c33] at H
         exact absurd H (by simp)
       ·
        replace c32 := Bool.eq_false_iff.mpr c32
        subst c32
        have H1 : (if (t292 == 0 && ((t293 == 0 && (t294 == 0 && (t295 == 0))))) = true then ((mortiselaw02_plain.f kj23 t289).bind fun t313 => ((mortiselaw02_Same.f kj23 t313 t301).bind fun t316 => (if t316 = true then ((mortiselaw02_heads.f kj23).bind fun t317 => (some t317)) else (none)))) else (none)) = some r := by rw [if_neg (show ¬ (false = true) by decide)] at H; exact H
        clear H
        have H := H1
        clear H1
        by_cases c46 : (t292 == 0 && ((t293 == 0 && (t294 == 0 && (t295 == 0))))) = true
        ·
         rw [if_pos c46] at H
         have c46b0 : (t292 == 0 && ((t293 == 0 && (t294 == 0 && (t295 == 0))))) = true := c46
         (try (have c46b1 : decide (t292 = 0 && ((t293 == 0 && (t294 == 0 && (t295 == 0))))) = true := by simpa using c46))
         (try (have c46b2 : (t292 == 0 && ((t293 == 0 && (t294 == 0 && (t295 == 0))))) = true := by simpa using c46))
         clear c46
         replace H := Option.bind_eq_some_iff.mp H
         obtain ⟨t313, A470, H⟩ := H
         replace H : ((mortiselaw02_Same.f kj23 t313 t301).bind fun t316 => (if t316 = true then ((mortiselaw02_heads.f kj23).bind fun t317 => (some t317)) else (none))) = some r := H
         have A47 := Aside0.mk A470
         clear A470
         replace H := Option.bind_eq_some_iff.mp H
         obtain ⟨t316, A480, H⟩ := H
         replace H : (if t316 = true then ((mortiselaw02_heads.f kj23).bind fun t317 => (some t317)) else (none)) = some r := H
         have A48 := Aside0.mk A480
         clear A480
         by_cases c49 : t316 = true
         ·
          subst c49
          have H1 : ((mortiselaw02_heads.f kj23).bind fun t317 => (some t317)) = some r := by rw [if_pos rfl] at H; exact H
          clear H
          have H := H1
          clear H1
          replace H := Option.bind_eq_some_iff.mp H
          obtain ⟨t317, A500, H⟩ := H
          replace H : (some t317) = some r := H
          have A50 := Aside0.mk A500
          clear A500
          obtain rfl := Option.some.inj H
          have hcz51_0 : wc.cell? ⟨gb296, 0, none⟩ = some (.int .i64 t292) := (blk_cell BK296.out 0).trans rfl
          have hcz51_1 : wc.cell? ⟨gb296, 1, none⟩ = some (.int .i64 t293) := (blk_cell BK296.out 1).trans rfl
          have hcz51_2 : wc.cell? ⟨gb296, 2, none⟩ = some (.int .i64 t294) := (blk_cell BK296.out 2).trans rfl
          have hcz51_3 : wc.cell? ⟨gb296, 3, none⟩ = some (.int .i64 t295) := (blk_cell BK296.out 3).trans rfl
          have hfz51_0 := blk_frozen BK296.out 0
          have hfz51_1 := blk_frozen BK296.out 1
          have hfz51_2 := blk_frozen BK296.out 2
          have hfz51_3 := blk_frozen BK296.out 3
          obtain ⟨Ao52, co52, eo52⟩ := Kd.R_slice HO_5.out
          subst eo52
          go_wp2_with (first | (go_at_call 19; (with_reducible refine (mortiselaw02_plain.calls kj23 _ _ t289 t313 _ ?side1 ?side2 A47.out).mono ?_); (case side1 => repeat (first | exact (Kd.R_reads' HO_5.out).2.2 | (with_reducible refine Kd.C_alloc ?_ _) | (with_reducible refine Kd.C_drewN ?_ _) | (with_reducible refine Kd.C_drew ?_))); (case side2 => exact (Kd.R_reads' HO_5.out).2.1); rintro e w53 ⟨v314, rfl, ho0, hb⟩; have n0_ := Aside0.mk (Kd.R_elder' (by (with_reducible repeat (first | apply Kd.R_alloc | apply Kd.R_drewN | apply Kd.R_drew)); exact HO_5.out) (Kd.R_base ho0) hb); have n1_ := Aside0.mk (Kd.R_elder' (by (with_reducible repeat (first | apply Kd.R_alloc | apply Kd.R_drewN | apply Kd.R_drew)); exact HO_7.out) (Kd.R_base ho0) hb); have n2_ := Aside0.mk (Kd.R_lower (Kd.R_new' (Kd.R_new' ho0 (Kd.R_lt (by (with_reducible repeat (first | apply Kd.R_alloc | apply Kd.R_drewN | apply Kd.R_drew)); exact HO_5.out))) (Kd.R_lt (by (with_reducible repeat (first | apply Kd.R_alloc | apply Kd.R_drewN | apply Kd.R_drew)); exact HO_7.out))) (below_size (by repeat (first | (with_reducible first | exact HB.out | apply below_alloc | apply pw_below_drewN | apply below_drew1 | refine below_set ?_ GE296.out) | exact HB.out)))); have n3_ := Aside0.mk (blk_below (g := gb296) (o := .cells #[.int .i64 t292, .int .i64 t293, .int .i64 t294, .int .i64 t295] 34 (0, 0)) (by (with_reducible repeat (first | refine blk_drewN ?_ _ | refine blk_drew ?_ | refine blk_alloc ?_ _)); exact BK296.out) hb); have n4_ := Aside0.mk (below_step (by repeat (first | (with_reducible first | exact HB.out | apply below_alloc | apply pw_below_drewN | apply below_drew1 | refine below_set ?_ GE296.out) | exact HB.out)) hb); clear HO_5; clear HO_7; clear BK296; clear HB; have HO_5 := n0_; have HO_7 := n1_; have HO315 := n2_; have BK296 := n3_; have HB := n4_; clear n0_ n1_ n2_ n3_ n4_; (try clear hb); (try clear hb2); (try clear hk); (try clear hi); (try clear ho0); obtain ⟨Ao54, co54, eo54⟩ := Kd.R_slice HO315.out; subst eo54; obtain ⟨Ao55, co55, eo55⟩ := Kd.R_slice HO_7.out; subst eo55) | (go_at_call 20; (with_reducible refine (mortiselaw02_Same.calls kj23 _ _ t313 _ _ t301 true _ ?side1 ?side2 ?side3 ?side4 A48.out).mono ?_); (case side1 => repeat (first | exact (Kd.R_reads' HO315.out).2.2 | (with_reducible refine Kd.C_alloc ?_ _) | (with_reducible refine Kd.C_drewN ?_ _) | (with_reducible refine Kd.C_drew ?_))); (case side2 => exact (Kd.R_reads' HO315.out).2.1); (case side3 => repeat (first | exact (Kd.R_reads' HO_7.out).2.2 | (with_reducible refine Kd.C_alloc ?_ _) | (with_reducible refine Kd.C_drewN ?_ _) | (with_reducible refine Kd.C_drew ?_))); (case side4 => exact (Kd.R_reads' HO_7.out).2.1); rintro e w' ⟨rfl, ⟨nd, rfl⟩⟩) | (go_at_call 15; (with_reducible refine (mortiselaw02_heads.calls kj23  t317 _ ?side1 A50.out).mono ?_); (case side1 => exact GInv.below HG.out (by repeat (first | (with_reducible first | exact HB.out | apply below_alloc | apply pw_below_drewN | apply below_drew1 | refine below_set ?_ GE296.out) | exact HB.out))); rintro e w56 ⟨rfl, hb⟩; have n0_ := Aside0.mk (Kd.R_below (by (with_reducible repeat (first | apply Kd.R_alloc | apply Kd.R_drewN | apply Kd.R_drew)); exact HO_5.out) hb); have n1_ := Aside0.mk (Kd.R_below (by (with_reducible repeat (first | apply Kd.R_alloc | apply Kd.R_drewN | apply Kd.R_drew)); exact HO_7.out) hb); have n2_ := Aside0.mk (Kd.R_below (by (with_reducible repeat (first | apply Kd.R_alloc | apply Kd.R_drewN | apply Kd.R_drew)); exact HO315.out) hb); have n3_ := Aside0.mk (blk_below (g := gb296) (o := .cells #[.int .i64 t292, .int .i64 t293, .int .i64 t294, .int .i64 t295] 34 (0, 0)) (by (with_reducible repeat (first | refine blk_drewN ?_ _ | refine blk_drew ?_ | refine blk_alloc ?_ _)); exact BK296.out) hb); have n4_ := Aside0.mk (below_step (by repeat (first | (with_reducible first | exact HB.out | apply below_alloc | apply pw_below_drewN | apply below_drew1 | refine below_set ?_ GE296.out) | exact HB.out)) hb); clear HO_5; clear HO_7; clear HO315; clear BK296; clear HB; have HO_5 := n0_; have HO_7 := n1_; have HO315 := n2_; have BK296 := n3_; have HB := n4_; clear n0_ n1_ n2_ n3_ n4_; (try clear hb); (try clear hb2); (try clear hk); (try clear hi)))
          go_ret
          exact ⟨by first | rfl | (simp [errW_none, errW_some] <;> rfl) | (simp [*, errW_none, errW_some] <;> rfl), by repeat (first | (with_reducible first | exact HB.out | apply below_alloc | apply pw_below_drewN | apply below_drew1 | refine below_set ?_ GE296.out) | exact HB.out)⟩
         ·
          replace c49 := Bool.eq_false_iff.mpr c49
          subst c49
          have H1 : (none) = some r := by rw [if_neg (show ¬ (false = true) by decide)] at H; exact H
          clear H
          have H := H1
          clear H1
          exact absurd H (by simp)
        ·
         rw [if_neg c46] at H
         exact absurd H (by simp)
 ·
  rw [if_neg c4] at H
  have c4b0 : (t287 == 0) = false := beq_eq_false_iff_ne.mpr c4
  have c4b1 : (t287 != 0) = true := bne_iff_ne.mpr c4
  by_cases c57 : t285.toList = ([] : List UInt8)
  ·
   rw [if_pos c57] at H
   have c57b0 : (t285.toList == ([] : List UInt8)) = true := beq_iff_eq.mpr c57
   have c57b1 : (t285.toList != ([] : List UInt8)) = false := bne_eq_false_iff_eq.mpr c57
   clear c57
   replace H := Option.bind_eq_some_iff.mp H
   obtain ⟨t288, A580, H⟩ := H
   replace H : (some t288) = some r := H
   have A58 := Aside0.mk A580
   clear A580
   obtain rfl := Option.some.inj H
   go_enter Tryd.func4, Tryd.ntmps4
   go_wp2_with (first | ((with_reducible refine gate_callee (f := 16) rfl ?_); refine goesL_ (some 10) rfl rfl Tryd.func16 (by kernel_rfl) rfl #[.slice A0 l0.length c0] rfl (by (try simp only [List.map_toArray, List.map_cons, List.map_nil]); first | done | rfl | (simp only [List.length_drop, List.length_take]; rfl)) ?_; (with_reducible refine (token_Join.calls k _ _ l0 t285 t286 _ ?side1 ?side2 ?side3 A2.out).mono ?_); (case side1 => exact GInv.below HG.out (by repeat (first | (with_reducible first | exact HB.out | apply below_alloc | apply pw_below_drewN | apply below_drew1) | exact HB.out))); (case side2 => repeat (first | exact HR0.out | (with_reducible refine Kd.C_alloc ?_ _) | (with_reducible refine Kd.C_drewN ?_ _) | (with_reducible refine Kd.C_drew ?_))); (case side3 => exact HC0.out); rintro e w59 ⟨rfl, hb⟩; refine ⟨_, rfl, ?_⟩; have n0_ := Aside0.mk (below_step (by repeat (first | (with_reducible first | exact HB.out | apply below_alloc | apply pw_below_drewN | apply below_drew1) | exact HB.out)) hb); clear HB; have HB := n0_; clear n0_; (try clear hb); (try clear hb2); (try clear hk); (try clear hi)) | ((with_reducible refine gate_callee (f := 17) rfl ?_); refine goesL_ (some 14) rfl rfl Tryd.func17 (by kernel_rfl) rfl #[.int .i64 t286] rfl (by (try simp only [List.map_toArray, List.map_cons, List.map_nil]); first | done | rfl | (simp only [List.length_drop, List.length_take]; rfl)) ?_; (with_reducible refine (mortiselaw02_num.calls t286 t287 _ A3.out).mono ?_); rintro e w' ⟨rfl, ⟨nd, rfl⟩⟩; refine ⟨_, rfl, ?_⟩) | (go_at_call 15; (with_reducible refine (mortiselaw02_heads.calls k  t288 _ ?side1 A58.out).mono ?_); (case side1 => exact GInv.below HG.out (by repeat (first | (with_reducible first | exact HB.out | apply below_alloc | apply pw_below_drewN | apply below_drew1) | exact HB.out))); rintro e w60 ⟨rfl, hb⟩; have n0_ := Aside0.mk (below_step (by repeat (first | (with_reducible first | exact HB.out | apply below_alloc | apply pw_below_drewN | apply below_drew1) | exact HB.out)) hb); clear HB; have HB := n0_; clear n0_; (try clear hb); (try clear hb2); (try clear hk); (try clear hi)))
   go_ret
   exact ⟨by first | rfl | (simp [errW_none, errW_some] <;> rfl) | (simp [*, errW_none, errW_some] <;> rfl), by repeat (first | (with_reducible first | exact HB.out | apply below_alloc | apply pw_below_drewN | apply below_drew1) | exact HB.out)⟩
  ·
   rw [if_neg c57] at H
   exact absurd H (by simp)

end Go.Proofs.YtpfjkpknljigmaaDoor.Q
