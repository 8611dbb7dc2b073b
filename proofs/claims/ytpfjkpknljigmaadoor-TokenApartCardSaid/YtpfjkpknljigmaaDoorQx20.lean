-- Written by a program of this session (qprint.py) out of the translation; the kernel checks it.
import Derived.Test.YtpfjkpknljigmaaDoorQx0
import Derived.Test.YtpfjkpknljigmaaDoorQx2
import Derived.Test.YtpfjkpknljigmaaDoorQx7
import Derived.Test.YtpfjkpknljigmaaDoorQx16
import Derived.Test.YtpfjkpknljigmaaDoorH0
import Derived.Test.YtpfjkpknljigmaaDoorH3
namespace Go.Proofs.YtpfjkpknljigmaaDoor.Q
open Go.RowKit Go.Proofs.YtpfjkpknljigmaaDoorW.PrintWords Go.Proofs.YtpfjkpknljigmaaDoorW.PrintLast Go.Proofs.YtpfjkpknljigmaaDoorW.PrintMore
attribute [local go_sem] max2_int min2_int max_two min_two max_three min_three max_four min_four   -- for this text's walks alone
set_option linter.unusedVariables false
set_option linter.unusedSimpArgs false

attribute [local go_sem high] eqA34
/-! ### mortiselaw02_TokenApart: function 7 -/
mutual
def mortiselaw02_TokenApart.j0 : Nat → ByteArray → ByteArray → List (S40) → List (S40) → Bool → Option (Bool)
 | 0, _, _, _, _, _ => none
 | k + 1, x0, x1, x5, x7, x45 => if x45 = true then ((mortiselaw02_heads.f k).bind fun t395 => (some t395)) else (if x0.size + 1 ≤ 9223372036854775807 then (if (x0 ++ (⟨#[10]⟩ : ByteArray)).size + x1.size ≤ 9223372036854775807 then ((token_Scan.f ((x0 ++ (⟨#[10]⟩ : ByteArray)) ++ x1)).bind fun bt396 => (if (!(bt396.2.1 == 0) || ((!(bt396.2.2.1 == 0) || (!(bt396.2.2.2.1 == 0) || (!(bt396.2.2.2.2 == 0)))))) = true then (mortiselaw02_TokenApart.j1 k x5 x7 bt396.1 true) else (mortiselaw02_TokenApart.j1 k x5 x7 bt396.1 ((bt396.1.length : Int) != (wrap64 ((wrap64 ((x5.length : Int) - 1)) + (x7.length : Int))))))) else (none)) else (none))
def mortiselaw02_TokenApart.j1 : Nat → List (S40) → List (S40) → List (S40) → Bool → Option (Bool)
 | 0, _, _, _, _ => none
 | k + 1, x5, x7, x9, x68 => if x68 = true then (none) else (if 0 ≤ (wrap64 ((x5.length : Int) - 1)) then (if (wrap64 ((x5.length : Int) - 1)) ≤ (x5.length : Int) then ((mortiselaw02_plain.f k (x5.take ((wrap64 ((x5.length : Int) - 1)) : Int).toNat)).bind fun t408 => ((mortiselaw02_plain.f k x7).bind fun t411 => (if t408.length + t411.length < 2513169434916 then ((mortiselaw02_plain.f k x9).bind fun t417 => ((mortiselaw02_Same.f k t417 (t408 ++ t411)).bind fun t420 => (if t420 = true then ((mortiselaw02_heads.f k).bind fun t421 => (some t421)) else (none)))) else (none)))) else (none)) else (none))
end
def mortiselaw02_TokenApart.f (k : Nat) (a0 : ByteArray) (a1 : ByteArray) : Option (Bool) := (token_Scan.f a0).bind fun bt379 => ((token_Scan.f a1).bind fun bt387 => (if (!(bt379.2.1 == 0) || ((!(bt379.2.2.1 == 0) || (!(bt379.2.2.2.1 == 0) || (!(bt379.2.2.2.2 == 0)))))) = true then (mortiselaw02_TokenApart.j0 k a0 a1 bt379.1 bt387.1 true) else (if (!(bt387.2.1 == 0) || ((!(bt387.2.2.1 == 0) || (!(bt387.2.2.2.1 == 0) || (!(bt387.2.2.2.2 == 0)))))) = true then (mortiselaw02_TokenApart.j0 k a0 a1 bt379.1 bt387.1 true) else (if (wrap64 ((a0.size : Int) + (a1.size : Int))) > 60000 then (mortiselaw02_TokenApart.j0 k a0 a1 bt379.1 bt387.1 true) else (mortiselaw02_TokenApart.j0 k a0 a1 bt379.1 bt387.1 (decide ((wrap64 ((bt379.1.length : Int) + (bt387.1.length : Int))) > 16000)))))))
theorem mortiselaw02_TokenApart.mono_l : ∀ k, (∀ y0 y1 y2 y3 y4, LeO (mortiselaw02_TokenApart.j0 k y0 y1 y2 y3 y4) (mortiselaw02_TokenApart.j0 (k + 1) y0 y1 y2 y3 y4)) ∧ (∀ y0 y1 y2 y3, LeO (mortiselaw02_TokenApart.j1 k y0 y1 y2 y3) (mortiselaw02_TokenApart.j1 (k + 1) y0 y1 y2 y3))
 | 0 => ⟨fun _ _ _ _ _ r h => by simp [mortiselaw02_TokenApart.j0] at h, fun _ _ _ _ r h => by simp [mortiselaw02_TokenApart.j1] at h⟩
 | k + 1 => by
  obtain ⟨ih0, ih1⟩ := mortiselaw02_TokenApart.mono_l k
  refine ⟨?_, ?_⟩
  ·
   intro y0 y1 y2 y3 y4
   unfold mortiselaw02_TokenApart.j0
   repeat' first
   | (with_reducible exact ih0 _ _ _ _ _)
   | (with_reducible exact ih1 _ _ _ _)
   | (with_reducible exact mortiselaw02_Same.mono _ _ _)
   | (with_reducible exact mortiselaw02_heads.mono _)
   | (with_reducible exact mortiselaw02_plain.mono _ _)
   | (with_reducible exact LeO.refl _)
   | (with_reducible exact LeO.none _)
   | (with_reducible refine LeO.ite ?_ ?_)
   | (with_reducible refine LeO.bind ?_ (fun _ => ?_))
   | exact ih0 _ _ _ _ _
   | exact ih1 _ _ _ _
   | exact mortiselaw02_Same.mono _ _ _
   | exact mortiselaw02_heads.mono _
   | exact mortiselaw02_plain.mono _ _
   | exact LeO.none _
   | refine LeO.ite ?_ ?_
   | refine LeO.bind ?_ (fun _ => ?_)
  ·
   intro y0 y1 y2 y3
   unfold mortiselaw02_TokenApart.j1
   repeat' first
   | (with_reducible exact ih0 _ _ _ _ _)
   | (with_reducible exact ih1 _ _ _ _)
   | (with_reducible exact mortiselaw02_Same.mono _ _ _)
   | (with_reducible exact mortiselaw02_heads.mono _)
   | (with_reducible exact mortiselaw02_plain.mono _ _)
   | (with_reducible exact LeO.refl _)
   | (with_reducible exact LeO.none _)
   | (with_reducible refine LeO.ite ?_ ?_)
   | (with_reducible refine LeO.bind ?_ (fun _ => ?_))
   | exact ih0 _ _ _ _ _
   | exact ih1 _ _ _ _
   | exact mortiselaw02_Same.mono _ _ _
   | exact mortiselaw02_heads.mono _
   | exact mortiselaw02_plain.mono _ _
   | exact LeO.none _
   | refine LeO.ite ?_ ?_
   | refine LeO.bind ?_ (fun _ => ?_)
theorem mortiselaw02_TokenApart.mono : ∀ a0 a1 k, LeO (mortiselaw02_TokenApart.f k a0 a1) (mortiselaw02_TokenApart.f (k + 1) a0 a1) := by
 intro a0 a1 k
 obtain ⟨ih0, ih1⟩ := mortiselaw02_TokenApart.mono_l k
 unfold mortiselaw02_TokenApart.f
 repeat' first
   | (with_reducible exact ih0 _ _ _ _ _)
   | (with_reducible exact ih1 _ _ _ _)
   | (with_reducible exact mortiselaw02_Same.mono _ _ _)
   | (with_reducible exact mortiselaw02_heads.mono _)
   | (with_reducible exact mortiselaw02_plain.mono _ _)
   | (with_reducible exact LeO.refl _)
   | (with_reducible exact LeO.none _)
   | (with_reducible refine LeO.ite ?_ ?_)
   | (with_reducible refine LeO.bind ?_ (fun _ => ?_))
   | exact ih0 _ _ _ _ _
   | exact ih1 _ _ _ _
   | exact mortiselaw02_Same.mono _ _ _
   | exact mortiselaw02_heads.mono _
   | exact mortiselaw02_plain.mono _ _
   | exact LeO.none _
   | refine LeO.ite ?_ ?_
   | refine LeO.bind ?_ (fun _ => ?_)
set_option maxHeartbeats 2000000 in
set_option maxRecDepth 100000 in
theorem mortiselaw02_TokenApart.calls (k : Nat) (a0 : ByteArray) (a1 : ByteArray) (r : Bool) (w : World) (hG : GInv w) (h : mortiselaw02_TokenApart.f k a0 a1 = some r) :
  Calls Tryd.prog 7 #[.string a0, .string a1] w fun e w' => e = .returned (.bool r) ∧ Below w.heap.size w w' := by
 have hu34 := Tryd.underlying34
 have HB := Aside0.mk (Below.refl w.heap.size w)
 have HG := Aside0.mk hG
 clear hG
 have H : ((token_Scan.f a0).bind fun bt379 => ((token_Scan.f a1).bind fun bt387 => (if (!(bt379.2.1 == 0) || ((!(bt379.2.2.1 == 0) || (!(bt379.2.2.2.1 == 0) || (!(bt379.2.2.2.2 == 0)))))) = true then (mortiselaw02_TokenApart.j0 k a0 a1 bt379.1 bt387.1 true) else (if (!(bt387.2.1 == 0) || ((!(bt387.2.2.1 == 0) || (!(bt387.2.2.2.1 == 0) || (!(bt387.2.2.2.2 == 0)))))) = true then (mortiselaw02_TokenApart.j0 k a0 a1 bt379.1 bt387.1 true) else (if (wrap64 ((a0.size : Int) + (a1.size : Int))) > 60000 then (mortiselaw02_TokenApart.j0 k a0 a1 bt379.1 bt387.1 true) else (mortiselaw02_TokenApart.j0 k a0 a1 bt379.1 bt387.1 (decide ((wrap64 ((bt379.1.length : Int) + (bt387.1.length : Int))) > 16000)))))))) = some r := h
 clear h
 replace H := Option.bind_eq_some_iff.mp H
 obtain ⟨⟨t379, t382, t383, t384, t385⟩, A30, H⟩ := H
 replace H : ((token_Scan.f a1).bind fun bt387 => (if (!(t382 == 0) || ((!(t383 == 0) || (!(t384 == 0) || (!(t385 == 0)))))) = true then (mortiselaw02_TokenApart.j0 k a0 a1 t379 bt387.1 true) else (if (!(bt387.2.1 == 0) || ((!(bt387.2.2.1 == 0) || (!(bt387.2.2.2.1 == 0) || (!(bt387.2.2.2.2 == 0)))))) = true then (mortiselaw02_TokenApart.j0 k a0 a1 t379 bt387.1 true) else (if (wrap64 ((a0.size : Int) + (a1.size : Int))) > 60000 then (mortiselaw02_TokenApart.j0 k a0 a1 t379 bt387.1 true) else (mortiselaw02_TokenApart.j0 k a0 a1 t379 bt387.1 (decide ((wrap64 ((t379.length : Int) + (bt387.1.length : Int))) > 16000))))))) = some r := H
 have A3 := Aside0.mk A30
 clear A30
 replace H := Option.bind_eq_some_iff.mp H
 obtain ⟨⟨t387, t390, t391, t392, t393⟩, A40, H⟩ := H
 replace H : (if (!(t382 == 0) || ((!(t383 == 0) || (!(t384 == 0) || (!(t385 == 0)))))) = true then (mortiselaw02_TokenApart.j0 k a0 a1 t379 t387 true) else (if (!(t390 == 0) || ((!(t391 == 0) || (!(t392 == 0) || (!(t393 == 0)))))) = true then (mortiselaw02_TokenApart.j0 k a0 a1 t379 t387 true) else (if (wrap64 ((a0.size : Int) + (a1.size : Int))) > 60000 then (mortiselaw02_TokenApart.j0 k a0 a1 t379 t387 true) else (mortiselaw02_TokenApart.j0 k a0 a1 t379 t387 (decide ((wrap64 ((t379.length : Int) + (t387.length : Int))) > 16000)))))) = some r := H
 have A4 := Aside0.mk A40
 clear A40
 have HC5 := Aside0.mk H
 clear H
 go_enter Tryd.func7, Tryd.ntmps7
 go_upto_region 3 with (first | ((with_reducible refine gate_callee (f := 18) rfl ?_); refine goesL_ (some 14) rfl rfl Tryd.func18 (by kernel_rfl) rfl #[.string a0] rfl (by (try simp only [List.map_toArray, List.map_cons, List.map_nil]); first | done | rfl | (simp only [List.length_drop, List.length_take]; rfl)) ?_; (with_reducible refine (token_Scan.calls a0 t379 t382 t383 t384 t385 _ ?side1 A3.out).mono ?_); (case side1 => exact GInv.below HG.out (by repeat (first | (with_reducible first | exact HB.out | apply below_alloc | apply pw_below_drewN | apply below_drew1) | exact HB.out))); rintro e w6 ⟨v380, rfl, ho0, hb⟩; refine ⟨_, rfl, ?_⟩; have n0_ := Aside0.mk (Kd.R_lower ho0 (below_size (by repeat (first | (with_reducible first | exact HB.out | apply below_alloc | apply pw_below_drewN | apply below_drew1) | exact HB.out)))); have n1_ := Aside0.mk (below_step (by repeat (first | (with_reducible first | exact HB.out | apply below_alloc | apply pw_below_drewN | apply below_drew1) | exact HB.out)) hb); clear HB; have HO381 := n0_; have HB := n1_; clear n0_ n1_; (try clear hb); (try clear hb2); (try clear hk); (try clear hi); (try clear ho0)) | ((with_reducible refine gate_dst (N := 6) rfl ?_); refine box_event ?hg (N := 6) ?hd (cs := #[.int .i64 0, .int .i64 0, .int .i64 0, .int .i64 0]) (t := 34) ?hr ?_; (case hd => rfl); (case hg => rfl); (case hr => first | (go_simp; done) | (go_simp; rfl)); intro gb386 hg w7 hbox hb; have n0_ := Aside0.mk (Kd.R_below (by (with_reducible repeat (first | apply Kd.R_alloc | apply Kd.R_drewN | apply Kd.R_drew)); exact HO381.out) hb); have n1_ := Aside0.mk (below_step (by repeat (first | (with_reducible first | exact HB.out | apply below_alloc | apply pw_below_drewN | apply below_drew1) | exact HB.out)) hb); have n2_ := Aside0.mk (hbox); have n3_ := Aside0.mk ((by rw [hg]; exact (below_size (by repeat (first | (with_reducible first | exact HB.out | apply below_alloc | apply pw_below_drewN | apply below_drew1) | exact HB.out))) : w.heap.size ≤ gb386)); have n4_ := n3_; clear HO381; clear HB; have HO381 := n0_; have HB := n1_; have BK386 := n2_; have GW386 := n3_; have GE386 := n4_; clear n0_ n1_ n2_ n3_ n4_; clear hb hbox hg; have hcz8_0 : w7.cell? ⟨gb386, 0, none⟩ = some (.int .i64 0) := (blk_cell BK386.out 0).trans rfl; have hcz8_1 : w7.cell? ⟨gb386, 1, none⟩ = some (.int .i64 0) := (blk_cell BK386.out 1).trans rfl; have hcz8_2 : w7.cell? ⟨gb386, 2, none⟩ = some (.int .i64 0) := (blk_cell BK386.out 2).trans rfl; have hcz8_3 : w7.cell? ⟨gb386, 3, none⟩ = some (.int .i64 0) := (blk_cell BK386.out 3).trans rfl; have hfz8_0 := blk_frozen BK386.out 0; have hfz8_1 := blk_frozen BK386.out 1; have hfz8_2 := blk_frozen BK386.out 2; have hfz8_3 := blk_frozen BK386.out 3) | ((with_reducible refine gate_callee (f := 18) rfl ?_); refine goesL_ (some 19) rfl rfl Tryd.func18 (by kernel_rfl) rfl #[.string a1] rfl (by (try simp only [List.map_toArray, List.map_cons, List.map_nil]); first | done | rfl | (simp only [List.length_drop, List.length_take]; rfl)) ?_; (with_reducible refine (token_Scan.calls a1 t387 t390 t391 t392 t393 _ ?side1 A4.out).mono ?_); (case side1 => exact GInv.below HG.out (by repeat (first | (with_reducible first | exact HB.out | apply below_alloc | apply pw_below_drewN | apply below_drew1 | refine below_set ?_ GE386.out) | exact HB.out))); rintro e w9 ⟨v388, rfl, ho0, hb⟩; refine ⟨_, rfl, ?_⟩; have n0_ := Aside0.mk (Kd.R_elder' (by (with_reducible repeat (first | apply Kd.R_alloc | apply Kd.R_drewN | apply Kd.R_drew)); exact (Kd.R_mono (Kd.R_far (p := ⟨gb386, 3, none⟩) (Kd.R_far (p := ⟨gb386, 2, none⟩) (Kd.R_far (p := ⟨gb386, 1, none⟩) (Kd.R_far (p := ⟨gb386, 0, none⟩) (Kd.R_types HO381.out BK386.out (by decide)) (fun _ hk => hk.2) (.int .i64 t382)) (fun _ hk => hk.2) (.int .i64 t383)) (fun _ hk => hk.2) (.int .i64 t384)) (fun _ hk => hk.2) (.int .i64 t385)) (fun _ h_ => h_.1))) (Kd.R_base ho0) hb); have n1_ := Aside0.mk (Kd.R_lower (Kd.R_new' ho0 (Kd.R_lt (by (with_reducible repeat (first | apply Kd.R_alloc | apply Kd.R_drewN | apply Kd.R_drew)); exact (Kd.R_mono (Kd.R_far (p := ⟨gb386, 3, none⟩) (Kd.R_far (p := ⟨gb386, 2, none⟩) (Kd.R_far (p := ⟨gb386, 1, none⟩) (Kd.R_far (p := ⟨gb386, 0, none⟩) (Kd.R_types HO381.out BK386.out (by decide)) (fun _ hk => hk.2) (.int .i64 t382)) (fun _ hk => hk.2) (.int .i64 t383)) (fun _ hk => hk.2) (.int .i64 t384)) (fun _ hk => hk.2) (.int .i64 t385)) (fun _ h_ => h_.1))))) (below_size (by repeat (first | (with_reducible first | exact HB.out | apply below_alloc | apply pw_below_drewN | apply below_drew1 | refine below_set ?_ GE386.out) | exact HB.out)))); have n2_ := Aside0.mk (blk_below (g := gb386) (o := .cells #[.int .i64 t382, .int .i64 t383, .int .i64 t384, .int .i64 t385] 34 (0, 0)) (by (with_reducible repeat (first | refine blk_drewN ?_ _ | refine blk_drew ?_ | refine blk_alloc ?_ _)); refine blk_put (cs := #[.int .i64 t382, .int .i64 t383, .int .i64 t384, .int .i64 0]) ?_ 3 _ rfl; (with_reducible repeat (first | refine blk_drewN ?_ _ | refine blk_drew ?_ | refine blk_alloc ?_ _)); refine blk_put (cs := #[.int .i64 t382, .int .i64 t383, .int .i64 0, .int .i64 0]) ?_ 2 _ rfl; (with_reducible repeat (first | refine blk_drewN ?_ _ | refine blk_drew ?_ | refine blk_alloc ?_ _)); refine blk_put (cs := #[.int .i64 t382, .int .i64 0, .int .i64 0, .int .i64 0]) ?_ 1 _ rfl; (with_reducible repeat (first | refine blk_drewN ?_ _ | refine blk_drew ?_ | refine blk_alloc ?_ _)); refine blk_put (cs := #[.int .i64 0, .int .i64 0, .int .i64 0, .int .i64 0]) ?_ 0 _ rfl; (with_reducible repeat (first | refine blk_drewN ?_ _ | refine blk_drew ?_ | refine blk_alloc ?_ _)); exact BK386.out) hb); have n3_ := Aside0.mk (below_step (by repeat (first | (with_reducible first | exact HB.out | apply below_alloc | apply pw_below_drewN | apply below_drew1 | refine below_set ?_ GE386.out) | exact HB.out)) hb); clear HO381; clear BK386; clear HB; have HO381 := n0_; have HO389 := n1_; have BK386 := n2_; have HB := n3_; clear n0_ n1_ n2_ n3_; (try clear hb); (try clear hb2); (try clear hk); (try clear hi); (try clear ho0)) | ((with_reducible refine gate_dst (N := 8) rfl ?_); refine box_event ?hg (N := 8) ?hd (cs := #[.int .i64 0, .int .i64 0, .int .i64 0, .int .i64 0]) (t := 34) ?hr ?_; (case hd => rfl); (case hg => rfl); (case hr => first | (go_simp; done) | (go_simp; rfl)); intro gb394 hg w10 hbox hb; have n0_ := Aside0.mk (Kd.R_below (by (with_reducible repeat (first | apply Kd.R_alloc | apply Kd.R_drewN | apply Kd.R_drew)); exact HO381.out) hb); have n1_ := Aside0.mk (Kd.R_below (by (with_reducible repeat (first | apply Kd.R_alloc | apply Kd.R_drewN | apply Kd.R_drew)); exact HO389.out) hb); have n2_ := Aside0.mk (blk_below (g := gb386) (o := .cells #[.int .i64 t382, .int .i64 t383, .int .i64 t384, .int .i64 t385] 34 (0, 0)) (by (with_reducible repeat (first | refine blk_drewN ?_ _ | refine blk_drew ?_ | refine blk_alloc ?_ _)); exact BK386.out) hb); have n3_ := Aside0.mk (below_step (by repeat (first | (with_reducible first | exact HB.out | apply below_alloc | apply pw_below_drewN | apply below_drew1 | refine below_set ?_ GE386.out) | exact HB.out)) hb); have n4_ := Aside0.mk (hbox); have n5_ := Aside0.mk ((by rw [hg]; exact (below_size (by repeat (first | (with_reducible first | exact HB.out | apply below_alloc | apply pw_below_drewN | apply below_drew1 | refine below_set ?_ GE386.out) | exact HB.out))) : w.heap.size ≤ gb394)); have n6_ := n5_; have n7_ := Aside0.mk ((by rw [hg]; exact Nat.ne_of_lt (blk_lt (g := gb386) (o := .cells #[.int .i64 t382, .int .i64 t383, .int .i64 t384, .int .i64 t385] 34 (0, 0)) (by (with_reducible repeat (first | refine blk_drewN ?_ _ | refine blk_drew ?_ | refine blk_alloc ?_ _)); exact BK386.out)) : gb386 ≠ gb394)); have n8_ := Aside0.mk ((by rw [hg]; exact Nat.ne_of_gt (blk_lt (g := gb386) (o := .cells #[.int .i64 t382, .int .i64 t383, .int .i64 t384, .int .i64 t385] 34 (0, 0)) (by (with_reducible repeat (first | refine blk_drewN ?_ _ | refine blk_drew ?_ | refine blk_alloc ?_ _)); exact BK386.out)) : gb394 ≠ gb386)); clear HO381; clear HO389; clear BK386; clear HB; have HO381 := n0_; have HO389 := n1_; have BK386 := n2_; have HB := n3_; have BK394 := n4_; have GW394 := n5_; have GE394 := n6_; have NB386_394 := n7_; have NB394_386 := n8_; clear n0_ n1_ n2_ n3_ n4_ n5_ n6_ n7_ n8_; clear hb hbox hg; have hnb11 := NB394_386.out; have hnc11 := NB386_394.out; have hcz12_0 : w10.cell? ⟨gb394, 0, none⟩ = some (.int .i64 0) := (blk_cell BK394.out 0).trans rfl; have hcz12_1 : w10.cell? ⟨gb394, 1, none⟩ = some (.int .i64 0) := (blk_cell BK394.out 1).trans rfl; have hcz12_2 : w10.cell? ⟨gb394, 2, none⟩ = some (.int .i64 0) := (blk_cell BK394.out 2).trans rfl; have hcz12_3 : w10.cell? ⟨gb394, 3, none⟩ = some (.int .i64 0) := (blk_cell BK394.out 3).trans rfl; have hfz12_0 := blk_frozen BK394.out 0; have hfz12_1 := blk_frozen BK394.out 1; have hfz12_2 := blk_frozen BK394.out 2; have hfz12_3 := blk_frozen BK394.out 3))
 (try simp only [Act.put, List.setIfInBounds_toArray, List.set_cons_zero, List.set_cons_succ])
 go_cut [45] (fun v45 wc => ∃ (kq : Nat) (x45_4 : Bool), v45 = .bool x45_4 ∧ Aside0 (mortiselaw02_TokenApart.j0 kq a0 a1 t379 t387 x45_4 = some r) ∧ Aside0 (kq ≤ k) ∧ Aside0 (Kd.R k40 40 wc w.heap.size (fun k_ => some k_ ≠ (v388 : Value).ownBlock) v380 t379) ∧ Aside0 (Kd.R k40 40 wc w.heap.size (fun k_ => some k_ ≠ (v380 : Value).ownBlock) v388 t387) ∧ Aside0 (wc.heap[gb386]? = some (.cells #[.int .i64 t382, .int .i64 t383, .int .i64 t384, .int .i64 t385] 34 (0, 0))) ∧ Aside0 (wc.heap[gb394]? = some (.cells #[.int .i64 t390, .int .i64 t391, .int .i64 t392, .int .i64 t393] 34 (0, 0))) ∧ Aside0 (Below w.heap.size w wc))
 case first =>
  have H := HC5.out
  clear HC5
  by_cases c13 : (!(t382 == 0) || ((!(t383 == 0) || (!(t384 == 0) || (!(t385 == 0)))))) = true
  ·
   rw [if_pos c13] at H
   have c13b0 : (!(t382 == 0) || ((!(t383 == 0) || (!(t384 == 0) || (!(t385 == 0)))))) = true := c13
   clear c13
   (first | rw [c13b0] | (simp only [i64_w, i32_w]; rw [c13b0]) | skip)
   have H' := Aside0.mk H
   clear H
   have hnb14 := NB386_394.out
   have hnc14 := NB394_386.out
   have hcz15_0 : w10.cell? ⟨gb386, 0, none⟩ = some (.int .i64 t382) := (blk_cell BK386.out 0).trans rfl
   have hcz15_1 : w10.cell? ⟨gb386, 1, none⟩ = some (.int .i64 t383) := (blk_cell BK386.out 1).trans rfl
   have hcz15_2 : w10.cell? ⟨gb386, 2, none⟩ = some (.int .i64 t384) := (blk_cell BK386.out 2).trans rfl
   have hcz15_3 : w10.cell? ⟨gb386, 3, none⟩ = some (.int .i64 t385) := (blk_cell BK386.out 3).trans rfl
   have hfz15_0 := blk_frozen BK386.out 0
   have hfz15_1 := blk_frozen BK386.out 1
   have hfz15_2 := blk_frozen BK386.out 2
   have hfz15_3 := blk_frozen BK386.out 3
   go_wp2
   go_meet
   case rel => exact ⟨_, (true), (by first | rfl | (simp; done) | (simp [*]; done)), H', ⟨by first | omega | exact Nat.le_refl _⟩, ⟨by (with_reducible repeat (first | apply Kd.R_alloc | apply Kd.R_drewN | apply Kd.R_drew)); exact Kd.R_mono (Kd.R_far (p := ⟨gb394, 3, none⟩) (Kd.R_far (p := ⟨gb394, 2, none⟩) (Kd.R_far (p := ⟨gb394, 1, none⟩) (Kd.R_far (p := ⟨gb394, 0, none⟩) (Kd.R_types HO381.out BK394.out (by decide)) (fun _ hk => hk.2) (.int .i64 t390)) (fun _ hk => hk.2) (.int .i64 t391)) (fun _ hk => hk.2) (.int .i64 t392)) (fun _ hk => hk.2) (.int .i64 t393)) (fun _ hk => hk.1.2)⟩, ⟨by (with_reducible repeat (first | apply Kd.R_alloc | apply Kd.R_drewN | apply Kd.R_drew)); exact Kd.R_mono (Kd.R_far (p := ⟨gb394, 3, none⟩) (Kd.R_far (p := ⟨gb394, 2, none⟩) (Kd.R_far (p := ⟨gb394, 1, none⟩) (Kd.R_far (p := ⟨gb394, 0, none⟩) (Kd.R_types HO389.out BK394.out (by decide)) (fun _ hk => hk.2) (.int .i64 t390)) (fun _ hk => hk.2) (.int .i64 t391)) (fun _ hk => hk.2) (.int .i64 t392)) (fun _ hk => hk.2) (.int .i64 t393)) (fun _ hk => hk.1.2)⟩, ⟨by (with_reducible repeat (first | refine blk_drewN ?_ _ | refine blk_drew ?_ | refine blk_alloc ?_ _)); refine blk_far ?_ NB386_394.out _; (with_reducible repeat (first | refine blk_drewN ?_ _ | refine blk_drew ?_ | refine blk_alloc ?_ _)); refine blk_far ?_ NB386_394.out _; (with_reducible repeat (first | refine blk_drewN ?_ _ | refine blk_drew ?_ | refine blk_alloc ?_ _)); refine blk_far ?_ NB386_394.out _; (with_reducible repeat (first | refine blk_drewN ?_ _ | refine blk_drew ?_ | refine blk_alloc ?_ _)); refine blk_far ?_ NB386_394.out _; (with_reducible repeat (first | refine blk_drewN ?_ _ | refine blk_drew ?_ | refine blk_alloc ?_ _)); exact BK386.out⟩, ⟨by (with_reducible repeat (first | refine blk_drewN ?_ _ | refine blk_drew ?_ | refine blk_alloc ?_ _)); refine blk_put (cs := #[.int .i64 t390, .int .i64 t391, .int .i64 t392, .int .i64 0]) ?_ 3 _ rfl; (with_reducible repeat (first | refine blk_drewN ?_ _ | refine blk_drew ?_ | refine blk_alloc ?_ _)); refine blk_put (cs := #[.int .i64 t390, .int .i64 t391, .int .i64 0, .int .i64 0]) ?_ 2 _ rfl; (with_reducible repeat (first | refine blk_drewN ?_ _ | refine blk_drew ?_ | refine blk_alloc ?_ _)); refine blk_put (cs := #[.int .i64 t390, .int .i64 0, .int .i64 0, .int .i64 0]) ?_ 1 _ rfl; (with_reducible repeat (first | refine blk_drewN ?_ _ | refine blk_drew ?_ | refine blk_alloc ?_ _)); refine blk_put (cs := #[.int .i64 0, .int .i64 0, .int .i64 0, .int .i64 0]) ?_ 0 _ rfl; (with_reducible repeat (first | refine blk_drewN ?_ _ | refine blk_drew ?_ | refine blk_alloc ?_ _)); exact BK394.out⟩, ⟨by repeat (first | (with_reducible first | exact HB.out | apply below_alloc | apply pw_below_drewN | apply below_drew1 | refine below_set ?_ GE386.out | refine below_set ?_ GE394.out) | exact HB.out)⟩⟩
  ·
   rw [if_neg c13] at H
   have c13b0 : (!(t382 == 0) || ((!(t383 == 0) || (!(t384 == 0) || (!(t385 == 0)))))) = false := by simpa using c13
   clear c13
   (first | rw [c13b0] | (simp only [i64_w, i32_w]; rw [c13b0]) | skip)
   by_cases c16 : (!(t390 == 0) || ((!(t391 == 0) || (!(t392 == 0) || (!(t393 == 0)))))) = true
   ·
    rw [if_pos c16] at H
    have c16b0 : (!(t390 == 0) || ((!(t391 == 0) || (!(t392 == 0) || (!(t393 == 0)))))) = true := c16
    clear c16
    have H' := Aside0.mk H
    clear H
    have hnb17 := NB386_394.out
    have hnc17 := NB394_386.out
    have hcz18_0 : w10.cell? ⟨gb386, 0, none⟩ = some (.int .i64 t382) := (blk_cell BK386.out 0).trans rfl
    have hcz18_1 : w10.cell? ⟨gb386, 1, none⟩ = some (.int .i64 t383) := (blk_cell BK386.out 1).trans rfl
    have hcz18_2 : w10.cell? ⟨gb386, 2, none⟩ = some (.int .i64 t384) := (blk_cell BK386.out 2).trans rfl
    have hcz18_3 : w10.cell? ⟨gb386, 3, none⟩ = some (.int .i64 t385) := (blk_cell BK386.out 3).trans rfl
    have hfz18_0 := blk_frozen BK386.out 0
    have hfz18_1 := blk_frozen BK386.out 1
    have hfz18_2 := blk_frozen BK386.out 2
    have hfz18_3 := blk_frozen BK386.out 3
    have hcz19_0 : w10.cell? ⟨gb394, 0, none⟩ = some (.int .i64 0) := (blk_cell BK394.out 0).trans rfl
    have hcz19_1 : w10.cell? ⟨gb394, 1, none⟩ = some (.int .i64 0) := (blk_cell BK394.out 1).trans rfl
    have hcz19_2 : w10.cell? ⟨gb394, 2, none⟩ = some (.int .i64 0) := (blk_cell BK394.out 2).trans rfl
    have hcz19_3 : w10.cell? ⟨gb394, 3, none⟩ = some (.int .i64 0) := (blk_cell BK394.out 3).trans rfl
    have hfz19_0 := blk_frozen BK394.out 0
    have hfz19_1 := blk_frozen BK394.out 1
    have hfz19_2 := blk_frozen BK394.out 2
    have hfz19_3 := blk_frozen BK394.out 3
    go_wp2
    go_meet
    case rel => exact ⟨_, (true), (by first | rfl | (simp; done) | (simp [*]; done)), H', ⟨by first | omega | exact Nat.le_refl _⟩, ⟨by (with_reducible repeat (first | apply Kd.R_alloc | apply Kd.R_drewN | apply Kd.R_drew)); exact Kd.R_mono (Kd.R_far (p := ⟨gb394, 3, none⟩) (Kd.R_far (p := ⟨gb394, 2, none⟩) (Kd.R_far (p := ⟨gb394, 1, none⟩) (Kd.R_far (p := ⟨gb394, 0, none⟩) (Kd.R_types HO381.out BK394.out (by decide)) (fun _ hk => hk.2) (.int .i64 t390)) (fun _ hk => hk.2) (.int .i64 t391)) (fun _ hk => hk.2) (.int .i64 t392)) (fun _ hk => hk.2) (.int .i64 t393)) (fun _ hk => hk.1.2)⟩, ⟨by (with_reducible repeat (first | apply Kd.R_alloc | apply Kd.R_drewN | apply Kd.R_drew)); exact Kd.R_mono (Kd.R_far (p := ⟨gb394, 3, none⟩) (Kd.R_far (p := ⟨gb394, 2, none⟩) (Kd.R_far (p := ⟨gb394, 1, none⟩) (Kd.R_far (p := ⟨gb394, 0, none⟩) (Kd.R_types HO389.out BK394.out (by decide)) (fun _ hk => hk.2) (.int .i64 t390)) (fun _ hk => hk.2) (.int .i64 t391)) (fun _ hk => hk.2) (.int .i64 t392)) (fun _ hk => hk.2) (.int .i64 t393)) (fun _ hk => hk.1.2)⟩, ⟨by (with_reducible repeat (first | refine blk_drewN ?_ _ | refine blk_drew ?_ | refine blk_alloc ?_ _)); refine blk_far ?_ NB386_394.out _; (with_reducible repeat (first | refine blk_drewN ?_ _ | refine blk_drew ?_ | refine blk_alloc ?_ _)); refine blk_far ?_ NB386_394.out _; (with_reducible repeat (first | refine blk_drewN ?_ _ | refine blk_drew ?_ | refine blk_alloc ?_ _)); refine blk_far ?_ NB386_394.out _; (with_reducible repeat (first | refine blk_drewN ?_ _ | refine blk_drew ?_ | refine blk_alloc ?_ _)); refine blk_far ?_ NB386_394.out _; (with_reducible repeat (first | refine blk_drewN ?_ _ | refine blk_drew ?_ | refine blk_alloc ?_ _)); exact BK386.out⟩, ⟨by (with_reducible repeat (first | refine blk_drewN ?_ _ | refine blk_drew ?_ | refine blk_alloc ?_ _)); refine blk_put (cs := #[.int .i64 t390, .int .i64 t391, .int .i64 t392, .int .i64 0]) ?_ 3 _ rfl; (with_reducible repeat (first | refine blk_drewN ?_ _ | refine blk_drew ?_ | refine blk_alloc ?_ _)); refine blk_put (cs := #[.int .i64 t390, .int .i64 t391, .int .i64 0, .int .i64 0]) ?_ 2 _ rfl; (with_reducible repeat (first | refine blk_drewN ?_ _ | refine blk_drew ?_ | refine blk_alloc ?_ _)); refine blk_put (cs := #[.int .i64 t390, .int .i64 0, .int .i64 0, .int .i64 0]) ?_ 1 _ rfl; (with_reducible repeat (first | refine blk_drewN ?_ _ | refine blk_drew ?_ | refine blk_alloc ?_ _)); refine blk_put (cs := #[.int .i64 0, .int .i64 0, .int .i64 0, .int .i64 0]) ?_ 0 _ rfl; (with_reducible repeat (first | refine blk_drewN ?_ _ | refine blk_drew ?_ | refine blk_alloc ?_ _)); exact BK394.out⟩, ⟨by repeat (first | (with_reducible first | exact HB.out | apply below_alloc | apply pw_below_drewN | apply below_drew1 | refine below_set ?_ GE386.out | refine below_set ?_ GE394.out) | exact HB.out)⟩⟩
   ·
    rw [if_neg c16] at H
    have c16b0 : (!(t390 == 0) || ((!(t391 == 0) || (!(t392 == 0) || (!(t393 == 0)))))) = false := by simpa using c16
    clear c16
    by_cases c20 : (wrap64 ((a0.size : Int) + (a1.size : Int))) > 60000
    ·
     rw [if_pos c20] at H
     have c20b0 : decide (60000 < (wrap64 ((a0.size : Int) + (a1.size : Int)))) = true := decide_eq_true c20
     clear c20
     have H' := Aside0.mk H
     clear H
     have hnb21 := NB386_394.out
     have hnc21 := NB394_386.out
     have hcz22_0 : w10.cell? ⟨gb386, 0, none⟩ = some (.int .i64 t382) := (blk_cell BK386.out 0).trans rfl
     have hcz22_1 : w10.cell? ⟨gb386, 1, none⟩ = some (.int .i64 t383) := (blk_cell BK386.out 1).trans rfl
     have hcz22_2 : w10.cell? ⟨gb386, 2, none⟩ = some (.int .i64 t384) := (blk_cell BK386.out 2).trans rfl
     have hcz22_3 : w10.cell? ⟨gb386, 3, none⟩ = some (.int .i64 t385) := (blk_cell BK386.out 3).trans rfl
     have hfz22_0 := blk_frozen BK386.out 0
     have hfz22_1 := blk_frozen BK386.out 1
     have hfz22_2 := blk_frozen BK386.out 2
     have hfz22_3 := blk_frozen BK386.out 3
     have hcz23_0 : w10.cell? ⟨gb394, 0, none⟩ = some (.int .i64 0) := (blk_cell BK394.out 0).trans rfl
     have hcz23_1 : w10.cell? ⟨gb394, 1, none⟩ = some (.int .i64 0) := (blk_cell BK394.out 1).trans rfl
     have hcz23_2 : w10.cell? ⟨gb394, 2, none⟩ = some (.int .i64 0) := (blk_cell BK394.out 2).trans rfl
     have hcz23_3 : w10.cell? ⟨gb394, 3, none⟩ = some (.int .i64 0) := (blk_cell BK394.out 3).trans rfl
     have hfz23_0 := blk_frozen BK394.out 0
     have hfz23_1 := blk_frozen BK394.out 1
     have hfz23_2 := blk_frozen BK394.out 2
     have hfz23_3 := blk_frozen BK394.out 3
     go_wp2
     go_meet
     case rel => exact ⟨_, (true), (by first | rfl | (simp; done) | (simp [*]; done)), H', ⟨by first | omega | exact Nat.le_refl _⟩, ⟨by (with_reducible repeat (first | apply Kd.R_alloc | apply Kd.R_drewN | apply Kd.R_drew)); exact Kd.R_mono (Kd.R_far (p := ⟨gb394, 3, none⟩) (Kd.R_far (p := ⟨gb394, 2, none⟩) (Kd.R_far (p := ⟨gb394, 1, none⟩) (Kd.R_far (p := ⟨gb394, 0, none⟩) (Kd.R_types HO381.out BK394.out (by decide)) (fun _ hk => hk.2) (.int .i64 t390)) (fun _ hk => hk.2) (.int .i64 t391)) (fun _ hk => hk.2) (.int .i64 t392)) (fun _ hk => hk.2) (.int .i64 t393)) (fun _ hk => hk.1.2)⟩, ⟨by (with_reducible repeat (first | apply Kd.R_alloc | apply Kd.R_drewN | apply Kd.R_drew)); exact Kd.R_mono (Kd.R_far (p := ⟨gb394, 3, none⟩) (Kd.R_far (p := ⟨gb394, 2, none⟩) (Kd.R_far (p := ⟨gb394, 1, none⟩) (Kd.R_far (p := ⟨gb394, 0, none⟩) (Kd.R_types HO389.out BK394.out (by decide)) (fun _ hk => hk.2) (.int .i64 t390)) (fun _ hk => hk.2) (.int .i64 t391)) (fun _ hk => hk.2) (.int .i64 t392)) (fun _ hk => hk.2) (.int .i64 t393)) (fun _ hk => hk.1.2)⟩, ⟨by (with_reducible repeat (first | refine blk_drewN ?_ _ | refine blk_drew ?_ | refine blk_alloc ?_ _)); refine blk_far ?_ NB386_394.out _; (with_reducible repeat (first | refine blk_drewN ?_ _ | refine blk_drew ?_ | refine blk_alloc ?_ _)); refine blk_far ?_ NB386_394.out _; (with_reducible repeat (first | refine blk_drewN ?_ _ | refine blk_drew ?_ | refine blk_alloc ?_ _)); refine blk_far ?_ NB386_394.out _; (with_reducible repeat (first | refine blk_drewN ?_ _ | refine blk_drew ?_ | refine blk_alloc ?_ _)); refine blk_far ?_ NB386_394.out _; (with_reducible repeat (first | refine blk_drewN ?_ _ | refine blk_drew ?_ | refine blk_alloc ?_ _)); exact BK386.out⟩, ⟨by (with_reducible repeat (first | refine blk_drewN ?_ _ | refine blk_drew ?_ | refine blk_alloc ?_ _)); refine blk_put (cs := #[.int .i64 t390, .int .i64 t391, .int .i64 t392, .int .i64 0]) ?_ 3 _ rfl; (with_reducible repeat (first | refine blk_drewN ?_ _ | refine blk_drew ?_ | refine blk_alloc ?_ _)); refine blk_put (cs := #[.int .i64 t390, .int .i64 t391, .int .i64 0, .int .i64 0]) ?_ 2 _ rfl; (with_reducible repeat (first | refine blk_drewN ?_ _ | refine blk_drew ?_ | refine blk_alloc ?_ _)); refine blk_put (cs := #[.int .i64 t390, .int .i64 0, .int .i64 0, .int .i64 0]) ?_ 1 _ rfl; (with_reducible repeat (first | refine blk_drewN ?_ _ | refine blk_drew ?_ | refine blk_alloc ?_ _)); refine blk_put (cs := #[.int .i64 0, .int .i64 0, .int .i64 0, .int .i64 0]) ?_ 0 _ rfl; (with_reducible repeat (first | refine blk_drewN ?_ _ | refine blk_drew ?_ | refine blk_alloc ?_ _)); exact BK394.out⟩, ⟨by repeat (first | (with_reducible first | exact HB.out | apply below_alloc | apply pw_below_drewN | apply below_drew1 | refine below_set ?_ GE386.out | refine below_set ?_ GE394.out) | exact HB.out)⟩⟩
    ·
     rw [if_neg c20] at H
     have c20b0 : decide (60000 < (wrap64 ((a0.size : Int) + (a1.size : Int)))) = false := decide_eq_false c20
     clear c20
     have H' := Aside0.mk H
     clear H
     have hnb24 := NB386_394.out
     have hnc24 := NB394_386.out
     have hcz25_0 : w10.cell? ⟨gb386, 0, none⟩ = some (.int .i64 t382) := (blk_cell BK386.out 0).trans rfl
     have hcz25_1 : w10.cell? ⟨gb386, 1, none⟩ = some (.int .i64 t383) := (blk_cell BK386.out 1).trans rfl
     have hcz25_2 : w10.cell? ⟨gb386, 2, none⟩ = some (.int .i64 t384) := (blk_cell BK386.out 2).trans rfl
     have hcz25_3 : w10.cell? ⟨gb386, 3, none⟩ = some (.int .i64 t385) := (blk_cell BK386.out 3).trans rfl
     have hfz25_0 := blk_frozen BK386.out 0
     have hfz25_1 := blk_frozen BK386.out 1
     have hfz25_2 := blk_frozen BK386.out 2
     have hfz25_3 := blk_frozen BK386.out 3
     have hcz26_0 : w10.cell? ⟨gb394, 0, none⟩ = some (.int .i64 0) := (blk_cell BK394.out 0).trans rfl
     have hcz26_1 : w10.cell? ⟨gb394, 1, none⟩ = some (.int .i64 0) := (blk_cell BK394.out 1).trans rfl
     have hcz26_2 : w10.cell? ⟨gb394, 2, none⟩ = some (.int .i64 0) := (blk_cell BK394.out 2).trans rfl
     have hcz26_3 : w10.cell? ⟨gb394, 3, none⟩ = some (.int .i64 0) := (blk_cell BK394.out 3).trans rfl
     have hfz26_0 := blk_frozen BK394.out 0
     have hfz26_1 := blk_frozen BK394.out 1
     have hfz26_2 := blk_frozen BK394.out 2
     have hfz26_3 := blk_frozen BK394.out 3
     obtain ⟨Ao27, co27, eo27⟩ := Kd.R_slice HO381.out
     subst eo27
     obtain ⟨Ao28, co28, eo28⟩ := Kd.R_slice HO389.out
     subst eo28
     go_wp2
     go_meet
     case rel => exact ⟨_, (decide ((wrap64 ((t379.length : Int) + (t387.length : Int))) > 16000)), (by first | rfl | (simp; done) | (simp [*]; done)), H', ⟨by first | omega | exact Nat.le_refl _⟩, ⟨by (with_reducible repeat (first | apply Kd.R_alloc | apply Kd.R_drewN | apply Kd.R_drew)); exact Kd.R_mono (Kd.R_far (p := ⟨gb394, 3, none⟩) (Kd.R_far (p := ⟨gb394, 2, none⟩) (Kd.R_far (p := ⟨gb394, 1, none⟩) (Kd.R_far (p := ⟨gb394, 0, none⟩) (Kd.R_types HO381.out BK394.out (by decide)) (fun _ hk => hk.2) (.int .i64 t390)) (fun _ hk => hk.2) (.int .i64 t391)) (fun _ hk => hk.2) (.int .i64 t392)) (fun _ hk => hk.2) (.int .i64 t393)) (fun _ hk => hk.1.2)⟩, ⟨by (with_reducible repeat (first | apply Kd.R_alloc | apply Kd.R_drewN | apply Kd.R_drew)); exact Kd.R_mono (Kd.R_far (p := ⟨gb394, 3, none⟩) (Kd.R_far (p := ⟨gb394, 2, none⟩) (Kd.R_far (p := ⟨gb394, 1, none⟩) (Kd.R_far (p := ⟨gb394, 0, none⟩) (Kd.R_types HO389.out BK394.out (by decide)) (fun _ hk => hk.2) (.int .i64 t390)) (fun _ hk => hk.2) (.int .i64 t391)) (fun _ hk => hk.2) (.int .i64 t392)) (fun _ hk => hk.2) (.int .i64 t393)) (fun _ hk => hk.1.2)⟩, ⟨by (with_reducible repeat (first | refine blk_drewN ?_ _ | refine blk_drew ?_ | refine blk_alloc ?_ _)); refine blk_far ?_ NB386_394.out _; (with_reducible repeat (first | refine blk_drewN ?_ _ | refine blk_drew ?_ | refine blk_alloc ?_ _)); refine blk_far ?_ NB386_394.out _; (with_reducible repeat (first | refine blk_drewN ?_ _ | refine blk_drew ?_ | refine blk_alloc ?_ _)); refine blk_far ?_ NB386_394.out _; (with_reducible repeat (first | refine blk_drewN ?_ _ | refine blk_drew ?_ | refine blk_alloc ?_ _)); refine blk_far ?_ NB386_394.out _; (with_reducible repeat (first | refine blk_drewN ?_ _ | refine blk_drew ?_ | refine blk_alloc ?_ _)); exact BK386.out⟩, ⟨by (with_reducible repeat (first | refine blk_drewN ?_ _ | refine blk_drew ?_ | refine blk_alloc ?_ _)); refine blk_put (cs := #[.int .i64 t390, .int .i64 t391, .int .i64 t392, .int .i64 0]) ?_ 3 _ rfl; (with_reducible repeat (first | refine blk_drewN ?_ _ | refine blk_drew ?_ | refine blk_alloc ?_ _)); refine blk_put (cs := #[.int .i64 t390, .int .i64 t391, .int .i64 0, .int .i64 0]) ?_ 2 _ rfl; (with_reducible repeat (first | refine blk_drewN ?_ _ | refine blk_drew ?_ | refine blk_alloc ?_ _)); refine blk_put (cs := #[.int .i64 t390, .int .i64 0, .int .i64 0, .int .i64 0]) ?_ 1 _ rfl; (with_reducible repeat (first | refine blk_drewN ?_ _ | refine blk_drew ?_ | refine blk_alloc ?_ _)); refine blk_put (cs := #[.int .i64 0, .int .i64 0, .int .i64 0, .int .i64 0]) ?_ 0 _ rfl; (with_reducible repeat (first | refine blk_drewN ?_ _ | refine blk_drew ?_ | refine blk_alloc ?_ _)); exact BK394.out⟩, ⟨by repeat (first | (with_reducible first | exact HB.out | apply below_alloc | apply pw_below_drewN | apply below_drew1 | refine below_set ?_ GE386.out | refine below_set ?_ GE394.out) | exact HB.out)⟩⟩
 case rest =>
  clear HC5
  try clear c1
  try clear c2
  try clear p2
  try clear p6
  try clear c7
  try clear c11
  try clear c13
  try clear c13b0
  try clear c14
  try clear c16
  try clear c16b0
  try clear c17
  try clear c18
  try clear c20
  try clear c20b0
  try clear c21
  try clear c24
  try clear hcz12_0
  try clear hcz12_1
  try clear hcz12_2
  try clear hcz12_3
  try clear hcz15_0
  try clear hcz15_1
  try clear hcz15_2
  try clear hcz15_3
  try clear hcz18_0
  try clear hcz18_1
  try clear hcz18_2
  try clear hcz18_3
  try clear hcz19_0
  try clear hcz19_1
  try clear hcz19_2
  try clear hcz19_3
  try clear hcz22_0
  try clear hcz22_1
  try clear hcz22_2
  try clear hcz22_3
  try clear hcz23_0
  try clear hcz23_1
  try clear hcz23_2
  try clear hcz23_3
  try clear hcz25_0
  try clear hcz25_1
  try clear hcz25_2
  try clear hcz25_3
  try clear hcz26_0
  try clear hcz26_1
  try clear hcz26_2
  try clear hcz26_3
  try clear hcz8_0
  try clear hcz8_1
  try clear hcz8_2
  try clear hcz8_3
  try clear hfz12_0
  try clear hfz12_1
  try clear hfz12_2
  try clear hfz12_3
  try clear hfz15_0
  try clear hfz15_1
  try clear hfz15_2
  try clear hfz15_3
  try clear hfz18_0
  try clear hfz18_1
  try clear hfz18_2
  try clear hfz18_3
  try clear hfz19_0
  try clear hfz19_1
  try clear hfz19_2
  try clear hfz19_3
  try clear hfz22_0
  try clear hfz22_1
  try clear hfz22_2
  try clear hfz22_3
  try clear hfz23_0
  try clear hfz23_1
  try clear hfz23_2
  try clear hfz23_3
  try clear hfz25_0
  try clear hfz25_1
  try clear hfz25_2
  try clear hfz25_3
  try clear hfz26_0
  try clear hfz26_1
  try clear hfz26_2
  try clear hfz26_3
  try clear hfz8_0
  try clear hfz8_1
  try clear hfz8_2
  try clear hfz8_3
  obtain ⟨kq, x45_4, rfl, HA, HJ4, HO_5, HO_7, BK386, BK394, HB⟩ := hcut
  cases kq with
  | zero => exact absurd HA.out (by simp [mortiselaw02_TokenApart.j0])
  | succ kj4 =>
   have H := HA.out
   clear HA
   simp only [mortiselaw02_TokenApart.j0] at H
   by_cases c29 : x45_4 = true
   ·
    subst c29
    have H1 : ((mortiselaw02_heads.f kj4).bind fun t395 => (some t395)) = some r := by rw [if_pos rfl] at H; exact H
    clear H
    have H := H1
    clear H1
    replace H := Option.bind_eq_some_iff.mp H
    obtain ⟨t395, A300, H⟩ := H
    replace H : (some t395) = some r := H
    have A30 := Aside0.mk A300
    clear A300
    obtain rfl := Option.some.inj H
    go_wp2_with (first | ((with_reducible refine gate_callee (f := 15) rfl ?_); refine goesL_ (some 46) rfl rfl Tryd.func15 (by kernel_rfl) rfl #[] rfl (by (try simp only [List.map_toArray, List.map_cons, List.map_nil]); first | done | rfl | (simp only [List.length_drop, List.length_take]; rfl)) ?_; (with_reducible refine (mortiselaw02_heads.calls kj4  t395 _ ?side1 A30.out).mono ?_); (case side1 => exact GInv.below HG.out (by repeat (first | (with_reducible first | exact HB.out | apply below_alloc | apply pw_below_drewN | apply below_drew1 | refine below_set ?_ GE386.out | refine below_set ?_ GE394.out) | exact HB.out))); rintro e w31 ⟨rfl, hb⟩; refine ⟨_, rfl, ?_⟩; have n0_ := Aside0.mk (Kd.R_below (by (with_reducible repeat (first | apply Kd.R_alloc | apply Kd.R_drewN | apply Kd.R_drew)); exact HO_5.out) hb); have n1_ := Aside0.mk (Kd.R_below (by (with_reducible repeat (first | apply Kd.R_alloc | apply Kd.R_drewN | apply Kd.R_drew)); exact HO_7.out) hb); have n2_ := Aside0.mk (blk_below (g := gb386) (o := .cells #[.int .i64 t382, .int .i64 t383, .int .i64 t384, .int .i64 t385] 34 (0, 0)) (by (with_reducible repeat (first | refine blk_drewN ?_ _ | refine blk_drew ?_ | refine blk_alloc ?_ _)); exact BK386.out) hb); have n3_ := Aside0.mk (blk_below (g := gb394) (o := .cells #[.int .i64 t390, .int .i64 t391, .int .i64 t392, .int .i64 t393] 34 (0, 0)) (by (with_reducible repeat (first | refine blk_drewN ?_ _ | refine blk_drew ?_ | refine blk_alloc ?_ _)); exact BK394.out) hb); have n4_ := Aside0.mk (below_step (by repeat (first | (with_reducible first | exact HB.out | apply below_alloc | apply pw_below_drewN | apply below_drew1 | refine below_set ?_ GE386.out | refine below_set ?_ GE394.out) | exact HB.out)) hb); clear HO_5; clear HO_7; clear BK386; clear BK394; clear HB; have HO_5 := n0_; have HO_7 := n1_; have BK386 := n2_; have BK394 := n3_; have HB := n4_; clear n0_ n1_ n2_ n3_ n4_; (try clear hb); (try clear hb2); (try clear hk); (try clear hi)))
    go_ret
    exact ⟨by first | rfl | (simp [errW_none, errW_some] <;> rfl) | (simp [*, errW_none, errW_some] <;> rfl), by repeat (first | (with_reducible first | exact HB.out | apply below_alloc | apply pw_below_drewN | apply below_drew1 | refine below_set ?_ GE386.out | refine below_set ?_ GE394.out) | exact HB.out)⟩
   ·
    replace c29 := Bool.eq_false_iff.mpr c29
    subst c29
    have H1 : (if a0.size + 1 ≤ 9223372036854775807 then (if (a0 ++ (⟨#[10]⟩ : ByteArray)).size + a1.size ≤ 9223372036854775807 then ((token_Scan.f ((a0 ++ (⟨#[10]⟩ : ByteArray)) ++ a1)).bind fun bt396 => (if (!(bt396.2.1 == 0) || ((!(bt396.2.2.1 == 0) || (!(bt396.2.2.2.1 == 0) || (!(bt396.2.2.2.2 == 0)))))) = true then (mortiselaw02_TokenApart.j1 kj4 t379 t387 bt396.1 true) else (mortiselaw02_TokenApart.j1 kj4 t379 t387 bt396.1 ((bt396.1.length : Int) != (wrap64 ((wrap64 ((t379.length : Int) - 1)) + (t387.length : Int))))))) else (none)) else (none)) = some r := by rw [if_neg (show ¬ (false = true) by decide)] at H; exact H
    clear H
    have H := H1
    clear H1
    by_cases c32 : a0.size + 1 ≤ 9223372036854775807
    ·
     rw [if_pos c32] at H
     have c32b0 := eq_true c32
     have c32b1 : decide (a0.size + 1 ≤ 9223372036854775807) = true := decide_eq_true c32
     try have c32b2 : (9223372036854775807 < a0.size + 1) = False := eq_false (Nat.not_lt.2 c32)
     by_cases c33 : (a0 ++ (⟨#[10]⟩ : ByteArray)).size + a1.size ≤ 9223372036854775807
     ·
      rw [if_pos c33] at H
      have c33b0 := eq_true c33
      have c33b1 : decide ((a0 ++ (⟨#[10]⟩ : ByteArray)).size + a1.size ≤ 9223372036854775807) = true := decide_eq_true c33
      try have c33b2 : (9223372036854775807 < (a0 ++ (⟨#[10]⟩ : ByteArray)).size + a1.size) = False := eq_false (Nat.not_lt.2 c33)
      (try (have c33b3 := eq_false (Nat.not_lt.2 c33); simp at c33b3))
      replace H := Option.bind_eq_some_iff.mp H
      obtain ⟨⟨t396, t399, t400, t401, t402⟩, A340, H⟩ := H
      replace H : (if (!(t399 == 0) || ((!(t400 == 0) || (!(t401 == 0) || (!(t402 == 0)))))) = true then (mortiselaw02_TokenApart.j1 kj4 t379 t387 t396 true) else (mortiselaw02_TokenApart.j1 kj4 t379 t387 t396 ((t396.length : Int) != (wrap64 ((wrap64 ((t379.length : Int) - 1)) + (t387.length : Int)))))) = some r := H
      have A34 := Aside0.mk A340
      clear A340
      have HC35 := Aside0.mk H
      clear H
      go_upto_region 6 with (first | ((with_reducible refine gate_callee (f := 18) rfl ?_); refine goesL_ (some 52) rfl rfl Tryd.func18 (by kernel_rfl) rfl #[.string ((a0 ++ (⟨#[10]⟩ : ByteArray)) ++ a1)] rfl (by (try simp only [List.map_toArray, List.map_cons, List.map_nil]); first | done | rfl | (simp only [List.length_drop, List.length_take]; rfl)) ?_; (with_reducible refine (token_Scan.calls ((a0 ++ (⟨#[10]⟩ : ByteArray)) ++ a1) t396 t399 t400 t401 t402 _ ?side1 A34.out).mono ?_); (case side1 => exact GInv.below HG.out (by repeat (first | (with_reducible first | exact HB.out | apply below_alloc | apply pw_below_drewN | apply below_drew1 | refine below_set ?_ GE386.out | refine below_set ?_ GE394.out) | exact HB.out))); rintro e w36 ⟨v397, rfl, ho0, hb⟩; refine ⟨_, rfl, ?_⟩; have n0_ := Aside0.mk (Kd.R_elder' (by (with_reducible repeat (first | apply Kd.R_alloc | apply Kd.R_drewN | apply Kd.R_drew)); exact HO_5.out) (Kd.R_base ho0) hb); have n1_ := Aside0.mk (Kd.R_elder' (by (with_reducible repeat (first | apply Kd.R_alloc | apply Kd.R_drewN | apply Kd.R_drew)); exact HO_7.out) (Kd.R_base ho0) hb); have n2_ := Aside0.mk (Kd.R_lower (Kd.R_new' (Kd.R_new' ho0 (Kd.R_lt (by (with_reducible repeat (first | apply Kd.R_alloc | apply Kd.R_drewN | apply Kd.R_drew)); exact HO_5.out))) (Kd.R_lt (by (with_reducible repeat (first | apply Kd.R_alloc | apply Kd.R_drewN | apply Kd.R_drew)); exact HO_7.out))) (below_size (by repeat (first | (with_reducible first | exact HB.out | apply below_alloc | apply pw_below_drewN | apply below_drew1 | refine below_set ?_ GE386.out | refine below_set ?_ GE394.out) | exact HB.out)))); have n3_ := Aside0.mk (blk_below (g := gb386) (o := .cells #[.int .i64 t382, .int .i64 t383, .int .i64 t384, .int .i64 t385] 34 (0, 0)) (by (with_reducible repeat (first | refine blk_drewN ?_ _ | refine blk_drew ?_ | refine blk_alloc ?_ _)); exact BK386.out) hb); have n4_ := Aside0.mk (blk_below (g := gb394) (o := .cells #[.int .i64 t390, .int .i64 t391, .int .i64 t392, .int .i64 t393] 34 (0, 0)) (by (with_reducible repeat (first | refine blk_drewN ?_ _ | refine blk_drew ?_ | refine blk_alloc ?_ _)); exact BK394.out) hb); have n5_ := Aside0.mk (below_step (by repeat (first | (with_reducible first | exact HB.out | apply below_alloc | apply pw_below_drewN | apply below_drew1 | refine below_set ?_ GE386.out | refine below_set ?_ GE394.out) | exact HB.out)) hb); clear HO_5; clear HO_7; clear BK386; clear BK394; clear HB; have HO_5 := n0_; have HO_7 := n1_; have HO398 := n2_; have BK386 := n3_; have BK394 := n4_; have HB := n5_; clear n0_ n1_ n2_ n3_ n4_ n5_; (try clear hb); (try clear hb2); (try clear hk); (try clear hi); (try clear ho0)) | ((with_reducible refine gate_dst (N := 10) rfl ?_); refine box_event ?hg (N := 10) ?hd (cs := #[.int .i64 0, .int .i64 0, .int .i64 0, .int .i64 0]) (t := 34) ?hr ?_; (case hd => rfl); (case hg => rfl); (case hr => first | (go_simp; done) | (go_simp; rfl)); intro gb403 hg w37 hbox hb; have n0_ := Aside0.mk (Kd.R_below (by (with_reducible repeat (first | apply Kd.R_alloc | apply Kd.R_drewN | apply Kd.R_drew)); exact HO_5.out) hb); have n1_ := Aside0.mk (Kd.R_below (by (with_reducible repeat (first | apply Kd.R_alloc | apply Kd.R_drewN | apply Kd.R_drew)); exact HO_7.out) hb); have n2_ := Aside0.mk (Kd.R_below (by (with_reducible repeat (first | apply Kd.R_alloc | apply Kd.R_drewN | apply Kd.R_drew)); exact HO398.out) hb); have n3_ := Aside0.mk (blk_below (g := gb386) (o := .cells #[.int .i64 t382, .int .i64 t383, .int .i64 t384, .int .i64 t385] 34 (0, 0)) (by (with_reducible repeat (first | refine blk_drewN ?_ _ | refine blk_drew ?_ | refine blk_alloc ?_ _)); exact BK386.out) hb); have n4_ := Aside0.mk (blk_below (g := gb394) (o := .cells #[.int .i64 t390, .int .i64 t391, .int .i64 t392, .int .i64 t393] 34 (0, 0)) (by (with_reducible repeat (first | refine blk_drewN ?_ _ | refine blk_drew ?_ | refine blk_alloc ?_ _)); exact BK394.out) hb); have n5_ := Aside0.mk (below_step (by repeat (first | (with_reducible first | exact HB.out | apply below_alloc | apply pw_below_drewN | apply below_drew1 | refine below_set ?_ GE386.out | refine below_set ?_ GE394.out) | exact HB.out)) hb); have n6_ := Aside0.mk (hbox); have n7_ := Aside0.mk ((by rw [hg]; exact (below_size (by repeat (first | (with_reducible first | exact HB.out | apply below_alloc | apply pw_below_drewN | apply below_drew1 | refine below_set ?_ GE386.out | refine below_set ?_ GE394.out) | exact HB.out))) : w.heap.size ≤ gb403)); have n8_ := n7_; have n9_ := Aside0.mk ((by rw [hg]; exact Nat.ne_of_lt (blk_lt (g := gb386) (o := .cells #[.int .i64 t382, .int .i64 t383, .int .i64 t384, .int .i64 t385] 34 (0, 0)) (by (with_reducible repeat (first | refine blk_drewN ?_ _ | refine blk_drew ?_ | refine blk_alloc ?_ _)); exact BK386.out)) : gb386 ≠ gb403)); have n10_ := Aside0.mk ((by rw [hg]; exact Nat.ne_of_gt (blk_lt (g := gb386) (o := .cells #[.int .i64 t382, .int .i64 t383, .int .i64 t384, .int .i64 t385] 34 (0, 0)) (by (with_reducible repeat (first | refine blk_drewN ?_ _ | refine blk_drew ?_ | refine blk_alloc ?_ _)); exact BK386.out)) : gb403 ≠ gb386)); have n11_ := Aside0.mk ((by rw [hg]; exact Nat.ne_of_lt (blk_lt (g := gb394) (o := .cells #[.int .i64 t390, .int .i64 t391, .int .i64 t392, .int .i64 t393] 34 (0, 0)) (by (with_reducible repeat (first | refine blk_drewN ?_ _ | refine blk_drew ?_ | refine blk_alloc ?_ _)); exact BK394.out)) : gb394 ≠ gb403)); have n12_ := Aside0.mk ((by rw [hg]; exact Nat.ne_of_gt (blk_lt (g := gb394) (o := .cells #[.int .i64 t390, .int .i64 t391, .int .i64 t392, .int .i64 t393] 34 (0, 0)) (by (with_reducible repeat (first | refine blk_drewN ?_ _ | refine blk_drew ?_ | refine blk_alloc ?_ _)); exact BK394.out)) : gb403 ≠ gb394)); clear HO_5; clear HO_7; clear HO398; clear BK386; clear BK394; clear HB; have HO_5 := n0_; have HO_7 := n1_; have HO398 := n2_; have BK386 := n3_; have BK394 := n4_; have HB := n5_; have BK403 := n6_; have GW403 := n7_; have GE403 := n8_; have NB386_403 := n9_; have NB403_386 := n10_; have NB394_403 := n11_; have NB403_394 := n12_; clear n0_ n1_ n2_ n3_ n4_ n5_ n6_ n7_ n8_ n9_ n10_ n11_ n12_; clear hb hbox hg; have hnb38 := NB403_386.out; have hnc38 := NB386_403.out; have hnb39 := NB403_394.out; have hnc39 := NB394_403.out; have hcz40_0 : w37.cell? ⟨gb403, 0, none⟩ = some (.int .i64 0) := (blk_cell BK403.out 0).trans rfl; have hcz40_1 : w37.cell? ⟨gb403, 1, none⟩ = some (.int .i64 0) := (blk_cell BK403.out 1).trans rfl; have hcz40_2 : w37.cell? ⟨gb403, 2, none⟩ = some (.int .i64 0) := (blk_cell BK403.out 2).trans rfl; have hcz40_3 : w37.cell? ⟨gb403, 3, none⟩ = some (.int .i64 0) := (blk_cell BK403.out 3).trans rfl; have hfz40_0 := blk_frozen BK403.out 0; have hfz40_1 := blk_frozen BK403.out 1; have hfz40_2 := blk_frozen BK403.out 2; have hfz40_3 := blk_frozen BK403.out 3))
      (try simp only [Act.put, List.setIfInBounds_toArray, List.set_cons_zero, List.set_cons_succ])
      go_cut [68] (fun v68 wc => ∃ (kq : Nat) (x68_34 : Bool), v68 = .bool x68_34 ∧ Aside0 (mortiselaw02_TokenApart.j1 kq t379 t387 t396 x68_34 = some r) ∧ Aside0 (kq ≤ kj4) ∧ Aside0 (Kd.R k40 40 wc w.heap.size (fun k_ => some k_ ≠ (v388 : Value).ownBlock ∧ some k_ ≠ (v397 : Value).ownBlock) v380 t379) ∧ Aside0 (Kd.R k40 40 wc w.heap.size (fun k_ => some k_ ≠ (v380 : Value).ownBlock ∧ some k_ ≠ (v397 : Value).ownBlock) v388 t387) ∧ Aside0 (Kd.R k40 40 wc w.heap.size (fun k_ => some k_ ≠ (v380 : Value).ownBlock ∧ some k_ ≠ (v388 : Value).ownBlock) v397 t396) ∧ Aside0 (wc.heap[gb386]? = some (.cells #[.int .i64 t382, .int .i64 t383, .int .i64 t384, .int .i64 t385] 34 (0, 0))) ∧ Aside0 (wc.heap[gb394]? = some (.cells #[.int .i64 t390, .int .i64 t391, .int .i64 t392, .int .i64 t393] 34 (0, 0))) ∧ Aside0 (wc.heap[gb403]? = some (.cells #[.int .i64 t399, .int .i64 t400, .int .i64 t401, .int .i64 t402] 34 (0, 0))) ∧ Aside0 (Below w.heap.size w wc))
      case first =>
       have H := HC35.out
       clear HC35
       by_cases c41 : (!(t399 == 0) || ((!(t400 == 0) || (!(t401 == 0) || (!(t402 == 0)))))) = true
       ·
        rw [if_pos c41] at H
        have c41b0 : (!(t399 == 0) || ((!(t400 == 0) || (!(t401 == 0) || (!(t402 == 0)))))) = true := c41
        clear c41
        (first | rw [c41b0] | (simp only [i64_w, i32_w]; rw [c41b0]) | skip)
        have H' := Aside0.mk H
        clear H
        have hnb42 := NB403_386.out
        have hnc42 := NB386_403.out
        have hnb43 := NB403_394.out
        have hnc43 := NB394_403.out
        have hcz44_0 : w37.cell? ⟨gb403, 0, none⟩ = some (.int .i64 0) := (blk_cell BK403.out 0).trans rfl
        have hcz44_1 : w37.cell? ⟨gb403, 1, none⟩ = some (.int .i64 0) := (blk_cell BK403.out 1).trans rfl
        have hcz44_2 : w37.cell? ⟨gb403, 2, none⟩ = some (.int .i64 0) := (blk_cell BK403.out 2).trans rfl
        have hcz44_3 : w37.cell? ⟨gb403, 3, none⟩ = some (.int .i64 0) := (blk_cell BK403.out 3).trans rfl
        have hfz44_0 := blk_frozen BK403.out 0
        have hfz44_1 := blk_frozen BK403.out 1
        have hfz44_2 := blk_frozen BK403.out 2
        have hfz44_3 := blk_frozen BK403.out 3
        go_wp2
        go_meet
        case rel => exact ⟨_, (true), (by first | rfl | (simp; done) | (simp [*]; done)), H', ⟨by have := HJ4.out; first | omega | exact Nat.le_refl _⟩, ⟨by (with_reducible repeat (first | apply Kd.R_alloc | apply Kd.R_drewN | apply Kd.R_drew)); exact Kd.R_mono (Kd.R_far (p := ⟨gb403, 3, none⟩) (Kd.R_far (p := ⟨gb403, 2, none⟩) (Kd.R_far (p := ⟨gb403, 1, none⟩) (Kd.R_far (p := ⟨gb403, 0, none⟩) (Kd.R_types HO_5.out BK403.out (by decide)) (fun _ hk => hk.2) (.int .i64 t399)) (fun _ hk => hk.2) (.int .i64 t400)) (fun _ hk => hk.2) (.int .i64 t401)) (fun _ hk => hk.2) (.int .i64 t402)) (fun _ hk => ⟨hk.1.1, hk.1.2⟩)⟩, ⟨by (with_reducible repeat (first | apply Kd.R_alloc | apply Kd.R_drewN | apply Kd.R_drew)); exact Kd.R_mono (Kd.R_far (p := ⟨gb403, 3, none⟩) (Kd.R_far (p := ⟨gb403, 2, none⟩) (Kd.R_far (p := ⟨gb403, 1, none⟩) (Kd.R_far (p := ⟨gb403, 0, none⟩) (Kd.R_types HO_7.out BK403.out (by decide)) (fun _ hk => hk.2) (.int .i64 t399)) (fun _ hk => hk.2) (.int .i64 t400)) (fun _ hk => hk.2) (.int .i64 t401)) (fun _ hk => hk.2) (.int .i64 t402)) (fun _ hk => ⟨hk.1.1, hk.1.2⟩)⟩, ⟨by (with_reducible repeat (first | apply Kd.R_alloc | apply Kd.R_drewN | apply Kd.R_drew)); exact Kd.R_mono (Kd.R_far (p := ⟨gb403, 3, none⟩) (Kd.R_far (p := ⟨gb403, 2, none⟩) (Kd.R_far (p := ⟨gb403, 1, none⟩) (Kd.R_far (p := ⟨gb403, 0, none⟩) (Kd.R_types HO398.out BK403.out (by decide)) (fun _ hk => hk.2) (.int .i64 t399)) (fun _ hk => hk.2) (.int .i64 t400)) (fun _ hk => hk.2) (.int .i64 t401)) (fun _ hk => hk.2) (.int .i64 t402)) (fun _ hk => ⟨hk.1.1.2, hk.1.2⟩)⟩, ⟨by (with_reducible repeat (first | refine blk_drewN ?_ _ | refine blk_drew ?_ | refine blk_alloc ?_ _)); refine blk_far ?_ NB386_403.out _; (with_reducible repeat (first | refine blk_drewN ?_ _ | refine blk_drew ?_ | refine blk_alloc ?_ _)); refine blk_far ?_ NB386_403.out _; (with_reducible repeat (first | refine blk_drewN ?_ _ | refine blk_drew ?_ | refine blk_alloc ?_ _)); refine blk_far ?_ NB386_403.out _; (with_reducible repeat (first | refine blk_drewN ?_ _ | refine blk_drew ?_ | refine blk_alloc ?_ _)); refine blk_far ?_ NB386_403.out _; (with_reducible repeat (first | refine blk_drewN ?_ _ | refine blk_drew ?_ | refine blk_alloc ?_ _)); exact BK386.out⟩, ⟨by (with_reducible repeat (first | refine blk_drewN ?_ _ | refine blk_drew ?_ | refine blk_alloc ?_ _)); refine blk_far ?_ NB394_403.out _; (with_reducible repeat (first | refine blk_drewN ?_ _ | refine blk_drew ?_ | refine blk_alloc ?_ _)); refine blk_far ?_ NB394_403.out _; (with_reducible repeat (first | refine blk_drewN ?_ _ | refine blk_drew ?_ | refine blk_alloc ?_ _)); refine blk_far ?_ NB394_403.out _; (with_reducible repeat (first | refine blk_drewN ?_ _ | refine blk_drew ?_ | refine blk_alloc ?_ _)); refine blk_far ?_ NB394_403.out _; (with_reducible repeat (first | refine blk_drewN ?_ _ | refine blk_drew ?_ | refine blk_alloc ?_ _)); exact BK394.out⟩, ⟨by (with_reducible repeat (first | refine blk_drewN ?_ _ | refine blk_drew ?_ | refine blk_alloc ?_ _)); refine blk_put (cs := #[.int .i64 t399, .int .i64 t400, .int .i64 t401, .int .i64 0]) ?_ 3 _ rfl; (with_reducible repeat (first | refine blk_drewN ?_ _ | refine blk_drew ?_ | refine blk_alloc ?_ _)); refine blk_put (cs := #[.int .i64 t399, .int .i64 t400, .int .i64 0, .int .i64 0]) ?_ 2 _ rfl; (with_reducible repeat (first | refine blk_drewN ?_ _ | refine blk_drew ?_ | refine blk_alloc ?_ _)); refine blk_put (cs := #[.int .i64 t399, .int .i64 0, .int .i64 0, .int .i64 0]) ?_ 1 _ rfl; (with_reducible repeat (first | refine blk_drewN ?_ _ | refine blk_drew ?_ | refine blk_alloc ?_ _)); refine blk_put (cs := #[.int .i64 0, .int .i64 0, .int .i64 0, .int .i64 0]) ?_ 0 _ rfl; (with_reducible repeat (first | refine blk_drewN ?_ _ | refine blk_drew ?_ | refine blk_alloc ?_ _)); exact BK403.out⟩, ⟨by repeat (first | (with_reducible first | exact HB.out | apply below_alloc | apply pw_below_drewN | apply below_drew1 | refine below_set ?_ GE386.out | refine below_set ?_ GE394.out | refine below_set ?_ GE403.out) | exact HB.out)⟩⟩
       ·
        rw [if_neg c41] at H
        have c41b0 : (!(t399 == 0) || ((!(t400 == 0) || (!(t401 == 0) || (!(t402 == 0)))))) = false := by simpa using c41
        clear c41
        (first | rw [c41b0] | (simp only [i64_w, i32_w]; rw [c41b0]) | skip)
        have H' := Aside0.mk H
        clear H
        have hnb45 := NB403_386.out
        have hnc45 := NB386_403.out
        have hnb46 := NB403_394.out
        have hnc46 := NB394_403.out
        have hcz47_0 : w37.cell? ⟨gb403, 0, none⟩ = some (.int .i64 0) := (blk_cell BK403.out 0).trans rfl
        have hcz47_1 : w37.cell? ⟨gb403, 1, none⟩ = some (.int .i64 0) := (blk_cell BK403.out 1).trans rfl
        have hcz47_2 : w37.cell? ⟨gb403, 2, none⟩ = some (.int .i64 0) := (blk_cell BK403.out 2).trans rfl
        have hcz47_3 : w37.cell? ⟨gb403, 3, none⟩ = some (.int .i64 0) := (blk_cell BK403.out 3).trans rfl
        have hfz47_0 := blk_frozen BK403.out 0
        have hfz47_1 := blk_frozen BK403.out 1
        have hfz47_2 := blk_frozen BK403.out 2
        have hfz47_3 := blk_frozen BK403.out 3
        obtain ⟨Ao48, co48, eo48⟩ := Kd.R_slice HO398.out
        subst eo48
        obtain ⟨Ao49, co49, eo49⟩ := Kd.R_slice HO_5.out
        subst eo49
        obtain ⟨Ao50, co50, eo50⟩ := Kd.R_slice HO_7.out
        subst eo50
        go_wp2
        go_meet
        case rel => exact ⟨_, (((t396.length : Int) != (wrap64 ((wrap64 ((t379.length : Int) - 1)) + (t387.length : Int))))), (by first | rfl | (simp; done) | (simp [*]; done)), H', ⟨by have := HJ4.out; first | omega | exact Nat.le_refl _⟩, ⟨by (with_reducible repeat (first | apply Kd.R_alloc | apply Kd.R_drewN | apply Kd.R_drew)); exact Kd.R_mono (Kd.R_far (p := ⟨gb403, 3, none⟩) (Kd.R_far (p := ⟨gb403, 2, none⟩) (Kd.R_far (p := ⟨gb403, 1, none⟩) (Kd.R_far (p := ⟨gb403, 0, none⟩) (Kd.R_types HO_5.out BK403.out (by decide)) (fun _ hk => hk.2) (.int .i64 t399)) (fun _ hk => hk.2) (.int .i64 t400)) (fun _ hk => hk.2) (.int .i64 t401)) (fun _ hk => hk.2) (.int .i64 t402)) (fun _ hk => ⟨hk.1.1, hk.1.2⟩)⟩, ⟨by (with_reducible repeat (first | apply Kd.R_alloc | apply Kd.R_drewN | apply Kd.R_drew)); exact Kd.R_mono (Kd.R_far (p := ⟨gb403, 3, none⟩) (Kd.R_far (p := ⟨gb403, 2, none⟩) (Kd.R_far (p := ⟨gb403, 1, none⟩) (Kd.R_far (p := ⟨gb403, 0, none⟩) (Kd.R_types HO_7.out BK403.out (by decide)) (fun _ hk => hk.2) (.int .i64 t399)) (fun _ hk => hk.2) (.int .i64 t400)) (fun _ hk => hk.2) (.int .i64 t401)) (fun _ hk => hk.2) (.int .i64 t402)) (fun _ hk => ⟨hk.1.1, hk.1.2⟩)⟩, ⟨by (with_reducible repeat (first | apply Kd.R_alloc | apply Kd.R_drewN | apply Kd.R_drew)); exact Kd.R_mono (Kd.R_far (p := ⟨gb403, 3, none⟩) (Kd.R_far (p := ⟨gb403, 2, none⟩) (Kd.R_far (p := ⟨gb403, 1, none⟩) (Kd.R_far (p := ⟨gb403, 0, none⟩) (Kd.R_types HO398.out BK403.out (by decide)) (fun _ hk => hk.2) (.int .i64 t399)) (fun _ hk => hk.2) (.int .i64 t400)) (fun _ hk => hk.2) (.int .i64 t401)) (fun _ hk => hk.2) (.int .i64 t402)) (fun _ hk => ⟨hk.1.1.2, hk.1.2⟩)⟩, ⟨by (with_reducible repeat (first | refine blk_drewN ?_ _ | refine blk_drew ?_ | refine blk_alloc ?_ _)); refine blk_far ?_ NB386_403.out _; (with_reducible repeat (first | refine blk_drewN ?_ _ | refine blk_drew ?_ | refine blk_alloc ?_ _)); refine blk_far ?_ NB386_403.out _; (with_reducible repeat (first | refine blk_drewN ?_ _ | refine blk_drew ?_ | refine blk_alloc ?_ _)); refine blk_far ?_ NB386_403.out _; (with_reducible repeat (first | refine blk_drewN ?_ _ | refine blk_drew ?_ | refine blk_alloc ?_ _)); refine blk_far ?_ NB386_403.out _; (with_reducible repeat (first | refine blk_drewN ?_ _ | refine blk_drew ?_ | refine blk_alloc ?_ _)); exact BK386.out⟩, ⟨by (with_reducible repeat (first | refine blk_drewN ?_ _ | refine blk_drew ?_ | refine blk_alloc ?_ _)); refine blk_far ?_ NB394_403.out _; (with_reducible repeat (first | refine blk_drewN ?_ _ | refine blk_drew ?_ | refine blk_alloc ?_ _)); refine blk_far ?_ NB394_403.out _; (with_reducible repeat (first | refine blk_drewN ?_ _ | refine blk_drew ?_ | refine blk_alloc ?_ _)); refine blk_far ?_ NB394_403.out _; (with_reducible repeat (first | refine blk_drewN ?_ _ | refine blk_drew ?_ | refine blk_alloc ?_ _)); refine blk_far ?_ NB394_403.out _; (with_reducible repeat (first | refine blk_drewN ?_ _ | refine blk_drew ?_ | refine blk_alloc ?_ _)); exact BK394.out⟩, ⟨by (with_reducible repeat (first | refine blk_drewN ?_ _ | refine blk_drew ?_ | refine blk_alloc ?_ _)); refine blk_put (cs := #[.int .i64 t399, .int .i64 t400, .int .i64 t401, .int .i64 0]) ?_ 3 _ rfl; (with_reducible repeat (first | refine blk_drewN ?_ _ | refine blk_drew ?_ | refine blk_alloc ?_ _)); refine blk_put (cs := #[.int .i64 t399, .int .i64 t400, .int .i64 0, .int .i64 0]) ?_ 2 _ rfl; (with_reducible repeat (first | refine blk_drewN ?_ _ | refine blk_drew ?_ | refine blk_alloc ?_ _)); refine blk_put (cs := #[.int .i64 t399, .int .i64 0, .int .i64 0, .int .i64 0]) ?_ 1 _ rfl; (with_reducible repeat (first | refine blk_drewN ?_ _ | refine blk_drew ?_ | refine blk_alloc ?_ _)); refine blk_put (cs := #[.int .i64 0, .int .i64 0, .int .i64 0, .int .i64 0]) ?_ 0 _ rfl; (with_reducible repeat (first | refine blk_drewN ?_ _ | refine blk_drew ?_ | refine blk_alloc ?_ _)); exact BK403.out⟩, ⟨by repeat (first | (with_reducible first | exact HB.out | apply below_alloc | apply pw_below_drewN | apply below_drew1 | refine below_set ?_ GE386.out | refine below_set ?_ GE394.out | refine below_set ?_ GE403.out) | exact HB.out)⟩⟩
      case rest =>
       clear HC35
       try clear c1
       try clear c2
       try clear p2
       try clear c3
       try clear c4
       try clear p6
       try clear c7
       try clear c11
       try clear c13
       try clear c13b0
       try clear c14
       try clear c15
       try clear c16
       try clear c16b0
       try clear c17
       try clear c18
       try clear c20
       try clear c20b0
       try clear c21
       try clear c24
       try clear c29
       try clear c32
       try clear c32b0
       try clear c32b1
       try clear c32b2
       try clear c33
       try clear c33b0
       try clear c33b1
       try clear c33b2
       try clear c38
       try clear c39
       try clear c41
       try clear c41b0
       try clear c42
       try clear c43
       try clear c45
       try clear c46
       try clear hcz12_0
       try clear hcz12_1
       try clear hcz12_2
       try clear hcz12_3
       try clear hcz15_0
       try clear hcz15_1
       try clear hcz15_2
       try clear hcz15_3
       try clear hcz18_0
       try clear hcz18_1
       try clear hcz18_2
       try clear hcz18_3
       try clear hcz19_0
       try clear hcz19_1
       try clear hcz19_2
       try clear hcz19_3
       try clear hcz22_0
       try clear hcz22_1
       try clear hcz22_2
       try clear hcz22_3
       try clear hcz23_0
       try clear hcz23_1
       try clear hcz23_2
       try clear hcz23_3
       try clear hcz25_0
       try clear hcz25_1
       try clear hcz25_2
       try clear hcz25_3
       try clear hcz26_0
       try clear hcz26_1
       try clear hcz26_2
       try clear hcz26_3
       try clear hcz40_0
       try clear hcz40_1
       try clear hcz40_2
       try clear hcz40_3
       try clear hcz44_0
       try clear hcz44_1
       try clear hcz44_2
       try clear hcz44_3
       try clear hcz47_0
       try clear hcz47_1
       try clear hcz47_2
       try clear hcz47_3
       try clear hcz8_0
       try clear hcz8_1
       try clear hcz8_2
       try clear hcz8_3
       try clear hfz12_0
       try clear hfz12_1
       try clear hfz12_2
       try clear hfz12_3
       try clear hfz15_0
       try clear hfz15_1
       try clear hfz15_2
       try clear hfz15_3
       try clear hfz18_0
       try clear hfz18_1
       try clear hfz18_2
       try clear hfz18_3
       try clear hfz19_0
       try clear hfz19_1
       try clear hfz19_2
       try clear hfz19_3
       try clear hfz22_0
       try clear hfz22_1
       try clear hfz22_2
       try clear hfz22_3
       try clear hfz23_0
       try clear hfz23_1
       try clear hfz23_2
       try clear hfz23_3
       try clear hfz25_0
       try clear hfz25_1
       try clear hfz25_2
       try clear hfz25_3
       try clear hfz26_0
       try clear hfz26_1
       try clear hfz26_2
       try clear hfz26_3
       try clear hfz40_0
       try clear hfz40_1
       try clear hfz40_2
       try clear hfz40_3
       try clear hfz44_0
       try clear hfz44_1
       try clear hfz44_2
       try clear hfz44_3
       try clear hfz47_0
       try clear hfz47_1
       try clear hfz47_2
       try clear hfz47_3
       try clear hfz8_0
       try clear hfz8_1
       try clear hfz8_2
       try clear hfz8_3
       try clear p2
       try clear p6
       obtain ⟨kq, x68_34, rfl, HA, HJ34, HO_5, HO_7, HO_9, BK386, BK394, BK403, HB⟩ := hcut
       cases kq with
       | zero => exact absurd HA.out (by simp [mortiselaw02_TokenApart.j1])
       | succ kj34 =>
        have H := HA.out
        clear HA
        simp only [mortiselaw02_TokenApart.j1] at H
        by_cases c51 : x68_34 = true
        ·
         subst c51
         have H1 : (none) = some r := by rw [if_pos rfl] at H; exact H
         clear H
         have H := H1
         clear H1
         exact absurd H (by simp)
        ·
         replace c51 := Bool.eq_false_iff.mpr c51
         subst c51
         have H1 : (if 0 ≤ (wrap64 ((t379.length : Int) - 1)) then (if (wrap64 ((t379.length : Int) - 1)) ≤ (t379.length : Int) then ((mortiselaw02_plain.f kj34 (t379.take ((wrap64 ((t379.length : Int) - 1)) : Int).toNat)).bind fun t408 => ((mortiselaw02_plain.f kj34 t387).bind fun t411 => (if t408.length + t411.length < 2513169434916 then ((mortiselaw02_plain.f kj34 t396).bind fun t417 => ((mortiselaw02_Same.f kj34 t417 (t408 ++ t411)).bind fun t420 => (if t420 = true then ((mortiselaw02_heads.f kj34).bind fun t421 => (some t421)) else (none)))) else (none)))) else (none)) else (none)) = some r := by rw [if_neg (show ¬ (false = true) by decide)] at H; exact H
         clear H
         have H := H1
         clear H1
         obtain ⟨ji52, hji52⟩ : ∃ j_ : Int, (wrap64 ((t379.length : Int) - 1)) = j_ := ⟨_, rfl⟩
         replace H : (if 0 ≤ (ji52) then (if (ji52) ≤ (t379.length : Int) then ((mortiselaw02_plain.f kj34 (t379.take ((ji52) : Int).toNat)).bind fun t408 => ((mortiselaw02_plain.f kj34 t387).bind fun t411 => (if t408.length + t411.length < 2513169434916 then ((mortiselaw02_plain.f kj34 t396).bind fun t417 => ((mortiselaw02_Same.f kj34 t417 (t408 ++ t411)).bind fun t420 => (if t420 = true then ((mortiselaw02_heads.f kj34).bind fun t421 => (some t421)) else (none)))) else (none)))) else (none)) else (none)) = some r := by first | (rw [hji52] at H; exact H) | (simp only [hji52] at H ⊢; exact H)
         have hji52w : (IntKind.i64.wrap ((t379.length : Int) - 1)) = ji52 := (i64_w _).trans hji52
         by_cases c53 : 0 ≤ (ji52)
         ·
          rw [if_pos c53] at H
          have c53b0 := eq_true c53
          have c53b1 : decide (0 ≤ (ji52)) = true := decide_eq_true c53
          clear c53
          by_cases c54 : (ji52) ≤ (t379.length : Int)
          ·
           rw [if_pos c54] at H
           have c54b0 := eq_true c54
           have c54b1 : decide ((ji52) ≤ (t379.length : Int)) = true := decide_eq_true c54
           clear c54
           obtain ⟨y404, hy404⟩ : ∃ y_ : List (S40), y_ = (t379.take ((ji52) : Int).toNat) := ⟨_, rfl⟩
           replace H : ((mortiselaw02_plain.f kj34 y404).bind fun t408 => ((mortiselaw02_plain.f kj34 t387).bind fun t411 => (if t408.length + t411.length < 2513169434916 then ((mortiselaw02_plain.f kj34 t396).bind fun t417 => ((mortiselaw02_Same.f kj34 t417 (t408 ++ t411)).bind fun t420 => (if t420 = true then ((mortiselaw02_heads.f kj34).bind fun t421 => (some t421)) else (none)))) else (none)))) = some r := by first | (rw [hy404]; with_reducible exact H) | (have H2_ := (Option.bind_some _ _).symm.trans H; rw [hy404]; with_reducible exact H2_) | (have H2_ := (Option.bind_some _ _).symm.trans H; with_reducible exact H2_) | with_reducible exact H | (rw [hy404]; exact H) | exact H
           have Ny404 := Aside0.mk hy404
           clear hy404
           replace H := Option.bind_eq_some_iff.mp H
           obtain ⟨t408, A550, H⟩ := H
           replace H : ((mortiselaw02_plain.f kj34 t387).bind fun t411 => (if t408.length + t411.length < 2513169434916 then ((mortiselaw02_plain.f kj34 t396).bind fun t417 => ((mortiselaw02_Same.f kj34 t417 (t408 ++ t411)).bind fun t420 => (if t420 = true then ((mortiselaw02_heads.f kj34).bind fun t421 => (some t421)) else (none)))) else (none))) = some r := H
           have A55 := Aside0.mk A550
           clear A550
           replace H := Option.bind_eq_some_iff.mp H
           obtain ⟨t411, A560, H⟩ := H
           replace H : (if t408.length + t411.length < 2513169434916 then ((mortiselaw02_plain.f kj34 t396).bind fun t417 => ((mortiselaw02_Same.f kj34 t417 (t408 ++ t411)).bind fun t420 => (if t420 = true then ((mortiselaw02_heads.f kj34).bind fun t421 => (some t421)) else (none)))) else (none)) = some r := H
           have A56 := Aside0.mk A560
           clear A560
           by_cases c57 : t408.length + t411.length < 2513169434916
           ·
            rw [if_pos c57] at H
            have LMc57 := Aside0.mk c57
            clear c57
            obtain ⟨y414, hy414⟩ : ∃ y_ : List (S40), y_ = (t408 ++ t411) := ⟨_, rfl⟩
            replace H : ((mortiselaw02_plain.f kj34 t396).bind fun t417 => ((mortiselaw02_Same.f kj34 t417 y414).bind fun t420 => (if t420 = true then ((mortiselaw02_heads.f kj34).bind fun t421 => (some t421)) else (none)))) = some r := by first | (rw [hy414]; with_reducible exact H) | (have H2_ := (Option.bind_some _ _).symm.trans H; rw [hy414]; with_reducible exact H2_) | (have H2_ := (Option.bind_some _ _).symm.trans H; with_reducible exact H2_) | with_reducible exact H | (rw [hy414]; exact H) | exact H
            have Ny414 := Aside0.mk hy414
            clear hy414
            replace H := Option.bind_eq_some_iff.mp H
            obtain ⟨t417, A580, H⟩ := H
            replace H : ((mortiselaw02_Same.f kj34 t417 y414).bind fun t420 => (if t420 = true then ((mortiselaw02_heads.f kj34).bind fun t421 => (some t421)) else (none))) = some r := H
            have A58 := Aside0.mk A580
            clear A580
            replace H := Option.bind_eq_some_iff.mp H
            obtain ⟨t420, A590, H⟩ := H
            replace H : (if t420 = true then ((mortiselaw02_heads.f kj34).bind fun t421 => (some t421)) else (none)) = some r := H
            have A59 := Aside0.mk A590
            clear A590
            by_cases c60 : t420 = true
            ·
             subst c60
             have H1 : ((mortiselaw02_heads.f kj34).bind fun t421 => (some t421)) = some r := by rw [if_pos rfl] at H; exact H
             clear H
             have H := H1
             clear H1
             replace H := Option.bind_eq_some_iff.mp H
             obtain ⟨t421, A610, H⟩ := H
             replace H : (some t421) = some r := H
             have A61 := Aside0.mk A610
             clear A610
             obtain rfl := Option.some.inj H
             obtain ⟨Ao62, co62, eo62⟩ := Kd.R_slice HO_5.out
             subst eo62
             have q63 : ((ji52) : Int) ≤ ((t379.length : Int) : Int) := of_decide_eq_true (by first | (with_reducible assumption) | assumption)
             obtain ⟨i063, hi063, _, hsz63, _⟩ := info_parts info40
             have hroom63 : t379.length ≤ co62 := (Kd.R_reads' HO_5.out).2.1
             have hC63 : Kd.C k40 _ Ao62 t379.length t379 := (Kd.R_reads' HO_5.out).2.2
             have hcut63 := cut_to (P := Tryd.prog) 28 40 .i64 Tryd.underlying28 hi063 Ao62 t379.length co62 (ji52) (of_decide_eq_true (by first | (with_reducible assumption) | assumption)) q63 hroom63
             have hr63 := Kd.C_take (m := ((ji52) : Int).toNat) hC63 (by omega)
             have hy63 : y404.length = ((ji52) : Int).toNat := (by rw [Ny404.out, List.length_take]; omega)
             rw [← Ny404.out] at hr63
             rw [← hy63] at hcut63
             have HR407 := Aside0.mk hr63
             have HC407 := Aside0.mk (show y404.length ≤ co62 from by omega)
             clear hr63 hC63 hroom63 hi063 hsz63
             have KY63 := Aside0.mk hy63
             clear hy63
             have KL63 := Aside0.mk (show ((ji52) : Int).toNat ≤ t379.length from by omega)
             replace q63 := eq_true q63
             go_wp2_with (first | ((with_reducible refine gate_callee (f := 19) rfl ?_); refine goesL_ (some 74) rfl rfl Tryd.func19 (by kernel_rfl) rfl #[.slice Ao62 y404.length co62] rfl (by (try simp only [List.map_toArray, List.map_cons, List.map_nil]); first | done | rfl | (simp only [List.length_drop, List.length_take]; rfl)) ?_; (with_reducible refine (mortiselaw02_plain.calls kj34 _ _ y404 t408 _ ?side1 ?side2 A55.out).mono ?_); (case side1 => repeat (first | exact (by repeat (first | (with_reducible exact HR407.out) | (with_reducible refine Kd.C_alloc ?_ _) | (with_reducible refine Kd.C_drewN ?_ _) | (with_reducible refine Kd.C_drew ?_) | exact HR407.out)) | (with_reducible refine Kd.C_alloc ?_ _) | (with_reducible refine Kd.C_drewN ?_ _) | (with_reducible refine Kd.C_drew ?_))); (case side2 => exact HC407.out); rintro e w64 ⟨v409, rfl, ho0, hb⟩; refine ⟨_, rfl, ?_⟩; have n0_ := Aside0.mk (Kd.R_elder' (by (with_reducible repeat (first | apply Kd.R_alloc | apply Kd.R_drewN | apply Kd.R_drew)); exact HO_5.out) (Kd.R_base ho0) hb); have n1_ := Aside0.mk (Kd.R_elder' (by (with_reducible repeat (first | apply Kd.R_alloc | apply Kd.R_drewN | apply Kd.R_drew)); exact HO_7.out) (Kd.R_base ho0) hb); have n2_ := Aside0.mk (Kd.R_elder' (by (with_reducible repeat (first | apply Kd.R_alloc | apply Kd.R_drewN | apply Kd.R_drew)); exact HO_9.out) (Kd.R_base ho0) hb); have n3_ := Aside0.mk (Kd.R_lower (Kd.R_new' (Kd.R_new' (Kd.R_new' ho0 (Kd.R_lt (by (with_reducible repeat (first | apply Kd.R_alloc | apply Kd.R_drewN | apply Kd.R_drew)); exact HO_5.out))) (Kd.R_lt (by (with_reducible repeat (first | apply Kd.R_alloc | apply Kd.R_drewN | apply Kd.R_drew)); exact HO_7.out))) (Kd.R_lt (by (with_reducible repeat (first | apply Kd.R_alloc | apply Kd.R_drewN | apply Kd.R_drew)); exact HO_9.out))) (below_size (by repeat (first | (with_reducible first | exact HB.out | apply below_alloc | apply pw_below_drewN | apply below_drew1 | refine below_set ?_ GE386.out | refine below_set ?_ GE394.out | refine below_set ?_ GE403.out) | exact HB.out)))); have n4_ := Aside0.mk (blk_below (g := gb386) (o := .cells #[.int .i64 t382, .int .i64 t383, .int .i64 t384, .int .i64 t385] 34 (0, 0)) (by (with_reducible repeat (first | refine blk_drewN ?_ _ | refine blk_drew ?_ | refine blk_alloc ?_ _)); exact BK386.out) hb); have n5_ := Aside0.mk (blk_below (g := gb394) (o := .cells #[.int .i64 t390, .int .i64 t391, .int .i64 t392, .int .i64 t393] 34 (0, 0)) (by (with_reducible repeat (first | refine blk_drewN ?_ _ | refine blk_drew ?_ | refine blk_alloc ?_ _)); exact BK394.out) hb); have n6_ := Aside0.mk (blk_below (g := gb403) (o := .cells #[.int .i64 t399, .int .i64 t400, .int .i64 t401, .int .i64 t402] 34 (0, 0)) (by (with_reducible repeat (first | refine blk_drewN ?_ _ | refine blk_drew ?_ | refine blk_alloc ?_ _)); exact BK403.out) hb); have n7_ := Aside0.mk (Kd.C_below (by repeat (first | (with_reducible exact HR407.out) | (with_reducible refine Kd.C_alloc ?_ _) | (with_reducible refine Kd.C_drewN ?_ _) | (with_reducible refine Kd.C_drew ?_) | exact HR407.out)) hb); have n8_ := Aside0.mk (below_step (by repeat (first | (with_reducible first | exact HB.out | apply below_alloc | apply pw_below_drewN | apply below_drew1 | refine below_set ?_ GE386.out | refine below_set ?_ GE394.out | refine below_set ?_ GE403.out) | exact HB.out)) hb); clear HO_5; clear HO_7; clear HO_9; clear BK386; clear BK394; clear BK403; clear HR407; clear HB; have HO_5 := n0_; have HO_7 := n1_; have HO_9 := n2_; have HO410 := n3_; have BK386 := n4_; have BK394 := n5_; have BK403 := n6_; have HR407 := n7_; have HB := n8_; clear n0_ n1_ n2_ n3_ n4_ n5_ n6_ n7_ n8_; (try clear hb); (try clear hb2); (try clear hk); (try clear hi); (try clear ho0); obtain ⟨Ao65, co65, eo65⟩ := Kd.R_slice HO_7.out; subst eo65) | ((with_reducible refine gate_callee (f := 19) rfl ?_); refine goesL_ (some 76) rfl rfl Tryd.func19 (by kernel_rfl) rfl #[.slice Ao65 t387.length co65] rfl (by (try simp only [List.map_toArray, List.map_cons, List.map_nil]); first | done | rfl | (simp only [List.length_drop, List.length_take]; rfl)) ?_; (with_reducible refine (mortiselaw02_plain.calls kj34 _ _ t387 t411 _ ?side1 ?side2 A56.out).mono ?_); (case side1 => repeat (first | exact (Kd.R_reads' HO_7.out).2.2 | (with_reducible refine Kd.C_alloc ?_ _) | (with_reducible refine Kd.C_drewN ?_ _) | (with_reducible refine Kd.C_drew ?_))); (case side2 => exact (Kd.R_reads' HO_7.out).2.1); rintro e w66 ⟨v412, rfl, ho0, hb⟩; refine ⟨_, rfl, ?_⟩; have n0_ := Aside0.mk (Kd.R_elder' (by (with_reducible repeat (first | apply Kd.R_alloc | apply Kd.R_drewN | apply Kd.R_drew)); exact HO_5.out) (Kd.R_base ho0) hb); have n1_ := Aside0.mk (Kd.R_elder' (by (with_reducible repeat (first | apply Kd.R_alloc | apply Kd.R_drewN | apply Kd.R_drew)); exact HO_7.out) (Kd.R_base ho0) hb); have n2_ := Aside0.mk (Kd.R_elder' (by (with_reducible repeat (first | apply Kd.R_alloc | apply Kd.R_drewN | apply Kd.R_drew)); exact HO_9.out) (Kd.R_base ho0) hb); have n3_ := Aside0.mk (Kd.R_elder' (by (with_reducible repeat (first | apply Kd.R_alloc | apply Kd.R_drewN | apply Kd.R_drew)); exact HO410.out) (Kd.R_base ho0) hb); have n4_ := Aside0.mk (Kd.R_lower (Kd.R_new' (Kd.R_new' (Kd.R_new' (Kd.R_new' ho0 (Kd.R_lt (by (with_reducible repeat (first | apply Kd.R_alloc | apply Kd.R_drewN | apply Kd.R_drew)); exact HO_5.out))) (Kd.R_lt (by (with_reducible repeat (first | apply Kd.R_alloc | apply Kd.R_drewN | apply Kd.R_drew)); exact HO_7.out))) (Kd.R_lt (by (with_reducible repeat (first | apply Kd.R_alloc | apply Kd.R_drewN | apply Kd.R_drew)); exact HO_9.out))) (Kd.R_lt (by (with_reducible repeat (first | apply Kd.R_alloc | apply Kd.R_drewN | apply Kd.R_drew)); exact HO410.out))) (below_size (by repeat (first | (with_reducible first | exact HB.out | apply below_alloc | apply pw_below_drewN | apply below_drew1 | refine below_set ?_ GE386.out | refine below_set ?_ GE394.out | refine below_set ?_ GE403.out) | exact HB.out)))); have n5_ := Aside0.mk (blk_below (g := gb386) (o := .cells #[.int .i64 t382, .int .i64 t383, .int .i64 t384, .int .i64 t385] 34 (0, 0)) (by (with_reducible repeat (first | refine blk_drewN ?_ _ | refine blk_drew ?_ | refine blk_alloc ?_ _)); exact BK386.out) hb); have n6_ := Aside0.mk (blk_below (g := gb394) (o := .cells #[.int .i64 t390, .int .i64 t391, .int .i64 t392, .int .i64 t393] 34 (0, 0)) (by (with_reducible repeat (first | refine blk_drewN ?_ _ | refine blk_drew ?_ | refine blk_alloc ?_ _)); exact BK394.out) hb); have n7_ := Aside0.mk (blk_below (g := gb403) (o := .cells #[.int .i64 t399, .int .i64 t400, .int .i64 t401, .int .i64 t402] 34 (0, 0)) (by (with_reducible repeat (first | refine blk_drewN ?_ _ | refine blk_drew ?_ | refine blk_alloc ?_ _)); exact BK403.out) hb); have n8_ := Aside0.mk (Kd.C_below (by repeat (first | (with_reducible exact HR407.out) | (with_reducible refine Kd.C_alloc ?_ _) | (with_reducible refine Kd.C_drewN ?_ _) | (with_reducible refine Kd.C_drew ?_) | exact HR407.out)) hb); have n9_ := Aside0.mk (below_step (by repeat (first | (with_reducible first | exact HB.out | apply below_alloc | apply pw_below_drewN | apply below_drew1 | refine below_set ?_ GE386.out | refine below_set ?_ GE394.out | refine below_set ?_ GE403.out) | exact HB.out)) hb); clear HO_5; clear HO_7; clear HO_9; clear HO410; clear BK386; clear BK394; clear BK403; clear HR407; clear HB; have HO_5 := n0_; have HO_7 := n1_; have HO_9 := n2_; have HO410 := n3_; have HO413 := n4_; have BK386 := n5_; have BK394 := n6_; have BK403 := n7_; have HR407 := n8_; have HB := n9_; clear n0_ n1_ n2_ n3_ n4_ n5_ n6_ n7_ n8_ n9_; (try clear hb); (try clear hb2); (try clear hk); (try clear hi); (try clear ho0); obtain ⟨Ao68, co68, eo68⟩ := Kd.R_slice HO413.out; subst eo68) | ((with_reducible refine gate_builtin (b := .append) (xs := #[.tmp 74, .tmp 76]) rfl ?_); at_builtin; refine Kd.R_append_rows k40 (w0 := w) w.heap.size rfl (.tmp 74) (.tmp 76) 28 40 (.agg #[(.int .i64 0), (.string ⟨#[]⟩), (.int .i64 0), (.int .i64 0), (.int .i64 0), (.int .i64 0)]) 56 rfl Tryd.underlying28 info40 rfl (by decide) (by omega) v409 t408 t411 _ _ _ (fun k_ => some k_ ≠ (.slice Ao62 t379.length co62 : Value).ownBlock ∧ some k_ ≠ (.slice Ao65 t387.length co65 : Value).ownBlock ∧ some k_ ≠ (v397 : Value).ownBlock ∧ some k_ ≠ (.slice Ao68 t411.length co68 : Value).ownBlock) (fun _ => False) rfl rfl ?aO ?aR (fun _ _ h => h) (fun _ h => h.elim) ?aF ?aB ?aS ?aL ?_; (case aR => repeat (first | exact (Kd.R_reads' HO413.out).2.2 | (with_reducible refine Kd.C_alloc ?_ _) | (with_reducible refine Kd.C_drewN ?_ _) | (with_reducible refine Kd.C_drew ?_))); (case aB => exact (by repeat (first | (with_reducible first | exact HB.out | apply below_alloc | apply pw_below_drewN | apply below_drew1 | refine below_set ?_ GE386.out | refine below_set ?_ GE394.out | refine below_set ?_ GE403.out) | exact HB.out))); (case aF => exact (fun k_ hk => ⟨Kd.fresh' (Kd.R_lt (by (with_reducible repeat (first | apply Kd.R_alloc | apply Kd.R_drewN | apply Kd.R_drew)); exact HO_5.out)) k_ hk, Kd.fresh' (Kd.R_lt (by (with_reducible repeat (first | apply Kd.R_alloc | apply Kd.R_drewN | apply Kd.R_drew)); exact HO_7.out)) k_ hk, Kd.fresh' (Kd.R_lt (by (with_reducible repeat (first | apply Kd.R_alloc | apply Kd.R_drewN | apply Kd.R_drew)); exact HO_9.out)) k_ hk, Kd.fresh' (Kd.R_lt (by (with_reducible repeat (first | apply Kd.R_alloc | apply Kd.R_drewN | apply Kd.R_drew)); exact HO413.out)) k_ hk⟩)); (case aO => exact (by (with_reducible repeat (first | apply Kd.R_alloc | apply Kd.R_drewN | apply Kd.R_drew)); exact Kd.R_mono HO410.out (fun _ hk => ⟨hk.1.1.1.2, ⟨hk.1.1.2, ⟨hk.1.2, hk.2⟩⟩⟩))); (case aS => exact (below_size (by repeat (first | (with_reducible first | exact HB.out | apply below_alloc | apply pw_below_drewN | apply below_drew1 | refine below_set ?_ GE386.out | refine below_set ?_ GE394.out | refine below_set ?_ GE403.out) | exact HB.out)))); (case aL => have := LMc57.out; omega); intro v415 w67 ho hb hg hat; rw [← Ny414.out] at ho; have n0_ := Aside0.mk (Kd.R_after (ok := (fun k_ => some k_ ≠ (.slice Ao65 t387.length co65 : Value).ownBlock ∧ some k_ ≠ (v397 : Value).ownBlock ∧ some k_ ≠ (.slice Ao68 t411.length co68 : Value).ownBlock)) (by (with_reducible repeat (first | apply Kd.R_alloc | apply Kd.R_drewN | apply Kd.R_drew)); exact Kd.R_mono HO_5.out (fun _ hk => ⟨⟨hk.1.1.1, ⟨hk.1.1.2, hk.2⟩⟩, hk.1.2⟩)) hg hat); have n1_ := Aside0.mk (Kd.R_after (ok := (fun k_ => some k_ ≠ (.slice Ao62 t379.length co62 : Value).ownBlock ∧ some k_ ≠ (v397 : Value).ownBlock ∧ some k_ ≠ (.slice Ao68 t411.length co68 : Value).ownBlock)) (by (with_reducible repeat (first | apply Kd.R_alloc | apply Kd.R_drewN | apply Kd.R_drew)); exact Kd.R_mono HO_7.out (fun _ hk => ⟨⟨hk.1.1.1, ⟨hk.1.1.2, hk.2⟩⟩, hk.1.2⟩)) hg hat); have n2_ := Aside0.mk (Kd.R_after (ok := (fun k_ => some k_ ≠ (.slice Ao62 t379.length co62 : Value).ownBlock ∧ some k_ ≠ (.slice Ao65 t387.length co65 : Value).ownBlock ∧ some k_ ≠ (.slice Ao68 t411.length co68 : Value).ownBlock)) (by (with_reducible repeat (first | apply Kd.R_alloc | apply Kd.R_drewN | apply Kd.R_drew)); exact Kd.R_mono HO_9.out (fun _ hk => ⟨⟨hk.1.1.1, ⟨hk.1.1.2, hk.2⟩⟩, hk.1.2⟩)) hg hat); have n3_ := Aside0.mk (blk_grown (g := gb386) (o := .cells #[.int .i64 t382, .int .i64 t383, .int .i64 t384, .int .i64 t385] 34 (0, 0)) (by (with_reducible repeat (first | refine blk_drewN ?_ _ | refine blk_drew ?_ | refine blk_alloc ?_ _)); exact BK386.out) hg (Kd.R_ne HO410.out BK386.out (by decide))); have n4_ := Aside0.mk (blk_grown (g := gb394) (o := .cells #[.int .i64 t390, .int .i64 t391, .int .i64 t392, .int .i64 t393] 34 (0, 0)) (by (with_reducible repeat (first | refine blk_drewN ?_ _ | refine blk_drew ?_ | refine blk_alloc ?_ _)); exact BK394.out) hg (Kd.R_ne HO410.out BK394.out (by decide))); have n5_ := Aside0.mk (blk_grown (g := gb403) (o := .cells #[.int .i64 t399, .int .i64 t400, .int .i64 t401, .int .i64 t402] 34 (0, 0)) (by (with_reducible repeat (first | refine blk_drewN ?_ _ | refine blk_drew ?_ | refine blk_alloc ?_ _)); exact BK403.out) hg (Kd.R_ne HO410.out BK403.out (by decide))); have n6_ := Aside0.mk (Kd.R_after (ok := (fun k_ => some k_ ≠ (.slice Ao62 t379.length co62 : Value).ownBlock ∧ some k_ ≠ (.slice Ao65 t387.length co65 : Value).ownBlock ∧ some k_ ≠ (v397 : Value).ownBlock)) (by (with_reducible repeat (first | apply Kd.R_alloc | apply Kd.R_drewN | apply Kd.R_drew)); exact Kd.R_mono HO413.out (fun _ hk => ⟨⟨hk.1.1.1.2, ⟨hk.1.1.2, hk.1.2⟩⟩, hk.2⟩)) hg hat); have n7_ := Aside0.mk (hb); have n8_ := Aside0.mk ((show Kd.C k40 w67 Ao62 y404.length y404 from by rw [Ny404.out]; exact Kd.C_take (m := ((ji52) : Int).toNat) ((Kd.R_reads' (Kd.R_after (ok := (fun k_ => some k_ ≠ (.slice Ao65 t387.length co65 : Value).ownBlock ∧ some k_ ≠ (v397 : Value).ownBlock ∧ some k_ ≠ (.slice Ao68 t411.length co68 : Value).ownBlock)) (by (with_reducible repeat (first | apply Kd.R_alloc | apply Kd.R_drewN | apply Kd.R_drew)); exact Kd.R_mono HO_5.out (fun _ hk => ⟨⟨hk.1.1.1, ⟨hk.1.1.2, hk.2⟩⟩, hk.1.2⟩)) hg hat)).2.2) KL63.out)); have n9_ := Aside0.mk (ho); clear HO_5; clear HO_7; clear HO_9; clear BK386; clear BK394; clear BK403; clear HO413; clear HB; clear HR407; clear HO410; have HO_5 := n0_; have HO_7 := n1_; have HO_9 := n2_; have BK386 := n3_; have BK394 := n4_; have BK403 := n5_; have HO413 := n6_; have HB := n7_; have HR407 := n8_; have HO416 := n9_; clear n0_ n1_ n2_ n3_ n4_ n5_ n6_ n7_ n8_ n9_; clear ho hb hg hat; obtain ⟨Ao69, co69, eo69⟩ := Kd.R_slice HO_9.out; subst eo69) | ((with_reducible refine gate_callee (f := 19) rfl ?_); refine goesL_ (some 79) rfl rfl Tryd.func19 (by kernel_rfl) rfl #[.slice Ao69 t396.length co69] rfl (by (try simp only [List.map_toArray, List.map_cons, List.map_nil]); first | done | rfl | (simp only [List.length_drop, List.length_take]; rfl)) ?_; (with_reducible refine (mortiselaw02_plain.calls kj34 _ _ t396 t417 _ ?side1 ?side2 A58.out).mono ?_); (case side1 => repeat (first | exact (Kd.R_reads' HO_9.out).2.2 | (with_reducible refine Kd.C_alloc ?_ _) | (with_reducible refine Kd.C_drewN ?_ _) | (with_reducible refine Kd.C_drew ?_))); (case side2 => exact (Kd.R_reads' HO_9.out).2.1); rintro e w70 ⟨v418, rfl, ho0, hb⟩; refine ⟨_, rfl, ?_⟩; have n0_ := Aside0.mk (Kd.R_elder' (by (with_reducible repeat (first | apply Kd.R_alloc | apply Kd.R_drewN | apply Kd.R_drew)); exact HO_5.out) (Kd.R_base ho0) hb); have n1_ := Aside0.mk (Kd.R_elder' (by (with_reducible repeat (first | apply Kd.R_alloc | apply Kd.R_drewN | apply Kd.R_drew)); exact HO_7.out) (Kd.R_base ho0) hb); have n2_ := Aside0.mk (Kd.R_elder' (by (with_reducible repeat (first | apply Kd.R_alloc | apply Kd.R_drewN | apply Kd.R_drew)); exact HO_9.out) (Kd.R_base ho0) hb); have n3_ := Aside0.mk (Kd.R_elder' (by (with_reducible repeat (first | apply Kd.R_alloc | apply Kd.R_drewN | apply Kd.R_drew)); exact HO413.out) (Kd.R_base ho0) hb); have n4_ := Aside0.mk (Kd.R_elder' (by (with_reducible repeat (first | apply Kd.R_alloc | apply Kd.R_drewN | apply Kd.R_drew)); exact HO416.out) (Kd.R_base ho0) hb); have n5_ := Aside0.mk (Kd.R_lower (Kd.R_new' (Kd.R_new' (Kd.R_new' (Kd.R_new' (Kd.R_new' ho0 (Kd.R_lt (by (with_reducible repeat (first | apply Kd.R_alloc | apply Kd.R_drewN | apply Kd.R_drew)); exact HO_5.out))) (Kd.R_lt (by (with_reducible repeat (first | apply Kd.R_alloc | apply Kd.R_drewN | apply Kd.R_drew)); exact HO_7.out))) (Kd.R_lt (by (with_reducible repeat (first | apply Kd.R_alloc | apply Kd.R_drewN | apply Kd.R_drew)); exact HO_9.out))) (Kd.R_lt (by (with_reducible repeat (first | apply Kd.R_alloc | apply Kd.R_drewN | apply Kd.R_drew)); exact HO413.out))) (Kd.R_lt (by (with_reducible repeat (first | apply Kd.R_alloc | apply Kd.R_drewN | apply Kd.R_drew)); exact HO416.out))) (below_size (by repeat (first | (with_reducible first | exact HB.out | apply below_alloc | apply pw_below_drewN | apply below_drew1 | refine below_set ?_ GE386.out | refine below_set ?_ GE394.out | refine below_set ?_ GE403.out) | exact HB.out)))); have n6_ := Aside0.mk (blk_below (g := gb386) (o := .cells #[.int .i64 t382, .int .i64 t383, .int .i64 t384, .int .i64 t385] 34 (0, 0)) (by (with_reducible repeat (first | refine blk_drewN ?_ _ | refine blk_drew ?_ | refine blk_alloc ?_ _)); exact BK386.out) hb); have n7_ := Aside0.mk (blk_below (g := gb394) (o := .cells #[.int .i64 t390, .int .i64 t391, .int .i64 t392, .int .i64 t393] 34 (0, 0)) (by (with_reducible repeat (first | refine blk_drewN ?_ _ | refine blk_drew ?_ | refine blk_alloc ?_ _)); exact BK394.out) hb); have n8_ := Aside0.mk (blk_below (g := gb403) (o := .cells #[.int .i64 t399, .int .i64 t400, .int .i64 t401, .int .i64 t402] 34 (0, 0)) (by (with_reducible repeat (first | refine blk_drewN ?_ _ | refine blk_drew ?_ | refine blk_alloc ?_ _)); exact BK403.out) hb); have n9_ := Aside0.mk (Kd.C_below (by repeat (first | (with_reducible exact HR407.out) | (with_reducible refine Kd.C_alloc ?_ _) | (with_reducible refine Kd.C_drewN ?_ _) | (with_reducible refine Kd.C_drew ?_) | exact HR407.out)) hb); have n10_ := Aside0.mk (below_step (by repeat (first | (with_reducible first | exact HB.out | apply below_alloc | apply pw_below_drewN | apply below_drew1 | refine below_set ?_ GE386.out | refine below_set ?_ GE394.out | refine below_set ?_ GE403.out) | exact HB.out)) hb); clear HO_5; clear HO_7; clear HO_9; clear HO413; clear HO416; clear BK386; clear BK394; clear BK403; clear HR407; clear HB; have HO_5 := n0_; have HO_7 := n1_; have HO_9 := n2_; have HO413 := n3_; have HO416 := n4_; have HO419 := n5_; have BK386 := n6_; have BK394 := n7_; have BK403 := n8_; have HR407 := n9_; have HB := n10_; clear n0_ n1_ n2_ n3_ n4_ n5_ n6_ n7_ n8_ n9_ n10_; (try clear hb); (try clear hb2); (try clear hk); (try clear hi); (try clear ho0); obtain ⟨Ao71, co71, eo71⟩ := Kd.R_slice HO419.out; subst eo71; obtain ⟨Ao72, co72, eo72⟩ := Kd.R_slice HO416.out; subst eo72) | ((with_reducible refine gate_callee (f := 20) rfl ?_); refine goesL_ (some 81) rfl rfl Tryd.func20 (by kernel_rfl) rfl #[.slice Ao71 t417.length co71, .slice Ao72 y414.length co72] rfl (by (try simp only [List.map_toArray, List.map_cons, List.map_nil]); first | done | rfl | (simp only [List.length_drop, List.length_take]; rfl)) ?_; (with_reducible refine (mortiselaw02_Same.calls kj34 _ _ t417 _ _ y414 true _ ?side1 ?side2 ?side3 ?side4 A59.out).mono ?_); (case side1 => repeat (first | exact (Kd.R_reads' HO419.out).2.2 | (with_reducible refine Kd.C_alloc ?_ _) | (with_reducible refine Kd.C_drewN ?_ _) | (with_reducible refine Kd.C_drew ?_))); (case side2 => exact (Kd.R_reads' HO419.out).2.1); (case side3 => repeat (first | exact (Kd.R_reads' HO416.out).2.2 | (with_reducible refine Kd.C_alloc ?_ _) | (with_reducible refine Kd.C_drewN ?_ _) | (with_reducible refine Kd.C_drew ?_))); (case side4 => exact (Kd.R_reads' HO416.out).2.1); rintro e w' ⟨rfl, ⟨nd, rfl⟩⟩; refine ⟨_, rfl, ?_⟩) | (go_at_call 15; (with_reducible refine (mortiselaw02_heads.calls kj34  t421 _ ?side1 A61.out).mono ?_); (case side1 => exact GInv.below HG.out (by repeat (first | (with_reducible first | exact HB.out | apply below_alloc | apply pw_below_drewN | apply below_drew1 | refine below_set ?_ GE386.out | refine below_set ?_ GE394.out | refine below_set ?_ GE403.out) | exact HB.out))); rintro e w73 ⟨rfl, hb⟩; have n0_ := Aside0.mk (Kd.R_below (by (with_reducible repeat (first | apply Kd.R_alloc | apply Kd.R_drewN | apply Kd.R_drew)); exact HO_5.out) hb); have n1_ := Aside0.mk (Kd.R_below (by (with_reducible repeat (first | apply Kd.R_alloc | apply Kd.R_drewN | apply Kd.R_drew)); exact HO_7.out) hb); have n2_ := Aside0.mk (Kd.R_below (by (with_reducible repeat (first | apply Kd.R_alloc | apply Kd.R_drewN | apply Kd.R_drew)); exact HO_9.out) hb); have n3_ := Aside0.mk (Kd.R_below (by (with_reducible repeat (first | apply Kd.R_alloc | apply Kd.R_drewN | apply Kd.R_drew)); exact HO413.out) hb); have n4_ := Aside0.mk (Kd.R_below (by (with_reducible repeat (first | apply Kd.R_alloc | apply Kd.R_drewN | apply Kd.R_drew)); exact HO416.out) hb); have n5_ := Aside0.mk (Kd.R_below (by (with_reducible repeat (first | apply Kd.R_alloc | apply Kd.R_drewN | apply Kd.R_drew)); exact HO419.out) hb); have n6_ := Aside0.mk (blk_below (g := gb386) (o := .cells #[.int .i64 t382, .int .i64 t383, .int .i64 t384, .int .i64 t385] 34 (0, 0)) (by (with_reducible repeat (first | refine blk_drewN ?_ _ | refine blk_drew ?_ | refine blk_alloc ?_ _)); exact BK386.out) hb); have n7_ := Aside0.mk (blk_below (g := gb394) (o := .cells #[.int .i64 t390, .int .i64 t391, .int .i64 t392, .int .i64 t393] 34 (0, 0)) (by (with_reducible repeat (first | refine blk_drewN ?_ _ | refine blk_drew ?_ | refine blk_alloc ?_ _)); exact BK394.out) hb); have n8_ := Aside0.mk (blk_below (g := gb403) (o := .cells #[.int .i64 t399, .int .i64 t400, .int .i64 t401, .int .i64 t402] 34 (0, 0)) (by (with_reducible repeat (first | refine blk_drewN ?_ _ | refine blk_drew ?_ | refine blk_alloc ?_ _)); exact BK403.out) hb); have n9_ := Aside0.mk (Kd.C_below (by repeat (first | (with_reducible exact HR407.out) | (with_reducible refine Kd.C_alloc ?_ _) | (with_reducible refine Kd.C_drewN ?_ _) | (with_reducible refine Kd.C_drew ?_) | exact HR407.out)) hb); have n10_ := Aside0.mk (below_step (by repeat (first | (with_reducible first | exact HB.out | apply below_alloc | apply pw_below_drewN | apply below_drew1 | refine below_set ?_ GE386.out | refine below_set ?_ GE394.out | refine below_set ?_ GE403.out) | exact HB.out)) hb); clear HO_5; clear HO_7; clear HO_9; clear HO413; clear HO416; clear HO419; clear BK386; clear BK394; clear BK403; clear HR407; clear HB; have HO_5 := n0_; have HO_7 := n1_; have HO_9 := n2_; have HO413 := n3_; have HO416 := n4_; have HO419 := n5_; have BK386 := n6_; have BK394 := n7_; have BK403 := n8_; have HR407 := n9_; have HB := n10_; clear n0_ n1_ n2_ n3_ n4_ n5_ n6_ n7_ n8_ n9_ n10_; (try clear hb); (try clear hb2); (try clear hk); (try clear hi)))
             go_ret
             exact ⟨by first | rfl | (simp [errW_none, errW_some] <;> rfl) | (simp only [← hji52]; first | rfl | (simp [errW_none, errW_some] <;> rfl)) | (simp [*, errW_none, errW_some] <;> rfl), by repeat (first | (with_reducible first | exact HB.out | apply below_alloc | apply pw_below_drewN | apply below_drew1 | refine below_set ?_ GE386.out | refine below_set ?_ GE394.out | refine below_set ?_ GE403.out) | exact HB.out)⟩
            ·
             replace c60 := Bool.eq_false_iff.mpr c60
             subst c60
             have H1 : (none) = some r := by rw [if_neg (show ¬ (false = true) by decide)] at H; exact H
             clear H
             have H := H1
             clear H1
             exact absurd H (by simp)
           ·
            rw [if_neg c57] at H
            exact absurd H (by simp)
          ·
           rw [if_neg c54] at H
           exact absurd H (by simp)
         ·
          rw [if_neg c53] at H
          exact absurd H (by simp)
     ·
      rw [if_neg c33] at H
      exact absurd H (by simp)
    ·
     rw [if_neg c32] at H
     exact absurd H (by simp)

end Go.Proofs.YtpfjkpknljigmaaDoor.Q
