/- token.number. -/
import Derived.Test.YtpfjkpknljigmaaDoorQx7
import Derived.Test.YtpfjkpknljigmaaDoorQx9
import Derived.Test.YtpfjkpknljigmaaDoorH1
namespace Go.Proofs.YtpfjkpknljigmaaDoor.Q
open Go.RowKit Go.Proofs.YtpfjkpknljigmaaDoorW.PrintWords Go.Proofs.YtpfjkpknljigmaaDoorW.PrintLast Go.Proofs.YtpfjkpknljigmaaDoorW.PrintMore
set_option linter.unusedVariables false
set_option linter.unusedSimpArgs false

def number.hexq (s : ByteArray) : Bool := decide (2 < (s.size : Int)) && (bt s 0 == 48 && Go.bits .or .u8 (bt s 1) 32 == 120)
def number.zero : Int × ByteArray × Int × Int × Int × Int × Bool := (0, ⟨#[]⟩, 0, 0, 0, 0, false)
def number.base (l : Bool) : ByteArray := if l = true then (⟨#[108, 111, 110, 103]⟩ : ByteArray) else (⟨#[105, 110, 116]⟩ : ByteArray)
def number.name (u l : Bool) : ByteArray := if u = true then (⟨#[117, 110, 115, 105, 103, 110, 101, 100, 32]⟩ : ByteArray) ++ number.base l else number.base l
def number.tl (K : Nat) (body : ByteArray) (u l : Bool) : Option (Int × ByteArray × Int × Int × Int × Int × Bool) :=
 (token_value.f K body).bind fun p => if p.2.2 = false then some number.zero else if p.1 > 4294967295 then some number.zero else
  if u = false ∧ p.1 > 2147483647 ∧ p.2.1 = true then some number.zero else some (3, number.name (u || decide (p.1 > 2147483647)) l, p.1, 0, 0, 0, true)
def number.l0 (K : Nat) (x body : ByteArray) : Nat → Int → Bool → Bool → Option (Int × ByteArray × Int × Int × Int × Int × Bool)
 | 0, _, _, _ => none
 | k + 1, i, u, l => if i < (x.size : Int) then (if 0 ≤ i then
   (if Go.bits .or .u8 (bt x i) 32 = 108 then (if l = true then some number.zero else number.l0 K x body k (wrap64 (i + 1)) u true)
    else if Go.bits .or .u8 (bt x i) 32 = 117 then (if u = true then some number.zero else number.l0 K x body k (wrap64 (i + 1)) true l)
    else some number.zero) else none) else number.tl K body u l
def number.body (s : ByteArray) : Option ByteArray := (strings_TrimRight.f s (⟨#[117, 85, 108, 76]⟩ : ByteArray)).bind fun b =>
 if number.hexq s = true then ((token_run.f (s.extract 2 s.size) 62).bind fun n => if 0 ≤ n then (if wrap64 (2 + n) ≤ (s.size : Int) then (if 0 ≤ wrap64 (2 + n) then some (s.extract 0 (wrap64 (2 + n)).toNat) else none) else none) else none) else some b
def token_number.f (s : ByteArray) : Option (Int × ByteArray × Int × Int × Int × Int × Bool) :=
 (number.body s).bind fun b => if (b.size : Int) ≤ (s.size : Int) then number.l0 (s.size + 4) (s.extract b.size s.size) b (s.size + 1) 0 false false else none

abbrev numZ : Array Value := #[.int .i64 0, .string (⟨#[]⟩ : ByteArray), .int .i64 0, .int .i64 0, .int .i64 0, .int .i64 0]

set_option maxHeartbeats 2000000 in
set_option maxRecDepth 100000 in
theorem token_number.calls (s : ByteArray) (r1 : Int) (r2 : ByteArray) (r3 r4 r5 r6 : Int) (r7 : Bool) (w : World) (h : token_number.f s = some (r1, r2, r3, r4, r5, r6, r7)) :
  Calls Tryd.prog 49 #[.string s] w fun e w' => e = .returned (.tuple #[.agg #[.int .i64 r1, .string r2, .int .i64 r3, .int .i64 r4, .int .i64 r5, .int .i64 r6], .bool r7]) ∧ Below w.heap.size w w' := by
 have hu40 := Tryd.underlying40
 have HB := Aside0.mk (Below.refl w.heap.size w)
 obtain ⟨b, hb0, h⟩ := Option.bind_eq_some_iff.mp h
 obtain ⟨b0, ht0, hb0⟩ := Option.bind_eq_some_iff.mp hb0
 have HT := Aside0.mk ht0
 have HBODY := Aside0.mk hb0
 have HL := Aside0.mk h
 clear h hb0 ht0
 go_enter Tryd.func49, Tryd.ntmps49
 go_upto_region 2 with (first
  | ((with_reducible refine gate_dst (N := 2) rfl ?_); refine box_event ?hg (N := 2) ?hd (cs := numZ) (t := 40) ?hr ?_; (case hd => rfl); (case hg => rfl); (case hr => first | (go_simp; done) | (go_simp; rfl)); intro g0 hg w1 hbox hb; have n0_ := Aside0.mk (below_step HB.out hb); have n1_ := Aside0.mk hbox; have n2_ := Aside0.mk (show w.heap.size ≤ g0 by rw [hg]; exact below_size HB.out); clear HB; have HB := n0_; have B0 := n1_; have G0 := n2_; clear n0_ n1_ n2_ hb hbox hg)
  | (go_at_call 61; (with_reducible refine (strings_TrimRight.calls s (⟨#[117, 85, 108, 76]⟩ : ByteArray) b0 _ HT.out).mono ?_); rintro e w2 ⟨rfl, hb⟩; have n0_ := Aside0.mk (blk_below B0.out hb); have n1_ := Aside0.mk (below_step HB.out hb); clear B0 HB; have B0 := n0_; have HB := n1_; clear n0_ n1_ hb))
 go_cut [29] (fun v29 wc => v29 = .bool (number.hexq s) ∧ Aside0 (wc.heap[g0]? = some (.cells numZ 40 (0, 0))) ∧ Aside0 (Below w.heap.size w wc))
 case first =>
  by_cases c1 : 2 < (s.size : Int)
  ·
   have c1b0 : decide (2 < (s.size : Int)) = true := decide_eq_true c1
   have c1b1 : decide (2 < s.size) = true := decide_eq_true (by omega)
   have q0 := eq_true (show 0 < s.size by omega)
   have q1 := eq_true (show 1 < s.size by omega)
   have qi0 := eq_true (show (0 : Int) < (s.size : Int) by omega)
   have qi1 := eq_true (show (1 : Int) < (s.size : Int) by omega)
   have hx0 : ∀ h : 0 < s.size, ((s[0]'h).toNat : Int) = bt s 0 := bt_at s 0
   have hx1 : ∀ h : 1 < s.size, ((s[1]'h).toNat : Int) = bt s 1 := bt_at s 1
   clear c1
   by_cases c2 : bt s 0 = 48
   ·
    have c2b0 : (bt s 0 == 48) = true := beq_iff_eq.mpr c2
    clear c2
    go_wp2
    go_meet
    case rel => exact ⟨by simp [number.hexq, *], B0, HB⟩
   ·
    have c2b0 : (bt s 0 == 48) = false := beq_eq_false_iff_ne.mpr c2
    clear c2
    go_wp2
    go_meet
    case rel => exact ⟨by simp [number.hexq, *], B0, HB⟩
  ·
   have c1b0 : decide (2 < (s.size : Int)) = false := decide_eq_false c1
   have c1b1 : decide (2 < s.size) = false := decide_eq_false (by omega)
   clear c1
   go_wp2
   go_meet
   case rel => exact ⟨by simp [number.hexq, *], B0, HB⟩
 case rest =>
 clear B0 HB
 obtain ⟨rfl, B0, HB⟩ := hcut
 go_upto_if 29 with (fail)
 go_cut [4] (fun v4 wc => v4 = .string b ∧ Aside0 (wc.heap[g0]? = some (.cells numZ 40 (0, 0))) ∧ Aside0 (Below w.heap.size w wc))
 case first =>
  have H := HBODY.out
  cases hq : number.hexq s with
  | true =>
   rw [hq, if_pos rfl] at H
   obtain ⟨n, hn, H⟩ := Option.bind_eq_some_iff.mp H
   have HN := Aside0.mk hn
   clear hn
   by_cases c1 : 0 ≤ n
   ·
    rw [if_pos c1] at H
    by_cases c2 : wrap64 (2 + n) ≤ (s.size : Int)
    ·
     rw [if_pos c2] at H
     by_cases c3 : 0 ≤ wrap64 (2 + n)
     ·
      rw [if_pos c3] at H
      obtain rfl := Option.some.inj H
      clear H
      have hs2 : 2 < (s.size : Int) := by
       have h1 := hq
       unfold number.hexq at h1
       simp only [Bool.and_eq_true, decide_eq_true_eq] at h1
       exact h1.1
      have c0b := eq_true (show (2 : Int) ≤ (s.size : Int) by omega)
      have c0b1 := eq_true (show 2 ≤ s.size by omega)
      obtain ⟨j, hj⟩ : ∃ j : Int, wrap64 (2 + n) = j := ⟨_, rfl⟩
      have hjw : IntKind.i64.wrap (2 + n) = j := (i64_w _).trans hj
      rw [hj] at c2 c3
      have c2b0 := eq_true c2
      have c2b1 : decide (j ≤ (s.size : Int)) = true := decide_eq_true c2
      have c3b0 := eq_true c3
      have c3b1 : decide (0 ≤ j) = true := decide_eq_true c3
      have HJ := Aside0.mk hj
      have H1 := Aside0.mk c1
      clear c1 c2 c3 hs2 hj
      go_wp2_with (first | (go_at_call 45; (with_reducible refine (token_run.calls (s.extract 2 s.size) 62 n _ HN.out).mono ?_); rintro e w' ⟨rfl, ⟨nd, rfl⟩⟩))
      go_meet
      case rel => exact ⟨by simp [HJ.out], B0, ⟨by repeat (first | exact HB.out | apply pw_below_drewN)⟩⟩
     ·
      rw [if_neg c3] at H; cases H
    ·
     rw [if_neg c2] at H; cases H
   ·
    rw [if_neg c1] at H; cases H
  | false =>
   rw [hq, if_neg (by decide)] at H
   obtain rfl := Option.some.inj H
   go_wp2
   go_meet
   case rel => exact ⟨rfl, B0, HB⟩
 case rest =>
 clear B0 HB
 obtain ⟨rfl, B0, HB⟩ := hcut
 go_upto_region 4 with (fail)
 go_cut [5, 6] (fun v5 v6 wc => ∃ gu gl : Nat, v5 = .pointer (some ⟨gu, 0, none⟩) ∧ v6 = .pointer (some ⟨gl, 0, none⟩) ∧ Aside0 (wc.heap[gu]? = some (.cells #[.bool false] 4 (0, 0))) ∧ Aside0 (wc.heap[gl]? = some (.cells #[.bool false] 4 (0, 0))) ∧ Aside0 (gu ≠ gl) ∧ Aside0 (g0 ≠ gu ∧ g0 ≠ gl) ∧ Aside0 (w.heap.size ≤ gu ∧ w.heap.size ≤ gl) ∧ Aside0 (wc.heap[g0]? = some (.cells numZ 40 (0, 0))) ∧ Aside0 (Below w.heap.size w wc))
 case first =>
  go_wp2
  go_meet
  case rel => exact ⟨wc.heap.size, wc.heap.size + 1, rfl, rfl, ⟨blk_alloc (blk_new _ _) _⟩, ⟨by simpa using blk_new (wc.alloc (.cells #[.bool false] 4 (0, 0))) (.cells #[.bool false] 4 (0, 0))⟩, ⟨by omega⟩, ⟨by have := blk_lt B0.out; omega⟩, ⟨by have := below_size HB.out; omega⟩, ⟨blk_alloc (blk_alloc B0.out _) _⟩, ⟨below_alloc (below_alloc HB.out _) _⟩⟩
 case rest =>
 clear B0 HB
 obtain ⟨gu, gl, rfl, rfl, BU, BL, NE, NG, GE, B0, HB⟩ := hcut
 have H := HL.out
 by_cases cb : (b.size : Int) ≤ (s.size : Int)
 ·
  rw [if_pos cb] at H
  have H' := Aside0.mk H
  clear H
  have cb0 := eq_true cb
  have cb1 := eq_true (show b.size ≤ s.size by omega)
  have cb2 : decide (b.size ≤ s.size) = true := decide_eq_true (by omega)
  have cb3 : decide ((b.size : Int) ≤ (s.size : Int)) = true := decide_eq_true cb
  clear cb
  obtain ⟨x, hx⟩ : ∃ x, x = s.extract b.size s.size := ⟨_, rfl⟩
  have hxs : x.size = s.size - b.size := by rw [hx, ByteArray.size_extract]; omega
  have HX := Aside0.mk hx
  have HXS := Aside0.mk hxs
  have HS : Aside0 (x.size ≤ 9223372036854775807) := ⟨by
   have h1 := HT.out
   unfold strings_TrimRight.f at h1
   split at h1
   ·
    omega
   ·
    cases h1⟩
  clear hx hxs
  have hcv : ∀ W : World, (convert 9 43 (.string (s.extract b.size s.size))).run Tryd.prog W = .ok (.slice (some ⟨W.heap.size, 0, none⟩) (s.extract b.size s.size).size (grownCap W (s.extract b.size s.size).size 0 5)) (Lib.bytesWorld W 5 (s.extract b.size s.size)) := fun W => Lib.run_convert_string_bytes W _ _ 5 _ Tryd.underlying9 Tryd.underlying43 Tryd.underlying5
  go_upto_region 5 with (fail)
  go_cut [40, 41, 42] (fun v40 v41 v42 wc => ∃ gs c : Nat, v40 = .slice (some ⟨gs, 0, none⟩) x.size c ∧ v41 = .int .i64 (x.size : Int) ∧ v42 = .int .i64 0 ∧ Aside0 (∀ j : Nat, j < x.size → wc.cell? ⟨gs, j, none⟩ = some (.int .u8 (bt x j))) ∧ Aside0 (gs < wc.heap.size ∧ gs ≠ gu ∧ gs ≠ gl ∧ gs ≠ g0) ∧ Aside0 (wc.heap[gu]? = some (.cells #[.bool false] 4 (0, 0))) ∧ Aside0 (wc.heap[gl]? = some (.cells #[.bool false] 4 (0, 0))) ∧ Aside0 (wc.heap[g0]? = some (.cells numZ 40 (0, 0))) ∧ Aside0 (Below w.heap.size w wc))
  case first =>
   go_wp2
   go_meet
   case rel => exact ⟨wc.heap.size, _, by rw [HXS.out], by rw [HXS.out], rfl, ⟨fun j hj => by have hz := cell_bytesW wc 5 x HS.out j hj; rw [HX.out] at hz ⊢; exact hz⟩, ⟨by rw [Lib.bytesWorld_size]; have a1 := blk_lt BU.out; have a2 := blk_lt BL.out; have a3 := blk_lt B0.out; omega⟩, ⟨blk_below BU.out (below_bytesW _ _ _)⟩, ⟨blk_below BL.out (below_bytesW _ _ _)⟩, ⟨blk_below B0.out (below_bytesW _ _ _)⟩, ⟨below_step HB.out (below_bytesW _ _ _)⟩⟩
  case rest =>
  clear hcv BU BL B0 HB
  obtain ⟨gs, c, rfl, rfl, rfl, RD, GS, BU, BL, B0, HB⟩ := hcut
  rw [← HX.out] at H'
  go_wp2
  go_loopg [42] (s.size + 1) (fun kq v42 W => ∃ (i : Int) (u l : Bool), v42 = .int .i64 i ∧ Aside0 (number.l0 (s.size + 4) x b kq i u l = some (r1, r2, r3, r4, r5, r6, r7)) ∧ Aside0 (kq ≤ s.size + 1) ∧ Aside0 (∀ j : Nat, j < x.size → W.cell? ⟨gs, j, none⟩ = some (.int .u8 (bt x j))) ∧ Aside0 (gs < W.heap.size ∧ gs ≠ gu ∧ gs ≠ gl ∧ gs ≠ g0) ∧ Aside0 (W.heap[gu]? = some (.cells #[.bool u] 4 (0, 0))) ∧ Aside0 (W.heap[gl]? = some (.cells #[.bool l] 4 (0, 0))) ∧ Aside0 (W.heap[g0]? = some (.cells numZ 40 (0, 0))) ∧ Aside0 (Below w.heap.size w W))
  case atStart => exact ⟨0, false, false, rfl, H', ⟨Nat.le_refl _⟩, RD, GS, BU, BL, B0, HB⟩
  case round =>
   clear H' RD GS BU BL B0 HB
   obtain ⟨i, u, l, rfl, HA, HK1, RD, GS, BU, BL, B0, HB⟩ := hrel
   cases gk with
   | zero => exact absurd HA.out (by simp [number.l0])
   | succ k1 =>
    have H := HA.out
    clear HA
    simp only [number.l0] at H
    by_cases c4 : i < (x.size : Int)
    ·
     rw [if_pos c4] at H
     have c4b0 : decide (i < (x.size : Int)) = true := decide_eq_true c4
     by_cases c5 : 0 ≤ i
     ·
      rw [if_pos c5] at H
      have c5b0 : decide (0 ≤ i) = true := decide_eq_true c5
      have q4 := eq_true c4
      have q5 := eq_true c5
      have hcell : wr.cell? ⟨gs, i.toNat, none⟩ = some (.int .u8 (bt x i)) := by
       have h1 := RD.out i.toNat (by omega)
       rwa [Int.toNat_of_nonneg c5] at h1
      have hcu : wr.cell? ⟨gu, 0, none⟩ = some (.bool u) := (blk_cell BU.out 0).trans rfl
      have hcl : wr.cell? ⟨gl, 0, none⟩ = some (.bool l) := (blk_cell BL.out 0).trans rfl
      have hfu : wr.frozen? ⟨gu, 0, none⟩ = false := blk_frozen BU.out 0
      have hfl : wr.frozen? ⟨gl, 0, none⟩ = false := blk_frozen BL.out 0
      clear c4 c5
      by_cases c6 : Go.bits .or .u8 (bt x i) 32 = 108
      ·
       rw [if_pos c6] at H
       have c6b0 : (Go.bits .or .u8 (bt x i) 32 == 108) = true := beq_iff_eq.mpr c6
       clear c6
       cases l with
       | true =>
        rw [if_pos rfl] at H
        simp only [Option.some.injEq, number.zero, Prod.mk.injEq] at H
        obtain ⟨rfl, rfl, rfl, rfl, rfl, rfl, rfl⟩ := H
        go_wp2_with (first | ((refine store_row_event ?z1 40 (.tmp 2) (.tmp 56) ?z2 g0 numZ ?z3 ?z4 40 numZ B0.out ?z5 ?z6 ?z7 ?_; (case z2 => with_reducible rfl); (case z1 => rfl); (case z3 => rfl); (case z4 => rfl); (case z5 => kernel_rfl); (case z6 => kernel_rfl); (case z7 => kernel_rfl)); intro wz hz0 hzk hzb; have n0_ := Aside0.mk hz0; have n1_ := Aside0.mk (hzb w (by repeat (first | exact HB.out | apply pw_below_drewN | apply below_drew1)) G0.out); clear B0 HB hz0 hzk hzb; have B0 := n0_; have HB := n1_; clear n0_ n1_))
        refine bodyPost_ret (results_ct rfl _ _ g0 40 numZ (0, 0) _ rfl B0.out Tryd.underlying40 rfl (by kernel_rfl)) rfl ?_
        exact ⟨rfl, HB.out⟩
       | false =>
        rw [if_neg (by decide)] at H
        have H' := Aside0.mk H
        clear H
        go_wp2
        go_roundg k1
        case measure => have := HK1.out; omega
        case rel => exact ⟨wrap64 (i + 1), u, true, (by first | rfl | (simp; done)), H', ⟨by have := HK1.out; omega⟩, ⟨fun j hj => by rw [World.cell?_setCell_other _ _ _ _ (by intro e_; cases e_; exact GS.out.2.2.1 rfl)]; exact RD.out j hj⟩, ⟨by have := GS.out; simpa using this⟩, ⟨blk_far BU.out (fun e_ => NE.out e_) _⟩, ⟨blk_put BL.out 0 _ rfl⟩, ⟨blk_far B0.out (fun e_ => NG.out.2 e_) _⟩, ⟨below_set HB.out GE.out.2⟩⟩
      ·
       rw [if_neg c6] at H
       have c6b0 : (Go.bits .or .u8 (bt x i) 32 == 108) = false := beq_eq_false_iff_ne.mpr c6
       clear c6
       by_cases c7 : Go.bits .or .u8 (bt x i) 32 = 117
       ·
        rw [if_pos c7] at H
        have c7b0 : (Go.bits .or .u8 (bt x i) 32 != 117) = false := bne_eq_false_iff_eq.mpr c7
        have c7b1 : (Go.bits .or .u8 (bt x i) 32 == 117) = true := beq_iff_eq.mpr c7
        clear c7
        cases u with
        | true =>
         rw [if_pos rfl] at H
         simp only [Option.some.injEq, number.zero, Prod.mk.injEq] at H
         obtain ⟨rfl, rfl, rfl, rfl, rfl, rfl, rfl⟩ := H
         go_wp2_with (first | ((refine store_row_event ?z1 40 (.tmp 2) (.tmp 56) ?z2 g0 numZ ?z3 ?z4 40 numZ B0.out ?z5 ?z6 ?z7 ?_; (case z2 => with_reducible rfl); (case z1 => rfl); (case z3 => rfl); (case z4 => rfl); (case z5 => kernel_rfl); (case z6 => kernel_rfl); (case z7 => kernel_rfl)); intro wz hz0 hzk hzb; have n0_ := Aside0.mk hz0; have n1_ := Aside0.mk (hzb w (by repeat (first | exact HB.out | apply pw_below_drewN | apply below_drew1)) G0.out); clear B0 HB hz0 hzk hzb; have B0 := n0_; have HB := n1_; clear n0_ n1_))
         refine bodyPost_ret (results_ct rfl _ _ g0 40 numZ (0, 0) _ rfl B0.out Tryd.underlying40 rfl (by kernel_rfl)) rfl ?_
         exact ⟨rfl, HB.out⟩
        | false =>
         rw [if_neg (by decide)] at H
         have H' := Aside0.mk H
         clear H
         go_wp2
         go_roundg k1
         case measure => have := HK1.out; omega
         case rel => exact ⟨wrap64 (i + 1), true, l, (by first | rfl | (simp; done)), H', ⟨by have := HK1.out; omega⟩, ⟨fun j hj => by rw [World.cell?_setCell_other _ _ _ _ (by intro e_; cases e_; exact GS.out.2.1 rfl)]; exact RD.out j hj⟩, ⟨by have := GS.out; simpa using this⟩, ⟨blk_put BU.out 0 _ rfl⟩, ⟨blk_far BL.out (fun e_ => NE.out e_.symm) _⟩, ⟨blk_far B0.out (fun e_ => NG.out.1 e_) _⟩, ⟨below_set HB.out GE.out.1⟩⟩
       ·
        rw [if_neg c7] at H
        have c7b0 : (Go.bits .or .u8 (bt x i) 32 != 117) = true := bne_iff_ne.mpr c7
        have c7b1 : (Go.bits .or .u8 (bt x i) 32 == 117) = false := beq_eq_false_iff_ne.mpr c7
        clear c7
        simp only [Option.some.injEq, number.zero, Prod.mk.injEq] at H
        obtain ⟨rfl, rfl, rfl, rfl, rfl, rfl, rfl⟩ := H
        go_wp2_with (first | ((refine store_row_event ?z1 40 (.tmp 2) (.tmp 52) ?z2 g0 numZ ?z3 ?z4 40 numZ B0.out ?z5 ?z6 ?z7 ?_; (case z2 => with_reducible rfl); (case z1 => rfl); (case z3 => rfl); (case z4 => rfl); (case z5 => kernel_rfl); (case z6 => kernel_rfl); (case z7 => kernel_rfl)); intro wz hz0 hzk hzb; have n0_ := Aside0.mk hz0; have n1_ := Aside0.mk (hzb w (by repeat (first | exact HB.out | apply pw_below_drewN | apply below_drew1)) G0.out); clear B0 HB hz0 hzk hzb; have B0 := n0_; have HB := n1_; clear n0_ n1_))
        refine bodyPost_ret (results_ct rfl _ _ g0 40 numZ (0, 0) _ rfl B0.out Tryd.underlying40 rfl (by kernel_rfl)) rfl ?_
        exact ⟨rfl, HB.out⟩
     ·
      rw [if_neg c5] at H
      cases H
    ·
     rw [if_neg c4] at H
     have c4b0 : decide (i < (x.size : Int)) = false := decide_eq_false c4
     clear c4
     have hkk := H
     clear H
     unfold number.tl at hkk
     obtain ⟨⟨v, ten, okv⟩, hv, H⟩ := Option.bind_eq_some_iff.mp hkk
     clear hkk
     have HV := Aside0.mk hv
     clear hv
     dsimp only at H
     cases okv with
     | false =>
      rw [if_pos rfl] at H
      simp only [Option.some.injEq, number.zero, Prod.mk.injEq] at H
      obtain ⟨rfl, rfl, rfl, rfl, rfl, rfl, rfl⟩ := H
      go_wp2_with (first | (go_at_call 64; (with_reducible refine (token_value.calls (s.size + 4) b v ten false _ HV.out).mono ?_); rintro e w5 ⟨rfl, hb⟩; have n0_ := Aside0.mk (blk_below B0.out hb); have n1_ := Aside0.mk (blk_below BU.out hb); have n2_ := Aside0.mk (blk_below BL.out hb); have n3_ := Aside0.mk (below_step HB.out hb); clear B0 BU BL HB hb; have B0 := n0_; have BU := n1_; have BL := n2_; have HB := n3_; clear n0_ n1_ n2_ n3_; have hcu : w5.cell? ⟨gu, 0, none⟩ = some (.bool u) := (blk_cell BU.out 0).trans rfl; have hcl : w5.cell? ⟨gl, 0, none⟩ = some (.bool l) := (blk_cell BL.out 0).trans rfl; have hfu : w5.frozen? ⟨gu, 0, none⟩ = false := blk_frozen BU.out 0; have hfl : w5.frozen? ⟨gl, 0, none⟩ = false := blk_frozen BL.out 0; have hne := NE.out; have hne2 : gl ≠ gu := fun e_ => NE.out e_.symm) | ((refine store_row_event ?z1 40 (.tmp 2) (.tmp 72) ?z2 g0 numZ ?z3 ?z4 40 numZ (by first | exact B0.out | exact blk_far B0.out (fun e_ => NG.out.1 e_) _) ?z5 ?z6 ?z7 ?_; (case z2 => with_reducible rfl); (case z1 => rfl); (case z3 => rfl); (case z4 => rfl); (case z5 => kernel_rfl); (case z6 => rfl); (case z7 => first | kernel_rfl | rfl | simp [Value.oneCell'])); intro wz hz0 hzk hzb; have n0_ := Aside0.mk hz0; have n1_ := Aside0.mk (hzb w (by repeat (first | exact HB.out | apply pw_below_drewN | apply below_drew1 | refine below_set ?_ GE.out.1)) G0.out); clear B0 HB hz0 hzk hzb; have B0 := n0_; have HB := n1_; clear n0_ n1_))
      refine bodyPost_ret (results_ct rfl _ _ g0 40 (numZ) (0, 0) _ rfl B0.out Tryd.underlying40 rfl (by kernel_rfl)) rfl ?_
      exact ⟨rfl, HB.out⟩
     | true =>
      rw [if_neg (by decide)] at H
      by_cases c8 : v > 4294967295
      ·
       rw [if_pos c8] at H
       have c8b0 : decide (4294967295 < v) = true := decide_eq_true c8
       clear c8
       simp only [Option.some.injEq, number.zero, Prod.mk.injEq] at H
       obtain ⟨rfl, rfl, rfl, rfl, rfl, rfl, rfl⟩ := H
       go_wp2_with (first | (go_at_call 64; (with_reducible refine (token_value.calls (s.size + 4) b v ten true _ HV.out).mono ?_); rintro e w5 ⟨rfl, hb⟩; have n0_ := Aside0.mk (blk_below B0.out hb); have n1_ := Aside0.mk (blk_below BU.out hb); have n2_ := Aside0.mk (blk_below BL.out hb); have n3_ := Aside0.mk (below_step HB.out hb); clear B0 BU BL HB hb; have B0 := n0_; have BU := n1_; have BL := n2_; have HB := n3_; clear n0_ n1_ n2_ n3_; have hcu : w5.cell? ⟨gu, 0, none⟩ = some (.bool u) := (blk_cell BU.out 0).trans rfl; have hcl : w5.cell? ⟨gl, 0, none⟩ = some (.bool l) := (blk_cell BL.out 0).trans rfl; have hfu : w5.frozen? ⟨gu, 0, none⟩ = false := blk_frozen BU.out 0; have hfl : w5.frozen? ⟨gl, 0, none⟩ = false := blk_frozen BL.out 0; have hne := NE.out; have hne2 : gl ≠ gu := fun e_ => NE.out e_.symm) | ((refine store_row_event ?z1 40 (.tmp 2) (.tmp 72) ?z2 g0 numZ ?z3 ?z4 40 numZ (by first | exact B0.out | exact blk_far B0.out (fun e_ => NG.out.1 e_) _) ?z5 ?z6 ?z7 ?_; (case z2 => with_reducible rfl); (case z1 => rfl); (case z3 => rfl); (case z4 => rfl); (case z5 => kernel_rfl); (case z6 => rfl); (case z7 => first | kernel_rfl | rfl | simp [Value.oneCell'])); intro wz hz0 hzk hzb; have n0_ := Aside0.mk hz0; have n1_ := Aside0.mk (hzb w (by repeat (first | exact HB.out | apply pw_below_drewN | apply below_drew1 | refine below_set ?_ GE.out.1)) G0.out); clear B0 HB hz0 hzk hzb; have B0 := n0_; have HB := n1_; clear n0_ n1_))
       refine bodyPost_ret (results_ct rfl _ _ g0 40 (numZ) (0, 0) _ rfl B0.out Tryd.underlying40 rfl (by kernel_rfl)) rfl ?_
       exact ⟨rfl, HB.out⟩
      ·
       rw [if_neg c8] at H
       have c8b0 : decide (4294967295 < v) = false := decide_eq_false c8
       clear c8
       cases u with
       | false =>
        by_cases c9 : v > 2147483647
        ·
         have c9b0 : decide (2147483647 < v) = true := decide_eq_true c9
         cases ten with
         | true =>
          rw [if_pos ⟨rfl, c9, rfl⟩] at H
          clear c9
          simp only [Option.some.injEq, number.zero, Prod.mk.injEq] at H
          obtain ⟨rfl, rfl, rfl, rfl, rfl, rfl, rfl⟩ := H
          go_wp2_with (first | (go_at_call 64; (with_reducible refine (token_value.calls (s.size + 4) b v true true _ HV.out).mono ?_); rintro e w5 ⟨rfl, hb⟩; have n0_ := Aside0.mk (blk_below B0.out hb); have n1_ := Aside0.mk (blk_below BU.out hb); have n2_ := Aside0.mk (blk_below BL.out hb); have n3_ := Aside0.mk (below_step HB.out hb); clear B0 BU BL HB hb; have B0 := n0_; have BU := n1_; have BL := n2_; have HB := n3_; clear n0_ n1_ n2_ n3_; have hcu : w5.cell? ⟨gu, 0, none⟩ = some (.bool false) := (blk_cell BU.out 0).trans rfl; have hcl : w5.cell? ⟨gl, 0, none⟩ = some (.bool l) := (blk_cell BL.out 0).trans rfl; have hfu : w5.frozen? ⟨gu, 0, none⟩ = false := blk_frozen BU.out 0; have hfl : w5.frozen? ⟨gl, 0, none⟩ = false := blk_frozen BL.out 0; have hne := NE.out; have hne2 : gl ≠ gu := fun e_ => NE.out e_.symm) | ((refine store_row_event ?z1 40 (.tmp 2) (.tmp 83) ?z2 g0 numZ ?z3 ?z4 40 numZ (by first | exact B0.out | exact blk_far B0.out (fun e_ => NG.out.1 e_) _) ?z5 ?z6 ?z7 ?_; (case z2 => with_reducible rfl); (case z1 => rfl); (case z3 => rfl); (case z4 => rfl); (case z5 => kernel_rfl); (case z6 => rfl); (case z7 => first | kernel_rfl | rfl | simp [Value.oneCell'])); intro wz hz0 hzk hzb; have n0_ := Aside0.mk hz0; have n1_ := Aside0.mk (hzb w (by repeat (first | exact HB.out | apply pw_below_drewN | apply below_drew1 | refine below_set ?_ GE.out.1)) G0.out); clear B0 HB hz0 hzk hzb; have B0 := n0_; have HB := n1_; clear n0_ n1_))
          refine bodyPost_ret (results_ct rfl _ _ g0 40 (numZ) (0, 0) _ rfl B0.out Tryd.underlying40 rfl (by kernel_rfl)) rfl ?_
          exact ⟨rfl, HB.out⟩
         | false =>
          rw [if_neg (by simp)] at H
          have c9c : decide (v > 2147483647) = true := decide_eq_true c9
          rw [c9c] at H
          clear c9 c9c
          cases l with
          | false =>
           simp only [number.name, number.base, Bool.or_true, Bool.true_or, if_pos rfl, if_true, Bool.false_eq_true, if_false] at H
           simp only [Option.some.injEq, number.zero, Prod.mk.injEq] at H
           obtain ⟨rfl, rfl, rfl, rfl, rfl, rfl, rfl⟩ := H
           go_wp2_with (first | (go_at_call 64; (with_reducible refine (token_value.calls (s.size + 4) b v false true _ HV.out).mono ?_); rintro e w5 ⟨rfl, hb⟩; have n0_ := Aside0.mk (blk_below B0.out hb); have n1_ := Aside0.mk (blk_below BU.out hb); have n2_ := Aside0.mk (blk_below BL.out hb); have n3_ := Aside0.mk (below_step HB.out hb); clear B0 BU BL HB hb; have B0 := n0_; have BU := n1_; have BL := n2_; have HB := n3_; clear n0_ n1_ n2_ n3_; have hcu : w5.cell? ⟨gu, 0, none⟩ = some (.bool false) := (blk_cell BU.out 0).trans rfl; have hcl : w5.cell? ⟨gl, 0, none⟩ = some (.bool false) := (blk_cell BL.out 0).trans rfl; have hfu : w5.frozen? ⟨gu, 0, none⟩ = false := blk_frozen BU.out 0; have hfl : w5.frozen? ⟨gl, 0, none⟩ = false := blk_frozen BL.out 0; have hne := NE.out; have hne2 : gl ≠ gu := fun e_ => NE.out e_.symm) | ((refine store_row_event ?z1 40 (.tmp 2) (.tmp 93) ?z2 g0 #[.int .i64 3, .string ((⟨#[117, 110, 115, 105, 103, 110, 101, 100, 32]⟩ : ByteArray) ++ (⟨#[105, 110, 116]⟩ : ByteArray)), .int .i64 v, .int .i64 0, .int .i64 0, .int .i64 0] ?z3 ?z4 40 numZ (by first | exact B0.out | exact blk_far B0.out (fun e_ => NG.out.1 e_) _) ?z5 ?z6 ?z7 ?_; (case z2 => with_reducible rfl); (case z1 => rfl); (case z3 => rfl); (case z4 => rfl); (case z5 => kernel_rfl); (case z6 => rfl); (case z7 => first | kernel_rfl | rfl | simp [Value.oneCell'])); intro wz hz0 hzk hzb; have n0_ := Aside0.mk hz0; have n1_ := Aside0.mk (hzb w (by repeat (first | exact HB.out | apply pw_below_drewN | apply below_drew1 | refine below_set ?_ GE.out.1)) G0.out); clear B0 HB hz0 hzk hzb; have B0 := n0_; have HB := n1_; clear n0_ n1_))
           refine bodyPost_ret (results_ct rfl _ _ g0 40 (#[.int .i64 3, .string ((⟨#[117, 110, 115, 105, 103, 110, 101, 100, 32]⟩ : ByteArray) ++ (⟨#[105, 110, 116]⟩ : ByteArray)), .int .i64 v, .int .i64 0, .int .i64 0, .int .i64 0]) (0, 0) _ rfl B0.out Tryd.underlying40 rfl (by kernel_rfl)) rfl ?_
           exact ⟨rfl, HB.out⟩
          | true =>
           simp only [number.name, number.base, Bool.or_true, Bool.true_or, if_pos rfl, if_true, Bool.false_eq_true, if_false] at H
           simp only [Option.some.injEq, number.zero, Prod.mk.injEq] at H
           obtain ⟨rfl, rfl, rfl, rfl, rfl, rfl, rfl⟩ := H
           go_wp2_with (first | (go_at_call 64; (with_reducible refine (token_value.calls (s.size + 4) b v false true _ HV.out).mono ?_); rintro e w5 ⟨rfl, hb⟩; have n0_ := Aside0.mk (blk_below B0.out hb); have n1_ := Aside0.mk (blk_below BU.out hb); have n2_ := Aside0.mk (blk_below BL.out hb); have n3_ := Aside0.mk (below_step HB.out hb); clear B0 BU BL HB hb; have B0 := n0_; have BU := n1_; have BL := n2_; have HB := n3_; clear n0_ n1_ n2_ n3_; have hcu : w5.cell? ⟨gu, 0, none⟩ = some (.bool false) := (blk_cell BU.out 0).trans rfl; have hcl : w5.cell? ⟨gl, 0, none⟩ = some (.bool true) := (blk_cell BL.out 0).trans rfl; have hfu : w5.frozen? ⟨gu, 0, none⟩ = false := blk_frozen BU.out 0; have hfl : w5.frozen? ⟨gl, 0, none⟩ = false := blk_frozen BL.out 0; have hne := NE.out; have hne2 : gl ≠ gu := fun e_ => NE.out e_.symm) | ((refine store_row_event ?z1 40 (.tmp 2) (.tmp 93) ?z2 g0 #[.int .i64 3, .string ((⟨#[117, 110, 115, 105, 103, 110, 101, 100, 32]⟩ : ByteArray) ++ (⟨#[108, 111, 110, 103]⟩ : ByteArray)), .int .i64 v, .int .i64 0, .int .i64 0, .int .i64 0] ?z3 ?z4 40 numZ (by first | exact B0.out | exact blk_far B0.out (fun e_ => NG.out.1 e_) _) ?z5 ?z6 ?z7 ?_; (case z2 => with_reducible rfl); (case z1 => rfl); (case z3 => rfl); (case z4 => rfl); (case z5 => kernel_rfl); (case z6 => rfl); (case z7 => first | kernel_rfl | rfl | simp [Value.oneCell'])); intro wz hz0 hzk hzb; have n0_ := Aside0.mk hz0; have n1_ := Aside0.mk (hzb w (by repeat (first | exact HB.out | apply pw_below_drewN | apply below_drew1 | refine below_set ?_ GE.out.1)) G0.out); clear B0 HB hz0 hzk hzb; have B0 := n0_; have HB := n1_; clear n0_ n1_))
           refine bodyPost_ret (results_ct rfl _ _ g0 40 (#[.int .i64 3, .string ((⟨#[117, 110, 115, 105, 103, 110, 101, 100, 32]⟩ : ByteArray) ++ (⟨#[108, 111, 110, 103]⟩ : ByteArray)), .int .i64 v, .int .i64 0, .int .i64 0, .int .i64 0]) (0, 0) _ rfl B0.out Tryd.underlying40 rfl (by kernel_rfl)) rfl ?_
           exact ⟨rfl, HB.out⟩
        ·
         have c9b0 : decide (2147483647 < v) = false := decide_eq_false c9
         rw [if_neg (by intro h_; exact c9 h_.2.1)] at H
         have c9c : decide (v > 2147483647) = false := decide_eq_false c9
         rw [c9c] at H
         clear c9 c9c
         cases l with
         | false =>
          simp only [number.name, number.base, Bool.or_self, Bool.or_true, Bool.true_or, if_pos rfl, if_true, Bool.false_eq_true, if_false] at H
          simp only [Option.some.injEq, number.zero, Prod.mk.injEq] at H
          obtain ⟨rfl, rfl, rfl, rfl, rfl, rfl, rfl⟩ := H
          go_wp2_with (first | (go_at_call 64; (with_reducible refine (token_value.calls (s.size + 4) b v ten true _ HV.out).mono ?_); rintro e w5 ⟨rfl, hb⟩; have n0_ := Aside0.mk (blk_below B0.out hb); have n1_ := Aside0.mk (blk_below BU.out hb); have n2_ := Aside0.mk (blk_below BL.out hb); have n3_ := Aside0.mk (below_step HB.out hb); clear B0 BU BL HB hb; have B0 := n0_; have BU := n1_; have BL := n2_; have HB := n3_; clear n0_ n1_ n2_ n3_; have hcu : w5.cell? ⟨gu, 0, none⟩ = some (.bool false) := (blk_cell BU.out 0).trans rfl; have hcl : w5.cell? ⟨gl, 0, none⟩ = some (.bool false) := (blk_cell BL.out 0).trans rfl; have hfu : w5.frozen? ⟨gu, 0, none⟩ = false := blk_frozen BU.out 0; have hfl : w5.frozen? ⟨gl, 0, none⟩ = false := blk_frozen BL.out 0; have hne := NE.out; have hne2 : gl ≠ gu := fun e_ => NE.out e_.symm) | ((refine store_row_event ?z1 40 (.tmp 2) (.tmp 93) ?z2 g0 #[.int .i64 3, .string (⟨#[105, 110, 116]⟩ : ByteArray), .int .i64 v, .int .i64 0, .int .i64 0, .int .i64 0] ?z3 ?z4 40 numZ (by first | exact B0.out | exact blk_far B0.out (fun e_ => NG.out.1 e_) _) ?z5 ?z6 ?z7 ?_; (case z2 => with_reducible rfl); (case z1 => rfl); (case z3 => rfl); (case z4 => rfl); (case z5 => kernel_rfl); (case z6 => rfl); (case z7 => first | kernel_rfl | rfl | simp [Value.oneCell'])); intro wz hz0 hzk hzb; have n0_ := Aside0.mk hz0; have n1_ := Aside0.mk (hzb w (by repeat (first | exact HB.out | apply pw_below_drewN | apply below_drew1 | refine below_set ?_ GE.out.1)) G0.out); clear B0 HB hz0 hzk hzb; have B0 := n0_; have HB := n1_; clear n0_ n1_))
          refine bodyPost_ret (results_ct rfl _ _ g0 40 (#[.int .i64 3, .string (⟨#[105, 110, 116]⟩ : ByteArray), .int .i64 v, .int .i64 0, .int .i64 0, .int .i64 0]) (0, 0) _ rfl B0.out Tryd.underlying40 rfl (by kernel_rfl)) rfl ?_
          exact ⟨rfl, HB.out⟩
         | true =>
          simp only [number.name, number.base, Bool.or_self, Bool.or_true, Bool.true_or, if_pos rfl, if_true, Bool.false_eq_true, if_false] at H
          simp only [Option.some.injEq, number.zero, Prod.mk.injEq] at H
          obtain ⟨rfl, rfl, rfl, rfl, rfl, rfl, rfl⟩ := H
          go_wp2_with (first | (go_at_call 64; (with_reducible refine (token_value.calls (s.size + 4) b v ten true _ HV.out).mono ?_); rintro e w5 ⟨rfl, hb⟩; have n0_ := Aside0.mk (blk_below B0.out hb); have n1_ := Aside0.mk (blk_below BU.out hb); have n2_ := Aside0.mk (blk_below BL.out hb); have n3_ := Aside0.mk (below_step HB.out hb); clear B0 BU BL HB hb; have B0 := n0_; have BU := n1_; have BL := n2_; have HB := n3_; clear n0_ n1_ n2_ n3_; have hcu : w5.cell? ⟨gu, 0, none⟩ = some (.bool false) := (blk_cell BU.out 0).trans rfl; have hcl : w5.cell? ⟨gl, 0, none⟩ = some (.bool true) := (blk_cell BL.out 0).trans rfl; have hfu : w5.frozen? ⟨gu, 0, none⟩ = false := blk_frozen BU.out 0; have hfl : w5.frozen? ⟨gl, 0, none⟩ = false := blk_frozen BL.out 0; have hne := NE.out; have hne2 : gl ≠ gu := fun e_ => NE.out e_.symm) | ((refine store_row_event ?z1 40 (.tmp 2) (.tmp 93) ?z2 g0 #[.int .i64 3, .string (⟨#[108, 111, 110, 103]⟩ : ByteArray), .int .i64 v, .int .i64 0, .int .i64 0, .int .i64 0] ?z3 ?z4 40 numZ (by first | exact B0.out | exact blk_far B0.out (fun e_ => NG.out.1 e_) _) ?z5 ?z6 ?z7 ?_; (case z2 => with_reducible rfl); (case z1 => rfl); (case z3 => rfl); (case z4 => rfl); (case z5 => kernel_rfl); (case z6 => rfl); (case z7 => first | kernel_rfl | rfl | simp [Value.oneCell'])); intro wz hz0 hzk hzb; have n0_ := Aside0.mk hz0; have n1_ := Aside0.mk (hzb w (by repeat (first | exact HB.out | apply pw_below_drewN | apply below_drew1 | refine below_set ?_ GE.out.1)) G0.out); clear B0 HB hz0 hzk hzb; have B0 := n0_; have HB := n1_; clear n0_ n1_))
          refine bodyPost_ret (results_ct rfl _ _ g0 40 (#[.int .i64 3, .string (⟨#[108, 111, 110, 103]⟩ : ByteArray), .int .i64 v, .int .i64 0, .int .i64 0, .int .i64 0]) (0, 0) _ rfl B0.out Tryd.underlying40 rfl (by kernel_rfl)) rfl ?_
          exact ⟨rfl, HB.out⟩
       | true =>
        by_cases c9 : v > 2147483647
        ·
         have c9b0 : decide (2147483647 < v) = true := decide_eq_true c9
         rw [if_neg (by simp)] at H
         clear c9
         cases l with
         | false =>
          simp only [number.name, number.base, Bool.or_true, Bool.true_or, if_pos rfl, if_true, Bool.false_eq_true, if_false] at H
          simp only [Option.some.injEq, number.zero, Prod.mk.injEq] at H
          obtain ⟨rfl, rfl, rfl, rfl, rfl, rfl, rfl⟩ := H
          go_wp2_with (first | (go_at_call 64; (with_reducible refine (token_value.calls (s.size + 4) b v ten true _ HV.out).mono ?_); rintro e w5 ⟨rfl, hb⟩; have n0_ := Aside0.mk (blk_below B0.out hb); have n1_ := Aside0.mk (blk_below BU.out hb); have n2_ := Aside0.mk (blk_below BL.out hb); have n3_ := Aside0.mk (below_step HB.out hb); clear B0 BU BL HB hb; have B0 := n0_; have BU := n1_; have BL := n2_; have HB := n3_; clear n0_ n1_ n2_ n3_; have hcu : w5.cell? ⟨gu, 0, none⟩ = some (.bool true) := (blk_cell BU.out 0).trans rfl; have hcl : w5.cell? ⟨gl, 0, none⟩ = some (.bool false) := (blk_cell BL.out 0).trans rfl; have hfu : w5.frozen? ⟨gu, 0, none⟩ = false := blk_frozen BU.out 0; have hfl : w5.frozen? ⟨gl, 0, none⟩ = false := blk_frozen BL.out 0; have hne := NE.out; have hne2 : gl ≠ gu := fun e_ => NE.out e_.symm) | ((refine store_row_event ?z1 40 (.tmp 2) (.tmp 93) ?z2 g0 #[.int .i64 3, .string ((⟨#[117, 110, 115, 105, 103, 110, 101, 100, 32]⟩ : ByteArray) ++ (⟨#[105, 110, 116]⟩ : ByteArray)), .int .i64 v, .int .i64 0, .int .i64 0, .int .i64 0] ?z3 ?z4 40 numZ (by first | exact B0.out | exact blk_far B0.out (fun e_ => NG.out.1 e_) _) ?z5 ?z6 ?z7 ?_; (case z2 => with_reducible rfl); (case z1 => rfl); (case z3 => rfl); (case z4 => rfl); (case z5 => kernel_rfl); (case z6 => rfl); (case z7 => first | kernel_rfl | rfl | simp [Value.oneCell'])); intro wz hz0 hzk hzb; have n0_ := Aside0.mk hz0; have n1_ := Aside0.mk (hzb w (by repeat (first | exact HB.out | apply pw_below_drewN | apply below_drew1 | refine below_set ?_ GE.out.1)) G0.out); clear B0 HB hz0 hzk hzb; have B0 := n0_; have HB := n1_; clear n0_ n1_))
          refine bodyPost_ret (results_ct rfl _ _ g0 40 (#[.int .i64 3, .string ((⟨#[117, 110, 115, 105, 103, 110, 101, 100, 32]⟩ : ByteArray) ++ (⟨#[105, 110, 116]⟩ : ByteArray)), .int .i64 v, .int .i64 0, .int .i64 0, .int .i64 0]) (0, 0) _ rfl B0.out Tryd.underlying40 rfl (by kernel_rfl)) rfl ?_
          exact ⟨rfl, HB.out⟩
         | true =>
          simp only [number.name, number.base, Bool.or_true, Bool.true_or, if_pos rfl, if_true, Bool.false_eq_true, if_false] at H
          simp only [Option.some.injEq, number.zero, Prod.mk.injEq] at H
          obtain ⟨rfl, rfl, rfl, rfl, rfl, rfl, rfl⟩ := H
          go_wp2_with (first | (go_at_call 64; (with_reducible refine (token_value.calls (s.size + 4) b v ten true _ HV.out).mono ?_); rintro e w5 ⟨rfl, hb⟩; have n0_ := Aside0.mk (blk_below B0.out hb); have n1_ := Aside0.mk (blk_below BU.out hb); have n2_ := Aside0.mk (blk_below BL.out hb); have n3_ := Aside0.mk (below_step HB.out hb); clear B0 BU BL HB hb; have B0 := n0_; have BU := n1_; have BL := n2_; have HB := n3_; clear n0_ n1_ n2_ n3_; have hcu : w5.cell? ⟨gu, 0, none⟩ = some (.bool true) := (blk_cell BU.out 0).trans rfl; have hcl : w5.cell? ⟨gl, 0, none⟩ = some (.bool true) := (blk_cell BL.out 0).trans rfl; have hfu : w5.frozen? ⟨gu, 0, none⟩ = false := blk_frozen BU.out 0; have hfl : w5.frozen? ⟨gl, 0, none⟩ = false := blk_frozen BL.out 0; have hne := NE.out; have hne2 : gl ≠ gu := fun e_ => NE.out e_.symm) | ((refine store_row_event ?z1 40 (.tmp 2) (.tmp 93) ?z2 g0 #[.int .i64 3, .string ((⟨#[117, 110, 115, 105, 103, 110, 101, 100, 32]⟩ : ByteArray) ++ (⟨#[108, 111, 110, 103]⟩ : ByteArray)), .int .i64 v, .int .i64 0, .int .i64 0, .int .i64 0] ?z3 ?z4 40 numZ (by first | exact B0.out | exact blk_far B0.out (fun e_ => NG.out.1 e_) _) ?z5 ?z6 ?z7 ?_; (case z2 => with_reducible rfl); (case z1 => rfl); (case z3 => rfl); (case z4 => rfl); (case z5 => kernel_rfl); (case z6 => rfl); (case z7 => first | kernel_rfl | rfl | simp [Value.oneCell'])); intro wz hz0 hzk hzb; have n0_ := Aside0.mk hz0; have n1_ := Aside0.mk (hzb w (by repeat (first | exact HB.out | apply pw_below_drewN | apply below_drew1 | refine below_set ?_ GE.out.1)) G0.out); clear B0 HB hz0 hzk hzb; have B0 := n0_; have HB := n1_; clear n0_ n1_))
          refine bodyPost_ret (results_ct rfl _ _ g0 40 (#[.int .i64 3, .string ((⟨#[117, 110, 115, 105, 103, 110, 101, 100, 32]⟩ : ByteArray) ++ (⟨#[108, 111, 110, 103]⟩ : ByteArray)), .int .i64 v, .int .i64 0, .int .i64 0, .int .i64 0]) (0, 0) _ rfl B0.out Tryd.underlying40 rfl (by kernel_rfl)) rfl ?_
          exact ⟨rfl, HB.out⟩
        ·
         have c9b0 : decide (2147483647 < v) = false := decide_eq_false c9
         rw [if_neg (by simp)] at H
         clear c9
         cases l with
         | false =>
          simp only [number.name, number.base, Bool.or_self, Bool.or_true, Bool.true_or, if_pos rfl, if_true, Bool.false_eq_true, if_false] at H
          simp only [Option.some.injEq, number.zero, Prod.mk.injEq] at H
          obtain ⟨rfl, rfl, rfl, rfl, rfl, rfl, rfl⟩ := H
          go_wp2_with (first | (go_at_call 64; (with_reducible refine (token_value.calls (s.size + 4) b v ten true _ HV.out).mono ?_); rintro e w5 ⟨rfl, hb⟩; have n0_ := Aside0.mk (blk_below B0.out hb); have n1_ := Aside0.mk (blk_below BU.out hb); have n2_ := Aside0.mk (blk_below BL.out hb); have n3_ := Aside0.mk (below_step HB.out hb); clear B0 BU BL HB hb; have B0 := n0_; have BU := n1_; have BL := n2_; have HB := n3_; clear n0_ n1_ n2_ n3_; have hcu : w5.cell? ⟨gu, 0, none⟩ = some (.bool true) := (blk_cell BU.out 0).trans rfl; have hcl : w5.cell? ⟨gl, 0, none⟩ = some (.bool false) := (blk_cell BL.out 0).trans rfl; have hfu : w5.frozen? ⟨gu, 0, none⟩ = false := blk_frozen BU.out 0; have hfl : w5.frozen? ⟨gl, 0, none⟩ = false := blk_frozen BL.out 0; have hne := NE.out; have hne2 : gl ≠ gu := fun e_ => NE.out e_.symm) | ((refine store_row_event ?z1 40 (.tmp 2) (.tmp 93) ?z2 g0 #[.int .i64 3, .string ((⟨#[117, 110, 115, 105, 103, 110, 101, 100, 32]⟩ : ByteArray) ++ (⟨#[105, 110, 116]⟩ : ByteArray)), .int .i64 v, .int .i64 0, .int .i64 0, .int .i64 0] ?z3 ?z4 40 numZ (by first | exact B0.out | exact blk_far B0.out (fun e_ => NG.out.1 e_) _) ?z5 ?z6 ?z7 ?_; (case z2 => with_reducible rfl); (case z1 => rfl); (case z3 => rfl); (case z4 => rfl); (case z5 => kernel_rfl); (case z6 => rfl); (case z7 => first | kernel_rfl | rfl | simp [Value.oneCell'])); intro wz hz0 hzk hzb; have n0_ := Aside0.mk hz0; have n1_ := Aside0.mk (hzb w (by repeat (first | exact HB.out | apply pw_below_drewN | apply below_drew1 | refine below_set ?_ GE.out.1)) G0.out); clear B0 HB hz0 hzk hzb; have B0 := n0_; have HB := n1_; clear n0_ n1_))
          refine bodyPost_ret (results_ct rfl _ _ g0 40 (#[.int .i64 3, .string ((⟨#[117, 110, 115, 105, 103, 110, 101, 100, 32]⟩ : ByteArray) ++ (⟨#[105, 110, 116]⟩ : ByteArray)), .int .i64 v, .int .i64 0, .int .i64 0, .int .i64 0]) (0, 0) _ rfl B0.out Tryd.underlying40 rfl (by kernel_rfl)) rfl ?_
          exact ⟨rfl, HB.out⟩
         | true =>
          simp only [number.name, number.base, Bool.or_self, Bool.or_true, Bool.true_or, if_pos rfl, if_true, Bool.false_eq_true, if_false] at H
          simp only [Option.some.injEq, number.zero, Prod.mk.injEq] at H
          obtain ⟨rfl, rfl, rfl, rfl, rfl, rfl, rfl⟩ := H
          go_wp2_with (first | (go_at_call 64; (with_reducible refine (token_value.calls (s.size + 4) b v ten true _ HV.out).mono ?_); rintro e w5 ⟨rfl, hb⟩; have n0_ := Aside0.mk (blk_below B0.out hb); have n1_ := Aside0.mk (blk_below BU.out hb); have n2_ := Aside0.mk (blk_below BL.out hb); have n3_ := Aside0.mk (below_step HB.out hb); clear B0 BU BL HB hb; have B0 := n0_; have BU := n1_; have BL := n2_; have HB := n3_; clear n0_ n1_ n2_ n3_; have hcu : w5.cell? ⟨gu, 0, none⟩ = some (.bool true) := (blk_cell BU.out 0).trans rfl; have hcl : w5.cell? ⟨gl, 0, none⟩ = some (.bool true) := (blk_cell BL.out 0).trans rfl; have hfu : w5.frozen? ⟨gu, 0, none⟩ = false := blk_frozen BU.out 0; have hfl : w5.frozen? ⟨gl, 0, none⟩ = false := blk_frozen BL.out 0; have hne := NE.out; have hne2 : gl ≠ gu := fun e_ => NE.out e_.symm) | ((refine store_row_event ?z1 40 (.tmp 2) (.tmp 93) ?z2 g0 #[.int .i64 3, .string ((⟨#[117, 110, 115, 105, 103, 110, 101, 100, 32]⟩ : ByteArray) ++ (⟨#[108, 111, 110, 103]⟩ : ByteArray)), .int .i64 v, .int .i64 0, .int .i64 0, .int .i64 0] ?z3 ?z4 40 numZ (by first | exact B0.out | exact blk_far B0.out (fun e_ => NG.out.1 e_) _) ?z5 ?z6 ?z7 ?_; (case z2 => with_reducible rfl); (case z1 => rfl); (case z3 => rfl); (case z4 => rfl); (case z5 => kernel_rfl); (case z6 => rfl); (case z7 => first | kernel_rfl | rfl | simp [Value.oneCell'])); intro wz hz0 hzk hzb; have n0_ := Aside0.mk hz0; have n1_ := Aside0.mk (hzb w (by repeat (first | exact HB.out | apply pw_below_drewN | apply below_drew1 | refine below_set ?_ GE.out.1)) G0.out); clear B0 HB hz0 hzk hzb; have B0 := n0_; have HB := n1_; clear n0_ n1_))
          refine bodyPost_ret (results_ct rfl _ _ g0 40 (#[.int .i64 3, .string ((⟨#[117, 110, 115, 105, 103, 110, 101, 100, 32]⟩ : ByteArray) ++ (⟨#[108, 111, 110, 103]⟩ : ByteArray)), .int .i64 v, .int .i64 0, .int .i64 0, .int .i64 0]) (0, 0) _ rfl B0.out Tryd.underlying40 rfl (by kernel_rfl)) rfl ?_
          exact ⟨rfl, HB.out⟩
 ·
  rw [if_neg cb] at H
  cases H
end Go.Proofs.YtpfjkpknljigmaaDoor.Q
