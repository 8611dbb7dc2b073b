/- token.Scan. -/
import Derived.Test.YtpfjkpknljigmaaDoorQx10
import Derived.Test.YtpfjkpknljigmaaDoorQx12
import Derived.Test.YtpfjkpknljigmaaDoorQx8
import Derived.Test.YtpfjkpknljigmaaDoorH2
namespace Go.Proofs.YtpfjkpknljigmaaDoor.Q
open Go.RowKit Go.Proofs.YtpfjkpknljigmaaDoorW.PrintWords Go.Proofs.YtpfjkpknljigmaaDoorW.PrintLast Go.Proofs.YtpfjkpknljigmaaDoorW.PrintMore
set_option linter.unusedVariables false
set_option linter.unusedSimpArgs false

/-- A row of tokens lives on where only a variable of another type (or none) was written. -/
theorem R_keep {W W1 : World} {base : Nat} {v : Value} {xs : List S40} {g T : Nat} {cs : Array Value} {ok : Nat → Prop} (h : Kd.R k40 40 W base ok v xs) (hb : W.heap[g]? = some (.cells cs T (0, 0))) (ht : 40 ≠ T)
  (hk : ∀ i, i < W.heap.size → i ≠ g → W1.heap[i]? = W.heap[i]?) : Kd.R k40 40 W1 base (fun _ => True) v xs :=
 Kd.R_mono (Kd.R_step (Kd.R_tight rfl h) (fun k ho hlt => hk k hlt (by intro e; subst e; exact Kd.R_ne h hb ht ho))) (fun _ _ => trivial)
theorem R_true {W : World} {base : Nat} {v : Value} {xs : List S40} {ok : Nat → Prop} (h : Kd.R k40 40 W base ok v xs) : Kd.R k40 40 W base (fun _ => True) v xs := Kd.R_mono h (fun _ _ => trivial)
theorem blk_keep {W W1 : World} {g g2 : Nat} {o : Obj} (h : W.heap[g2]? = some o) (hne : g2 ≠ g) (hk : KeepBut W W1 g none) : W1.heap[g2]? = some o := (hk.2 g2 (blk_lt h) hne (by simp)).trans h

def scan.K (s : ByteArray) : Nat := 8 * s.size + 64
def token_Scan.l0 (s : ByteArray) : Nat → List S40 → Int → ByteArray → Int → Int → Int → Option (List S40 × Int × Int × Int × Int)
 | 0, _, _, _, _, _, _ => none
 | k + 1, l, at_, ss, ln, cl, of =>
  (token_space.f (scan.K s) s at_).bind fun p =>
  if p.2 = 0 then
   (if p.1 = (s.size : Int) then (token_spotter_to.f (scan.K s) ss ln cl of p.1).bind fun q => (if l.length < 2513169434916 then some (l ++ [(⟨0, ⟨#[]⟩, 0, ⟨q.1, q.2.1, q.2.2.1⟩⟩ : S40)], 0, 0, 0, 0) else none)
    else if 0 ≤ p.1 then (if p.1 ≤ (s.size : Int) then (token_one.f (scan.K s) (s.extract p.1.toNat s.size)).bind fun t => (token_spotter_to.f (scan.K s) ss ln cl of p.1).bind fun q =>
     (if t.2.2.2.2.2.2.2 = 0 then (if l.length = 16384 then some ([], 23, q.1, q.2.1, q.2.2.1) else
       (if l.length < 2513169434916 then token_Scan.l0 s k (l ++ [(⟨t.1, t.2.1, t.2.2.1, ⟨q.1, q.2.1, q.2.2.1⟩⟩ : S40)]) (wrap64 (p.1 + t.2.2.2.2.2.2.1)) q.2.2.2.1 q.2.2.2.2.1 q.2.2.2.2.2.1 q.2.2.2.2.2.2 else none))
      else some ([], t.2.2.2.2.2.2.2, q.1, q.2.1, q.2.2.1)) else none) else none)
  else (token_spotter_to.f (scan.K s) ss ln cl of p.1).bind fun q => some ([], p.2, q.1, q.2.1, q.2.2.1)
def token_Scan.f (s : ByteArray) : Option (List S40 × Int × Int × Int × Int) :=
 if (s.size : Int) > 65536 then some ([], 24, 0, 0, 0) else token_Scan.l0 s (s.size + 2) [] 0 s 1 1 0

abbrev fltZ : Array Value := #[.int .i64 0, .int .i64 0, .int .i64 0, .int .i64 0]

set_option maxHeartbeats 4000000 in
set_option maxRecDepth 100000 in
theorem token_Scan.calls (s : ByteArray) (r1 : List S40) (r2 r3 r4 r5 : Int) (w : World) (hG : GInv w) (h : token_Scan.f s = some (r1, r2, r3, r4, r5)) :
  Calls Tryd.prog 18 #[.string s] w fun e w' => ∃ v0_ : Value, e = .returned (.tuple #[v0_, .agg #[.int .i64 r2, .int .i64 r3, .int .i64 r4, .int .i64 r5]]) ∧ Kd.R k40 40 w' w.heap.size (fun _ => True) v0_ r1 ∧ Below w.heap.size w w' := by
 have hu40 := Tryd.underlying40
 have hu23 := Tryd.underlying23
 have hu34 := Tryd.underlying34
 have hu57 := Tryd.underlying57
 have HG := Aside0.mk hG
 clear hG
 have HB := Aside0.mk (Below.refl w.heap.size w)
 unfold token_Scan.f at h
 by_cases c1 : (s.size : Int) > 65536
 ·
  rw [if_pos c1] at h
  have c1b0 : decide (65536 < (s.size : Int)) = true := decide_eq_true c1
  have c1b1 : decide (65536 < s.size) = true := decide_eq_true (by omega)
  clear c1
  simp only [Option.some.injEq, Prod.mk.injEq] at h
  obtain ⟨rfl, rfl, rfl, rfl, rfl⟩ := h
  go_enter Tryd.func18, Tryd.ntmps18
  go_wp2_with (first | ((with_reducible refine gate_dst (N := 3) rfl ?_); refine box_event ?hg (N := 3) ?hd (cs := fltZ) (t := 34) ?hr ?_; (case hd => rfl); (case hg => rfl); (case hr => first | (go_simp; done) | (go_simp; rfl)); intro g3 hg wb hbox hb; have n0_ := Aside0.mk (below_step (by repeat (first | exact HB.out | apply pw_below_drewN | apply below_drew1)) hb); have n1_ := Aside0.mk hbox; have n2_ := Aside0.mk (show w.heap.size ≤ g3 by rw [hg]; exact below_size (by repeat (first | exact HB.out | apply pw_below_drewN | apply below_drew1))); clear HB; have HB := n0_; have B3 := n1_; have GB3 := n2_; clear n0_ n1_ n2_ hb hbox hg) | ((refine store_row_event ?z1 34 (.tmp 3) (.tmp 14) ?z2 g3 #[.int .i64 24, .int .i64 0, .int .i64 0, .int .i64 0] ?z3 ?z4 34 fltZ B3.out ?z5 ?z6 ?z7 ?_; (case z2 => with_reducible rfl); (case z1 => rfl); (case z3 => rfl); (case z4 => rfl); (case z5 => kernel_rfl); (case z6 => rfl); (case z7 => first | kernel_rfl | rfl | simp [Value.oneCell'])); intro wz hz0 hzk hzb; have n0_ := Aside0.mk hz0; have n1_ := Aside0.mk (hzb w (by repeat (first | exact HB.out | apply pw_below_drewN | apply below_drew1)) GB3.out); clear B3 HB hz0 hzk hzb; have B3 := n0_; have HB := n1_; clear n0_ n1_))
  refine bodyPost_ret (results_tc rfl _ _ g3 34 #[.int .i64 24, .int .i64 0, .int .i64 0, .int .i64 0] (0, 0) _ rfl B3.out Tryd.underlying34 rfl (by kernel_rfl)) rfl ?_
  exact ⟨_, rfl, Kd.R_nil _ _ _ _ _, HB.out⟩
 ·
  rw [if_neg c1] at h
  have c1b0 : decide (65536 < (s.size : Int)) = false := decide_eq_false c1
  have c1b1 : decide (65536 < s.size) = false := decide_eq_false (by omega)
  have HS := Aside0.mk (show s.size ≤ 65536 by omega)
  clear c1
  have H' := Aside0.mk h
  clear h
  go_enter Tryd.func18, Tryd.ntmps18
  go_wp2_with (first | ((with_reducible refine gate_dst (N := 3) rfl ?_); refine box_event ?hg (N := 3) ?hd (cs := fltZ) (t := 34) ?hr ?_; (case hd => rfl); (case hg => rfl); (case hr => first | (go_simp; done) | (go_simp; rfl)); intro g3 hg wb hbox hb; have n0_ := Aside0.mk (below_step (by repeat (first | exact HB.out | apply pw_below_drewN | apply below_drew1)) hb); have n1_ := Aside0.mk hbox; have n2_ := Aside0.mk (show w.heap.size ≤ g3 by rw [hg]; exact below_size (by repeat (first | exact HB.out | apply pw_below_drewN | apply below_drew1))); clear HB; have HB := n0_; have B3 := n1_; have GB3 := n2_; clear n0_ n1_ n2_ hb hbox hg) | ((with_reducible refine gate_dst (N := 18) rfl ?_); refine box_event ?hg (N := 18) ?hd (cs := #[.string s, .int .i64 1, .int .i64 1, .int .i64 0]) (t := 57) ?hr ?_; (case hd => rfl); (case hg => rfl); (case hr => first | (go_simp; done) | (go_simp; rfl)); intro gp hg wb hbox hb; have n0_ := Aside0.mk (blk_below B3.out hb); have n1_ := Aside0.mk (below_step (by repeat (first | exact HB.out | apply pw_below_drewN | apply below_drew1)) hb); have n2_ := Aside0.mk hbox; have n3_ := Aside0.mk (show w.heap.size ≤ gp by rw [hg]; exact below_size (by repeat (first | exact HB.out | apply pw_below_drewN | apply below_drew1))); have n4_ := Aside0.mk (show gp ≠ g3 by rw [hg]; exact Nat.ne_of_gt (blk_lt B3.out)); clear B3 HB; have B3 := n0_; have HB := n1_; have BP := n2_; have GBP := n3_; have NP3 := n4_; clear n0_ n1_ n2_ n3_ n4_ hb hbox hg))
  (try simp only [Act.put, List.setIfInBounds_toArray, List.set_cons_zero, List.set_cons_succ])
  go_loopg [5, 6] (s.size + 2) (fun kq v5 v6 W => ∃ (l : List S40) (at_ : Int) (ss : ByteArray) (ln cl of : Int), v6 = .int .i64 at_ ∧ Aside0 (token_Scan.l0 s kq l at_ ss ln cl of = some (r1, r2, r3, r4, r5)) ∧ Aside0 (kq ≤ s.size + 2) ∧ Aside0 (Kd.R k40 40 W w.heap.size (fun _ => True) v5 l) ∧ Aside0 (W.heap[gp]? = some (.cells #[.string ss, .int .i64 ln, .int .i64 cl, .int .i64 of] 57 (0, 0))) ∧ Aside0 (W.heap[g3]? = some (.cells fltZ 34 (0, 0))) ∧ Aside0 (Below w.heap.size w W))
  case atStart => exact ⟨[], 0, s, 1, 1, 0, rfl, H', ⟨Nat.le_refl _⟩, ⟨Kd.R_nil _ _ _ _ _⟩, BP, B3, HB⟩
  case round =>
   clear H' B3 BP HB
   obtain ⟨l, at_, ss, ln, cl, of, rfl, HA, HK1, HO, BP, B3, HB⟩ := hrel
   cases gk with
   | zero => exact absurd HA.out (by simp [token_Scan.l0])
   | succ k1 =>
    have H := HA.out
    clear HA
    simp only [token_Scan.l0] at H
    obtain ⟨A5, c5, rfl⟩ := Kd.R_slice HO.out
    obtain ⟨⟨nx, e1⟩, h1, H_⟩ := Option.bind_eq_some_iff.mp H
    clear H
    have H := H_
    clear H_
    have HS1 := Aside0.mk h1
    clear h1
    dsimp only at H
    by_cases c2 : e1 = 0
    ·
     rw [if_pos c2] at H
     subst c2
     by_cases c3 : nx = (s.size : Int)
     ·
      rw [if_pos c3] at H
      have c3b0 : (nx == (s.size : Int)) = true := beq_iff_eq.mpr c3
      clear c3
      obtain ⟨⟨q1, q2, q3, q4, q5, q6, q7⟩, h2, H_⟩ := Option.bind_eq_some_iff.mp H
      clear H
      have H := H_
      clear H_
      have HS2 := Aside0.mk h2
      clear h2
      dsimp only at H
      by_cases c4 : l.length < 2513169434916
      ·
       rw [if_pos c4] at H
       have LM := Aside0.mk c4
       clear c4
       simp only [Option.some.injEq, Prod.mk.injEq] at H
       obtain ⟨rfl, rfl, rfl, rfl, rfl⟩ := H
       go_wp2_with (first | (go_at_call 29; (with_reducible refine (token_space.calls (scan.K s) s at_ nx 0 _ (GInv.below HG.out HB.out) HS1.out).mono ?_); rintro e w' ⟨rfl, ⟨nd, rfl⟩⟩) | (go_at_call 30; (with_reducible refine (token_spotter_to.calls (scan.K s) gp ss ln cl of nx q1 q2 q3 q4 q5 q6 q7 w _ ?tI ?tB HS2.out).mono ?_); (case tI => exact ⟨(show _ from BP.out), GBP.out⟩); (case tB => exact (by repeat (first | exact HB.out | apply pw_below_drewN | apply below_drew1))); rintro e wt ⟨rfl, ⟨hp0, hp1⟩, hb, hkp⟩; have n0_ := Aside0.mk (blk_keep B3.out (fun e_ => NP3.out e_.symm) hkp); have n1_ := Aside0.mk (R_keep HO.out BP.out (by decide) (fun i hi hne => hkp.2 i hi hne (by simp))); have n2_ := Aside0.mk hp0; have n3_ := Aside0.mk hb; clear B3 HO BP HB hp0 hp1 hb hkp; have B3 := n0_; have HO := n1_; have BP := n2_; have HB := n3_; clear n0_ n1_ n2_ n3_) | ((with_reducible refine gate_builtin (b := .append) (xs := #[.tmp 36, .tmp 41]) rfl ?_); at_builtin; refine Kd.R_append k40 (w0 := w) w.heap.size rfl (.tmp 36) (.tmp 41) 28 40 (.agg #[(.int .i64 0), (.string ⟨#[]⟩), (.int .i64 0), (.int .i64 0), (.int .i64 0), (.int .i64 0)]) 56 rfl Tryd.underlying28 info40 rfl (by decide) (by omega) (.slice A5 l.length c5) l (⟨0, ⟨#[]⟩, 0, ⟨q1, q2, q3⟩⟩ : S40) [.int .i64 0, .string ⟨#[]⟩, .int .i64 0, .int .i64 q1, .int .i64 q2, .int .i64 q3] (fun _ => True) (fun _ => False) rfl (by first | (go_simp; done) | (go_simp; rfl)) ?aP (fun _ hk => hk.elim) ?aF ?aO ?aB ?aS ?aL ?_; (case aP => exact k40_mkM _ _ _ (⟨0, ⟨#[]⟩, 0, ⟨q1, q2, q3⟩⟩ : S40)); (case aB => exact (by repeat (first | exact HB.out | apply pw_below_drewN | apply below_drew1))); (case aF => exact fun _ _ => trivial); (case aO => exact R_true HO.out); (case aS => exact (below_size (by repeat (first | exact HB.out | apply pw_below_drewN | apply below_drew1)))); (case aL => have := LM.out; omega); intro v5n wa ho hb hg hat; have n0_ := Aside0.mk ho; have n1_ := Aside0.mk (blk_grown B3.out hg (Kd.R_ne HO.out B3.out (by decide))); have n2_ := Aside0.mk (blk_grown BP.out hg (Kd.R_ne HO.out BP.out (by decide))); have n3_ := Aside0.mk hb; clear HO B3 BP HB ho hb hg hat; have HO := n0_; have B3 := n1_; have BP := n2_; have HB := n3_; clear n0_ n1_ n2_ n3_) | ((refine store_row_event ?z1 34 (.tmp 3) (.tmp 43) ?z2 g3 fltZ ?z3 ?z4 34 fltZ B3.out ?z5 ?z6 ?z7 ?_; (case z2 => with_reducible rfl); (case z1 => rfl); (case z3 => rfl); (case z4 => rfl); (case z5 => kernel_rfl); (case z6 => rfl); (case z7 => first | kernel_rfl | rfl | simp [Value.oneCell'])); intro wz hz0 hzk hzb; have n0_ := Aside0.mk (R_keep HO.out B3.out (by decide) (fun i hi hne => hzk i hne)); have n1_ := Aside0.mk hz0; have n2_ := Aside0.mk (hzb w (by repeat (first | exact HB.out | apply pw_below_drewN | apply below_drew1)) GB3.out); clear HO B3 HB hz0 hzk hzb; have HO := n0_; have B3 := n1_; have HB := n2_; clear n0_ n1_ n2_))
       refine bodyPost_ret (results_tc rfl _ _ g3 34 fltZ (0, 0) _ rfl B3.out Tryd.underlying34 rfl (by kernel_rfl)) rfl ?_
       exact ⟨_, rfl, R_true HO.out, HB.out⟩
      ·
       rw [if_neg c4] at H
       cases H
     ·
      rw [if_neg c3] at H
      have c3b0 : (nx == (s.size : Int)) = false := beq_eq_false_iff_ne.mpr c3
      clear c3
      by_cases c4 : 0 ≤ nx
      ·
       rw [if_pos c4] at H
       by_cases c5_ : nx ≤ (s.size : Int)
       ·
        rw [if_pos c5_] at H
        have c4b0 := eq_true c4
        have c4b1 : decide (0 ≤ nx) = true := decide_eq_true c4
        have c5b0 := eq_true c5_
        have c5b1 : decide (nx ≤ (s.size : Int)) = true := decide_eq_true c5_
        clear c4 c5_
        obtain ⟨⟨t1, t2, t3, t4, t5, t6, tn, te⟩, h3, H_⟩ := Option.bind_eq_some_iff.mp H
        clear H
        have H := H_
        clear H_
        have HS3 := Aside0.mk h3
        clear h3
        obtain ⟨⟨q1, q2, q3, q4, q5, q6, q7⟩, h2, H_⟩ := Option.bind_eq_some_iff.mp H
        clear H
        have H := H_
        clear H_
        have HS2 := Aside0.mk h2
        clear h2
        dsimp only at H
        have HH := Aside0.mk H
        clear H
        go_upto_region 12 with (first | (go_at_call 29; (with_reducible refine (token_space.calls (scan.K s) s at_ nx 0 _ (GInv.below HG.out HB.out) HS1.out).mono ?_); rintro e w' ⟨rfl, ⟨nd, rfl⟩⟩) | (go_at_call 31; (with_reducible refine (token_one.calls (scan.K s) (s.extract (nx : Int).toNat s.size) t1 t2 t3 t4 t5 t6 tn te _ HS3.out).mono ?_); rintro e w5 ⟨rfl, hb0⟩; have hb : Below wr.heap.size wr w5 := below_step (by repeat (first | exact Below.refl _ _ | apply pw_below_drewN)) hb0; clear hb0; have n0_ := Aside0.mk (blk_below B3.out hb); have n1_ := Aside0.mk (blk_below BP.out hb); have n2_ := Aside0.mk (Kd.R_below HO.out hb); have n3_ := Aside0.mk (below_step (by repeat (first | exact HB.out | apply pw_below_drewN | apply below_drew1)) hb); clear B3 BP HO HB hb; have B3 := n0_; have BP := n1_; have HO := n2_; have HB := n3_; clear n0_ n1_ n2_ n3_) | ((with_reducible refine gate_dst (N := 9) rfl ?_); refine box_event ?hg (N := 9) ?hd (cs := numZ) (t := 40) ?hr ?_; (case hd => rfl); (case hg => rfl); (case hr => first | (go_simp; done) | (go_simp; rfl)); intro g9 hg wb hbox hb; have n0_ := Aside0.mk (blk_below B3.out hb); have n1_ := Aside0.mk (blk_below BP.out hb); have n2_ := Aside0.mk (Kd.R_below (Kd.R_elderB (show Kd.R k40 40 _ w.heap.size (fun k => k ≠ gp) _ l from Kd.R_mono (Kd.R_tight rfl HO.out) (fun k hk e_ => Kd.R_ne HO.out BP.out (by decide) (e_ ▸ hk))) g9 (Nat.le_of_eq hg.symm)) hb); have n3_ := Aside0.mk (below_step (by repeat (first | exact HB.out | apply pw_below_drewN | apply below_drew1)) hb); have n4_ := Aside0.mk hbox; have n5_ := Aside0.mk (show w.heap.size ≤ g9 by rw [hg]; exact below_size (by repeat (first | exact HB.out | apply pw_below_drewN | apply below_drew1))); have n6_ := Aside0.mk (show g9 ≠ gp by rw [hg]; exact Nat.ne_of_gt (blk_lt BP.out)); have n7_ := Aside0.mk (show g9 ≠ g3 by rw [hg]; exact Nat.ne_of_gt (blk_lt B3.out)); clear B3 BP HO HB; have B3 := n0_; have BP := n1_; have HO := n2_; have HB := n3_; have B9 := n4_; have GB9 := n5_; have N9P := n6_; have N93 := n7_; clear n0_ n1_ n2_ n3_ n4_ n5_ n6_ n7_ hb hbox hg) | ((refine store_row_event ?z1 40 (.tmp 9) (.tmp 49) ?z2 g9 #[.int .i64 t1, .string t2, .int .i64 t3, .int .i64 t4, .int .i64 t5, .int .i64 t6] ?z3 ?z4 40 numZ B9.out ?z5 ?z6 ?z7 ?_; (case z2 => with_reducible rfl); (case z1 => rfl); (case z3 => rfl); (case z4 => rfl); (case z5 => kernel_rfl); (case z6 => rfl); (case z7 => first | kernel_rfl | rfl | simp [Value.oneCell'])); intro wz hz0 hzk hzb; have n0_ := Aside0.mk (Kd.R_step HO.out (fun k ho _ => hzk k ho.2)); have n1_ := Aside0.mk ((hzk gp (fun e_ => N9P.out e_.symm)).trans BP.out); have n2_ := Aside0.mk ((hzk g3 (fun e_ => N93.out e_.symm)).trans B3.out); have n3_ := Aside0.mk hz0; have n4_ := Aside0.mk (hzb w (by repeat (first | exact HB.out | apply pw_below_drewN | apply below_drew1)) GB9.out); clear HO BP B3 B9 HB hz0 hzk hzb; have HO := n0_; have BP := n1_; have B3 := n2_; have B9 := n3_; have HB := n4_; clear n0_ n1_ n2_ n3_ n4_))
        (try simp only [Act.put, List.setIfInBounds_toArray, List.set_cons_zero, List.set_cons_succ])
        go_cut [] (fun wc => Aside0 (Kd.R k40 40 wc w.heap.size (fun k => k ≠ g9) (.slice A5 l.length c5) l) ∧ Aside0 (wc.heap[g9]? = some (.cells #[.int .i64 t1, .string t2, .int .i64 t3, .int .i64 q1, .int .i64 q2, .int .i64 q3] 40 (0, 0))) ∧ Aside0 (wc.heap[gp]? = some (.cells #[.string q4, .int .i64 q5, .int .i64 q6, .int .i64 q7] 57 (0, 0))) ∧ Aside0 (wc.heap[g3]? = some (.cells fltZ 34 (0, 0))) ∧ Aside0 (Below w.heap.size w wc))
        case first =>
         go_wp2_with (first | (go_at_call 30; (with_reducible refine (token_spotter_to.calls (scan.K s) gp ss ln cl of nx q1 q2 q3 q4 q5 q6 q7 w _ ?tI ?tB HS2.out).mono ?_); (case tI => exact ⟨(show _ from BP.out), GBP.out⟩); (case tB => exact (by repeat (first | exact HB.out | apply pw_below_drewN | apply below_drew1))); rintro e wt ⟨rfl, ⟨hp0, hp1⟩, hb, hkp⟩; have n0_ := Aside0.mk (blk_keep B3.out (fun e_ => NP3.out e_.symm) hkp); have n1_ := Aside0.mk (blk_keep B9.out N9P.out hkp); have n2_ := Aside0.mk (Kd.R_step HO.out (fun k ho hlt => hkp.2 k hlt ho.1 (by simp))); have n3_ := Aside0.mk hp0; have n4_ := Aside0.mk hb; clear B3 B9 HO BP HB hp0 hp1 hb hkp; have B3 := n0_; have B9 := n1_; have HO := n2_; have BP := n3_; have HB := n4_; clear n0_ n1_ n2_ n3_ n4_; have z3 : wt.cell? ⟨g9, 3, none⟩ = some (.int .i64 t4) := (blk_cell B9.out 3).trans rfl; have z4 : wt.cell? ⟨g9, 4, none⟩ = some (.int .i64 t5) := (blk_cell B9.out 4).trans rfl; have z5 : wt.cell? ⟨g9, 5, none⟩ = some (.int .i64 t6) := (blk_cell B9.out 5).trans rfl; have f3 := blk_frozen B9.out 3; have f4 := blk_frozen B9.out 4; have f5 := blk_frozen B9.out 5))
         go_meet
         case rel => exact ⟨⟨Kd.R_mono (Kd.R_far (p := ⟨g9, 5, none⟩) (Kd.R_far (p := ⟨g9, 4, none⟩) (Kd.R_far (p := ⟨g9, 3, none⟩) HO.out (fun _ hk => hk.2) _) (fun _ hk => hk.2) _) (fun _ hk => hk.2) _) (fun _ hk => hk.2)⟩, ⟨blk_put (blk_put (blk_put B9.out 3 _ rfl) 4 _ rfl) 5 _ rfl⟩, ⟨blk_far (blk_far (blk_far BP.out (fun e_ => N9P.out e_.symm) _) (fun e_ => N9P.out e_.symm) _) (fun e_ => N9P.out e_.symm) _⟩, ⟨blk_far (blk_far (blk_far B3.out (fun e_ => N93.out e_.symm) _) (fun e_ => N93.out e_.symm) _) (fun e_ => N93.out e_.symm) _⟩, ⟨below_set (below_set (below_set HB.out GB9.out) GB9.out) GB9.out⟩⟩
        case rest =>
        clear HO B9 BP B3 HB
        obtain ⟨HO, B9, BP, B3, HB⟩ := hcut
        have H := HH.out
        clear HH
        have z0 := (blk_cell B9.out 0)
        have z1 := (blk_cell B9.out 1)
        have z2 := (blk_cell B9.out 2)
        have z3 := (blk_cell B9.out 3)
        have z4 := (blk_cell B9.out 4)
        have z5 := (blk_cell B9.out 5)
        replace z0 : wc.cell? ⟨g9, 0, none⟩ = some (.int .i64 t1) := z0
        replace z1 : wc.cell? ⟨g9, 1, none⟩ = some (.string t2) := z1
        replace z2 : wc.cell? ⟨g9, 2, none⟩ = some (.int .i64 t3) := z2
        replace z3 : wc.cell? ⟨g9, 3, none⟩ = some (.int .i64 q1) := z3
        replace z4 : wc.cell? ⟨g9, 4, none⟩ = some (.int .i64 q2) := z4
        replace z5 : wc.cell? ⟨g9, 5, none⟩ = some (.int .i64 q3) := z5
        by_cases c6 : te = 0
        ·
         rw [if_pos c6] at H
         subst c6
         by_cases c7 : l.length = 16384
         ·
          rw [if_pos c7] at H
          have c7b0 : ((l.length : Int) == 16384) = true := beq_iff_eq.mpr (by omega)
          have c7b1 : (l.length == 16384) = true := beq_iff_eq.mpr c7
          clear c7
          simp only [Option.some.injEq, Prod.mk.injEq] at H
          obtain ⟨rfl, rfl, rfl, rfl, rfl⟩ := H
          have y0 : wc.cell? ⟨g3, 0, none⟩ = some (.int .i64 0) := (blk_cell B3.out 0).trans rfl
          have y1 : wc.cell? ⟨g3, 1, none⟩ = some (.int .i64 0) := (blk_cell B3.out 1).trans rfl
          have y2 : wc.cell? ⟨g3, 2, none⟩ = some (.int .i64 0) := (blk_cell B3.out 2).trans rfl
          have y3 : wc.cell? ⟨g3, 3, none⟩ = some (.int .i64 0) := (blk_cell B3.out 3).trans rfl
          have yf0 := blk_frozen B3.out 0
          have yf1 := blk_frozen B3.out 1
          have yf2 := blk_frozen B3.out 2
          have yf3 := blk_frozen B3.out 3
          go_upto_region 16 with (fail)
          go_region
          all_goals
           go_wp2
           refine bodyPost_ret (results_tc rfl _ _ g3 34 #[.int .i64 23, .int .i64 q1, .int .i64 q2, .int .i64 q3] (0, 0) _ rfl (by (with_reducible repeat (first | refine blk_drewN ?_ _ | refine blk_drew ?_)); exact blk_put (blk_put (blk_put (blk_put B3.out 0 _ rfl) 1 _ rfl) 2 _ rfl) 3 _ rfl) Tryd.underlying34 rfl (by kernel_rfl)) rfl ?_
           exact ⟨_, rfl, Kd.R_nil _ _ _ _ _, by repeat (first | exact HB.out | apply pw_below_drewN | apply below_drew1 | refine below_set ?_ GB3.out)⟩
         ·
          rw [if_neg c7] at H
          have c7b0 : ((l.length : Int) == 16384) = false := beq_eq_false_iff_ne.mpr (by omega)
          have c7b1 : (l.length == 16384) = false := beq_eq_false_iff_ne.mpr c7
          clear c7
          by_cases c8 : l.length < 2513169434916
          ·
           rw [if_pos c8] at H
           have LM := Aside0.mk c8
           clear c8
           have H' := Aside0.mk H
           clear H
           go_wp2_with (first | ((with_reducible refine gate_builtin (b := .append) (xs := #[.tmp 69, .tmp 71]) rfl ?_); at_builtin; refine Kd.R_append k40 (w0 := w) w.heap.size rfl (.tmp 69) (.tmp 71) 28 40 (.agg #[(.int .i64 0), (.string ⟨#[]⟩), (.int .i64 0), (.int .i64 0), (.int .i64 0), (.int .i64 0)]) 56 rfl Tryd.underlying28 info40 rfl (by decide) (by omega) (.slice A5 l.length c5) l (⟨t1, t2, t3, ⟨q1, q2, q3⟩⟩ : S40) [.int .i64 t1, .string t2, .int .i64 t3, .int .i64 q1, .int .i64 q2, .int .i64 q3] (fun _ => True) (fun _ => False) rfl (by first | (go_simp; done) | (go_simp; rfl)) ?aP (fun _ hk => hk.elim) ?aF ?aO ?aB ?aS ?aL ?_; (case aP => exact k40_mkM _ _ _ (⟨t1, t2, t3, ⟨q1, q2, q3⟩⟩ : S40)); (case aB => exact (by repeat (first | exact HB.out | apply pw_below_drewN | apply below_drew1))); (case aF => exact fun _ _ => trivial); (case aO => exact R_true HO.out); (case aS => exact (below_size (by repeat (first | exact HB.out | apply pw_below_drewN | apply below_drew1)))); (case aL => have := LM.out; omega); intro v5n wa ho hb hg hat; have n0_ := Aside0.mk ho; have n1_ := Aside0.mk (blk_grown B3.out hg (Kd.R_ne HO.out B3.out (by decide))); have n2_ := Aside0.mk (blk_grown BP.out hg (Kd.R_ne HO.out BP.out (by decide))); have n3_ := Aside0.mk hb; clear HO B3 BP HB ho hb hg hat; have HO := n0_; have B3 := n1_; have BP := n2_; have HB := n3_; clear n0_ n1_ n2_ n3_))
           go_roundg k1
           case measure => have := HK1.out; omega
           case rel => exact ⟨_, _, _, _, _, _, (by first | rfl | (simp; done)), H', ⟨by have := HK1.out; omega⟩, ⟨R_true HO.out⟩, BP, B3, HB⟩
          ·
           rw [if_neg c8] at H
           cases H
        ·
         rw [if_neg c6] at H
         have c6b0 : (te == 0) = false := beq_eq_false_iff_ne.mpr c6
         have c6b1 : (te != 0) = true := bne_iff_ne.mpr c6
         clear c6
         simp only [Option.some.injEq, Prod.mk.injEq] at H
         obtain ⟨rfl, rfl, rfl, rfl, rfl⟩ := H
         have y0 : wc.cell? ⟨g3, 0, none⟩ = some (.int .i64 0) := (blk_cell B3.out 0).trans rfl
         have y1 : wc.cell? ⟨g3, 1, none⟩ = some (.int .i64 0) := (blk_cell B3.out 1).trans rfl
         have y2 : wc.cell? ⟨g3, 2, none⟩ = some (.int .i64 0) := (blk_cell B3.out 2).trans rfl
         have y3 : wc.cell? ⟨g3, 3, none⟩ = some (.int .i64 0) := (blk_cell B3.out 3).trans rfl
         have yf0 := blk_frozen B3.out 0
         have yf1 := blk_frozen B3.out 1
         have yf2 := blk_frozen B3.out 2
         have yf3 := blk_frozen B3.out 3
         go_upto_region 16 with (fail)
         go_region
         all_goals
          go_wp2
          refine bodyPost_ret (results_tc rfl _ _ g3 34 #[.int .i64 te, .int .i64 q1, .int .i64 q2, .int .i64 q3] (0, 0) _ rfl (by (with_reducible repeat (first | refine blk_drewN ?_ _ | refine blk_drew ?_)); exact blk_put (blk_put (blk_put (blk_put B3.out 0 _ rfl) 1 _ rfl) 2 _ rfl) 3 _ rfl) Tryd.underlying34 rfl (by kernel_rfl)) rfl ?_
          exact ⟨_, rfl, Kd.R_nil _ _ _ _ _, by repeat (first | exact HB.out | apply pw_below_drewN | apply below_drew1 | refine below_set ?_ GB3.out)⟩
       ·
        rw [if_neg c5_] at H
        cases H
      ·
       rw [if_neg c4] at H
       cases H
    ·
     rw [if_neg c2] at H
     have c2b0 : (e1 != 0) = true := bne_iff_ne.mpr c2
     have c2b1 : (e1 == 0) = false := beq_eq_false_iff_ne.mpr c2
     clear c2
     obtain ⟨⟨q1, q2, q3, q4, q5, q6, q7⟩, h2, H_⟩ := Option.bind_eq_some_iff.mp H
     clear H
     have H := H_
     clear H_
     have HS2 := Aside0.mk h2
     clear h2
     simp only [Option.some.injEq, Prod.mk.injEq] at H
     obtain ⟨rfl, rfl, rfl, rfl, rfl⟩ := H
     go_wp2_with (first | (go_at_call 29; (with_reducible refine (token_space.calls (scan.K s) s at_ nx e1 _ (GInv.below HG.out HB.out) HS1.out).mono ?_); rintro e w' ⟨rfl, ⟨nd, rfl⟩⟩) | (go_at_call 30; (with_reducible refine (token_spotter_to.calls (scan.K s) gp ss ln cl of nx q1 q2 q3 q4 q5 q6 q7 w _ ?tI ?tB HS2.out).mono ?_); (case tI => exact ⟨(show _ from BP.out), GBP.out⟩); (case tB => exact (by repeat (first | exact HB.out | apply pw_below_drewN | apply below_drew1))); rintro e wt ⟨rfl, ⟨hp0, hp1⟩, hb, hkp⟩; have n0_ := Aside0.mk (blk_keep B3.out (fun e_ => NP3.out e_.symm) hkp); have n1_ := Aside0.mk hp0; have n2_ := Aside0.mk hb; clear B3 BP HB hp0 hp1 hb hkp; have B3 := n0_; have BP := n1_; have HB := n2_; clear n0_ n1_ n2_) | ((refine store_row_event ?z1 34 (.tmp 3) (.tmp 31) ?z2 g3 #[.int .i64 e1, .int .i64 q1, .int .i64 q2, .int .i64 q3] ?z3 ?z4 34 fltZ B3.out ?z5 ?z6 ?z7 ?_; (case z2 => with_reducible rfl); (case z1 => rfl); (case z3 => rfl); (case z4 => rfl); (case z5 => kernel_rfl); (case z6 => rfl); (case z7 => first | kernel_rfl | rfl | simp [Value.oneCell'])); intro wz hz0 hzk hzb; have n0_ := Aside0.mk hz0; have n1_ := Aside0.mk (hzb w (by repeat (first | exact HB.out | apply pw_below_drewN | apply below_drew1)) GB3.out); clear B3 HB hz0 hzk hzb; have B3 := n0_; have HB := n1_; clear n0_ n1_))
     refine bodyPost_ret (results_tc rfl _ _ g3 34 #[.int .i64 e1, .int .i64 q1, .int .i64 q2, .int .i64 q3] (0, 0) _ rfl B3.out Tryd.underlying34 rfl (by kernel_rfl)) rfl ?_
     exact ⟨_, rfl, Kd.R_nil _ _ _ _ _, HB.out⟩
end Go.Proofs.YtpfjkpknljigmaaDoor.Q
