/- token.sign. -/
import Derived.Test.YtpfjkpknljigmaaDoorQx6
import Derived.Test.YtpfjkpknljigmaaDoorH0
import Derived.Laws.CopyOwn
namespace Go.Proofs.YtpfjkpknljigmaaDoor.Q
open Go.RowKit Go.Proofs.YtpfjkpknljigmaaDoorW.PrintWords Go.Proofs.YtpfjkpknljigmaaDoorW.PrintLast Go.Proofs.YtpfjkpknljigmaaDoorW.PrintMore
set_option linter.unusedVariables false
set_option linter.unusedSimpArgs false

/-- The signs of more than one byte, in their order. -/
def signsL : List ByteArray := [(⟨#[60, 60, 61]⟩ : ByteArray), (⟨#[62, 62, 61]⟩ : ByteArray), (⟨#[45, 62]⟩ : ByteArray), (⟨#[43, 43]⟩ : ByteArray), (⟨#[45, 45]⟩ : ByteArray), (⟨#[60, 60]⟩ : ByteArray), (⟨#[62, 62]⟩ : ByteArray), (⟨#[60, 61]⟩ : ByteArray), (⟨#[62, 61]⟩ : ByteArray), (⟨#[61, 61]⟩ : ByteArray), (⟨#[33, 61]⟩ : ByteArray), (⟨#[38, 38]⟩ : ByteArray), (⟨#[124, 124]⟩ : ByteArray), (⟨#[42, 61]⟩ : ByteArray), (⟨#[47, 61]⟩ : ByteArray), (⟨#[37, 61]⟩ : ByteArray), (⟨#[43, 61]⟩ : ByteArray), (⟨#[45, 61]⟩ : ByteArray), (⟨#[38, 61]⟩ : ByteArray), (⟨#[94, 61]⟩ : ByteArray), (⟨#[124, 61]⟩ : ByteArray)]
/-- .. as the array in memory. -/
def signsA : Array Value := #[.string (⟨#[60, 60, 61]⟩ : ByteArray), .string (⟨#[62, 62, 61]⟩ : ByteArray), .string (⟨#[45, 62]⟩ : ByteArray), .string (⟨#[43, 43]⟩ : ByteArray), .string (⟨#[45, 45]⟩ : ByteArray), .string (⟨#[60, 60]⟩ : ByteArray), .string (⟨#[62, 62]⟩ : ByteArray), .string (⟨#[60, 61]⟩ : ByteArray), .string (⟨#[62, 61]⟩ : ByteArray), .string (⟨#[61, 61]⟩ : ByteArray), .string (⟨#[33, 61]⟩ : ByteArray), .string (⟨#[38, 38]⟩ : ByteArray), .string (⟨#[124, 124]⟩ : ByteArray), .string (⟨#[42, 61]⟩ : ByteArray), .string (⟨#[47, 61]⟩ : ByteArray), .string (⟨#[37, 61]⟩ : ByteArray), .string (⟨#[43, 61]⟩ : ByteArray), .string (⟨#[45, 61]⟩ : ByteArray), .string (⟨#[38, 61]⟩ : ByteArray), .string (⟨#[94, 61]⟩ : ByteArray), .string (⟨#[124, 61]⟩ : ByteArray)]
def signsV : Value := .agg signsA
def signsZ : Array Value := #[.string (⟨#[]⟩ : ByteArray), .string (⟨#[]⟩ : ByteArray), .string (⟨#[]⟩ : ByteArray), .string (⟨#[]⟩ : ByteArray), .string (⟨#[]⟩ : ByteArray), .string (⟨#[]⟩ : ByteArray), .string (⟨#[]⟩ : ByteArray), .string (⟨#[]⟩ : ByteArray), .string (⟨#[]⟩ : ByteArray), .string (⟨#[]⟩ : ByteArray), .string (⟨#[]⟩ : ByteArray), .string (⟨#[]⟩ : ByteArray), .string (⟨#[]⟩ : ByteArray), .string (⟨#[]⟩ : ByteArray), .string (⟨#[]⟩ : ByteArray), .string (⟨#[]⟩ : ByteArray), .string (⟨#[]⟩ : ByteArray), .string (⟨#[]⟩ : ByteArray), .string (⟨#[]⟩ : ByteArray), .string (⟨#[]⟩ : ByteArray), .string (⟨#[]⟩ : ByteArray)]
def token_sign.tl (s : ByteArray) : Option ByteArray := if 0 < (s.size : Int) then ((strings_IndexByte.f (⟨#[91, 93, 40, 41, 123, 125, 46, 38, 42, 43, 45, 126, 33, 47, 37, 60, 62, 94, 124, 63, 58, 59, 61, 44]⟩ : ByteArray) (bt s 0)).bind fun n => (if n ≥ 0 then (if 1 ≤ (s.size : Int) then some (s.extract 0 1) else none) else some (⟨#[]⟩ : ByteArray))) else none
def token_sign.l0 : Nat → ByteArray → Nat → Option ByteArray
 | 0, _, _ => none
 | k + 1, s, i => if i < 21 then ((strings_HasPrefix.f s (signsL.getD i ⟨#[]⟩)).bind fun b => (if b = true then some (signsL.getD i ⟨#[]⟩) else token_sign.l0 k s (i + 1))) else token_sign.tl s
def token_sign.f (s : ByteArray) : Option ByteArray := token_sign.l0 22 s 0
theorem sign_index : ∀ i : Nat, i < 21 → ∀ w : World, (Instr.index 94 signsV (.int .i64 (i : Int))).run Tryd.prog w = .ok (.string (signsL.getD i ⟨#[]⟩)) w
 | 0, _ => fun w => by kernel_rfl
 | 1, _ => fun w => by kernel_rfl
 | 2, _ => fun w => by kernel_rfl
 | 3, _ => fun w => by kernel_rfl
 | 4, _ => fun w => by kernel_rfl
 | 5, _ => fun w => by kernel_rfl
 | 6, _ => fun w => by kernel_rfl
 | 7, _ => fun w => by kernel_rfl
 | 8, _ => fun w => by kernel_rfl
 | 9, _ => fun w => by kernel_rfl
 | 10, _ => fun w => by kernel_rfl
 | 11, _ => fun w => by kernel_rfl
 | 12, _ => fun w => by kernel_rfl
 | 13, _ => fun w => by kernel_rfl
 | 14, _ => fun w => by kernel_rfl
 | 15, _ => fun w => by kernel_rfl
 | 16, _ => fun w => by kernel_rfl
 | 17, _ => fun w => by kernel_rfl
 | 18, _ => fun w => by kernel_rfl
 | 19, _ => fun w => by kernel_rfl
 | 20, _ => fun w => by kernel_rfl
 | n + 21, h => absurd h (by omega)
set_option maxHeartbeats 2000000 in
set_option maxRecDepth 100000 in
theorem token_sign.calls (s : ByteArray) (r : ByteArray) (w : World) (h : token_sign.f s = some r) :
  Calls Tryd.prog 51 #[.string s] w fun e w' => e = .returned (.string r) ∧ Below w.heap.size w w' := by
 have H' := Aside0.mk (show token_sign.l0 22 s 0 = some r from h)
 clear h
 go_enter Tryd.func51, Tryd.ntmps51
 have HB := Aside0.mk (Below.refl w.heap.size w)
 go_upto_region 1 with (fail)
 go_cut [3] (fun v3 wc => ∃ gb : Nat, v3 = .pointer (some ⟨gb, 0, none⟩) ∧ Aside0 (wc.heap[gb]? = some (.cells signsA 94 (0, 0))) ∧ Aside0 (Below w.heap.size w wc))
 case first =>
  go_wp2_with (first
   | ((with_reducible refine gate_dst (N := 3) rfl ?_); refine box_event ?hg (N := 3) ?hd (cs := signsZ) (t := 94) ?hr ?_; (case hd => rfl); (case hg => rfl); (case hr => go_simp; rfl); intro gb hg w1 hbox hb; have n0_ := Aside0.mk (below_step HB.out hb); have n1_ := Aside0.mk hbox; have n2_ := Aside0.mk (show w.heap.size ≤ gb by rw [hg]; exact below_size HB.out); clear HB; have HB := n0_; have BK := n1_; have GE := n2_; clear n0_ n1_ n2_ hb hbox hg)
   | (refine wpList_store_row ?q1 94 (.tmp 3) (.tmp 6) ?q2 gb signsA ?q3 ?q4 94 signsZ BK.out ?q5 ?q6 ?q7 ?_; (case q1 => rfl); (case q2 => rfl); (case q3 => rfl); (case q4 => rfl); (case q5 => kernel_rfl); (case q6 => kernel_rfl); (case q7 => kernel_rfl); obtain ⟨w2, hw2⟩ : ∃ w2, w2 = w1.setRow gb signsA := ⟨_, rfl⟩; rw [← hw2]; have n0_ := Aside0.mk (show Below w.heap.size w w2 by rw [hw2]; exact below_setRow HB.out GE.out _); have n1_ := Aside0.mk (show w2.heap[gb]? = some (.cells signsA 94 (0, 0)) by rw [hw2]; exact setRow_heap w1 gb _ _ _ _ BK.out); clear HB BK hw2; have HB := n0_; have BK := n1_; clear n0_ n1_))
  go_meet
  case rel => exact ⟨gb, rfl, BK, HB⟩
 case rest =>
 clear HB
 obtain ⟨gb, rfl, BK, HB⟩ := hcut
 go_upto_region 2 with (fail)
 go_cut [7, 8] (fun v7 v8 wc => v7 = signsV ∧ v8 = .int .i64 0 ∧ Aside0 (Below w.heap.size w wc))
 case first =>
  go_wp2_with (first | ((with_reducible refine gate_dst (N := 7) rfl ?_); refine wpList_load_row ?r1 94 (.tmp 3) ?r2 gb ?r3 94 signsA (0, 0) _ BK.out Tryd.underlying94 ?r4 ?r5 ?_; (case r1 => rfl); (case r2 => rfl); (case r3 => rfl); (case r4 => rfl); (case r5 => kernel_rfl); (show wpList _ _ _ _ (Act.put _ _ signsV) _)))
  go_meet
  case rel => exact ⟨rfl, rfl, HB⟩
 case rest =>
 obtain ⟨rfl, rfl, HB0⟩ := hcut
 go_wp2
 go_loopg [8] 22 (fun kq v8 w' => ∃ (i : Nat), v8 = .int .i64 (i : Int) ∧ Aside0 (token_sign.l0 kq s i = some r) ∧ Aside0 (kq ≤ 22) ∧ Aside0 (Below w.heap.size w w'))
 case atStart => exact ⟨0, by simp, H', ⟨Nat.le_refl _⟩, ⟨by repeat (first | exact HB0.out | apply below_alloc | apply pw_below_drewN | apply below_drew1)⟩⟩
 case round =>
  clear H'
  obtain ⟨i, rfl, HA, HK1, HB⟩ := hrel
  cases gk with
  | zero => exact absurd HA.out (by simp [token_sign.l0])
  | succ k1 =>
   have H := HA.out
   clear HA
   simp only [token_sign.l0] at H
   by_cases c4 : i < 21
   ·
    rw [if_pos c4] at H
    have c4b0 : decide ((i : Int) < 21) = true := decide_eq_true (by omega)
    have hidx := sign_index i c4
    have HI := Aside0.mk c4
    clear c4
    obtain ⟨b, A20, H⟩ := Option.bind_eq_some_iff.mp H
    have A2 := Aside0.mk A20
    clear A20
    obtain ⟨x, hx⟩ : ∃ x, x = signsL.getD i ⟨#[]⟩ := ⟨_, rfl⟩
    rw [← hx] at hidx A2 H
    have HX := Aside0.mk hx
    clear hx
    cases b with
    | true =>
     rw [if_pos rfl] at H
     obtain rfl := Option.some.inj H
     go_wp2_with (first | (go_at_call 43; (with_reducible refine (strings_HasPrefix.calls s x true _ A2.out).mono ?_); rintro e w' ⟨rfl, ⟨nd, rfl⟩⟩))
     go_ret
     exact ⟨by first | rfl | (simp; done) | (simp [*]; done), by repeat (first | exact HB.out | apply below_alloc | apply pw_below_drewN | apply below_drew1)⟩
    | false =>
     rw [if_neg (by decide)] at H
     have H' := Aside0.mk H
     clear H
     go_wp2_with (first | (go_at_call 43; (with_reducible refine (strings_HasPrefix.calls s x false _ A2.out).mono ?_); rintro e w' ⟨rfl, ⟨nd, rfl⟩⟩))
     go_roundg k1
     case measure => have := HK1.out; omega
     case rel => exact ⟨i + 1, (by have := HI.out; simp; unfold wrap64; omega), H', ⟨by have := HK1.out; omega⟩, ⟨by repeat (first | exact HB.out | apply below_alloc | apply pw_below_drewN | apply below_drew1)⟩⟩
   ·
    rw [if_neg c4] at H
    have c4b0 : decide ((i : Int) < 21) = false := decide_eq_false (by omega)
    clear c4
    unfold token_sign.tl at H
    by_cases c5 : 0 < (s.size : Int)
    ·
     rw [if_pos c5] at H
     have c5b0 : decide (0 < (s.size : Int)) = true := decide_eq_true c5
     have c5b1 : decide (0 < s.size) = true := decide_eq_true (by omega)
     have q7 := eq_true c5
     obtain ⟨n, A20, H⟩ := Option.bind_eq_some_iff.mp H
     have A2 := Aside0.mk A20
     clear A20
     have hx7 : ∀ h : 0 < s.size, ((s[0]'h).toNat : Int) = bt s 0 := bt_at s 0
     have q9 := eq_true (show 0 < s.size by omega)
     by_cases c6 : n ≥ 0
     ·
      rw [if_pos c6, if_pos (by omega)] at H
      have c6b0 : decide (0 ≤ n) = true := decide_eq_true c6
      have c7b0 : decide (1 ≤ (s.size : Int)) = true := decide_eq_true (by omega)
      have c7b1 : decide (1 ≤ s.size) = true := decide_eq_true (by omega)
      have q8 := eq_true (show (1 : Int) ≤ (s.size : Int) by omega)
      clear c6 c5
      obtain rfl := Option.some.inj H
      go_wp2_with (first | (go_at_call 44; (with_reducible refine (strings_IndexByte.calls (⟨#[91, 93, 40, 41, 123, 125, 46, 38, 42, 43, 45, 126, 33, 47, 37, 60, 62, 94, 124, 63, 58, 59, 61, 44]⟩ : ByteArray) (bt s 0) n _ A2.out).mono ?_); rintro e w' ⟨rfl, ⟨nd, rfl⟩⟩))
      go_ret
      exact ⟨by first | rfl | (simp; done) | (simp [*]; done), by repeat (first | exact HB.out | apply below_alloc | apply pw_below_drewN | apply below_drew1)⟩
     ·
      rw [if_neg c6] at H
      have c6b0 : decide (0 ≤ n) = false := decide_eq_false c6
      clear c6 c5
      obtain rfl := Option.some.inj H
      go_wp2_with (first | (go_at_call 44; (with_reducible refine (strings_IndexByte.calls (⟨#[91, 93, 40, 41, 123, 125, 46, 38, 42, 43, 45, 126, 33, 47, 37, 60, 62, 94, 124, 63, 58, 59, 61, 44]⟩ : ByteArray) (bt s 0) n _ A2.out).mono ?_); rintro e w' ⟨rfl, ⟨nd, rfl⟩⟩))
      go_ret
      exact ⟨by first | rfl | (simp; done) | (simp [*]; done), by repeat (first | exact HB.out | apply below_alloc | apply pw_below_drewN | apply below_drew1)⟩
    ·
     rw [if_neg c5] at H
     exact absurd H (by simp)
end Go.Proofs.YtpfjkpknljigmaaDoor.Q
