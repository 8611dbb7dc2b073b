/- token.run at each function value that it is handed. -/
import Derived.Test.YtpfjkpknljigmaaDoorQx4
import Derived.Test.YtpfjkpknljigmaaDoorQx5
import Derived.Test.YtpfjkpknljigmaaDoorQx7
import Derived.Test.YtpfjkpknljigmaaDoorH0
namespace Go.Proofs.YtpfjkpknljigmaaDoor.Q
open Go.RowKit Go.Proofs.YtpfjkpknljigmaaDoorW.PrintWords Go.Proofs.YtpfjkpknljigmaaDoorW.PrintLast Go.Proofs.YtpfjkpknljigmaaDoorW.PrintMore
attribute [local go_sem] max2_int min2_int max_two min_two max_three min_three max_four min_four
set_option linter.unusedVariables false
set_option linter.unusedSimpArgs false

/-- What a function value tells of a byte. -/
def isF (n : Nat) (x : Int) : Option Bool := if n = 46 then token_tail.f x else if n = 79 then token_octal.f x else if n = 62 then token_number_1.f x else if n = 78 then token_escaped_1.f x else none
def token_run.l0 (n : Nat) : Nat → ByteArray → Int → Option Int
 | 0, _, _ => none
 | k + 1, s, i => if i < (s.size : Int) then (if 0 ≤ i then ((isF n (bt s i)).bind fun b => (if b = true then token_run.l0 n k s (wrap64 (i + 1)) else some i)) else none) else some i
def token_run.f (s : ByteArray) (n : Nat) : Option Int := if n = 46 ∨ n = 79 ∨ n = 62 ∨ n = 78 then token_run.l0 n (s.size + 1) s 0 else none

theorem isF46 (x : Int) : isF 46 x = token_tail.f x := by simp [isF]
set_option maxHeartbeats 1000000 in
set_option maxRecDepth 100000 in
theorem run46 (k : Nat) (s : ByteArray) (r : Int) (w : World) (h : token_run.l0 46 k s 0 = some r) :
  Calls Tryd.prog 45 #[.string s, .func (.func 46) #[] #[]] w fun e w' => e = .returned (.int .i64 r) ∧ Drawn0 w w' := by
 have H' := Aside0.mk h
 clear h
 go_enter Tryd.func45, Tryd.ntmps45
 go_wp2
 go_loopg [5] k (fun kq v5 w' => ∃ (i : Int), v5 = .int .i64 i ∧ Aside0 (token_run.l0 46 kq s i = some r) ∧ Aside0 (kq ≤ k) ∧ Drawn0 w w')
 case atStart => exact ⟨0, rfl, H', ⟨Nat.le_refl _⟩, Drawn0.refl _⟩
 case round =>
  clear H'
  obtain ⟨i, rfl, HA, HK1, ⟨m1, rfl⟩⟩ := hrel
  cases gk with
  | zero => exact absurd HA.out (by simp [token_run.l0])
  | succ k1 =>
   have H := HA.out
   clear HA
   simp only [token_run.l0, isF46] at H
   by_cases c4 : i < (s.size : Int)
   ·
    rw [if_pos c4] at H
    have c4b0 : decide (i < (s.size : Int)) = true := decide_eq_true c4
    by_cases c5 : 0 ≤ i
    ·
     rw [if_pos c5] at H
     have c5b0 : decide (0 ≤ i) = true := decide_eq_true c5
     obtain ⟨b, A20, H⟩ := Option.bind_eq_some_iff.mp H
     have A2 := Aside0.mk A20
     clear A20
     have hx7 := bt_at s i
     have p7 := eq_true c5
     have q7 := eq_true c4
     clear c4 c5
     cases b with
     | true =>
      rw [if_pos rfl] at H
      have H' := Aside0.mk H
      clear H
      go_wp2_with (first | (go_at_call 46; (with_reducible refine (token_tail.calls (bt s i) true _ A2.out).mono ?_); rintro e w' ⟨rfl, ⟨nd, rfl⟩⟩))
      go_roundg k1
      case measure => have := HK1.out; omega
      case rel => exact ⟨(wrap64 (i + 1)), (by first | rfl | (simp; done) | (simp [*]; done)), H', ⟨by have := HK1.out; omega⟩, by repeat (first | exact Drawn0.refl _ | apply Drawn0.step)⟩
     | false =>
      rw [if_neg (by decide)] at H
      obtain rfl := Option.some.inj H
      go_wp2_with (first | (go_at_call 46; (with_reducible refine (token_tail.calls (bt s i) false _ A2.out).mono ?_); rintro e w' ⟨rfl, ⟨nd, rfl⟩⟩))
      go_ret
      exact ⟨by first | rfl | (simp; done) | (simp [*]; done), by repeat (first | exact Drawn0.refl _ | apply Drawn0.step)⟩
    ·
     rw [if_neg c5] at H
     exact absurd H (by simp)
   ·
    rw [if_neg c4] at H
    have c4b0 : decide (i < (s.size : Int)) = false := decide_eq_false c4
    clear c4
    obtain rfl := Option.some.inj H
    go_wp2
    go_ret
    exact ⟨by first | rfl | (simp; done) | (simp [*]; done), by repeat (first | exact Drawn0.refl _ | apply Drawn0.step)⟩

theorem isF79 (x : Int) : isF 79 x = token_octal.f x := by simp [isF]
set_option maxHeartbeats 1000000 in
set_option maxRecDepth 100000 in
theorem run79 (k : Nat) (s : ByteArray) (r : Int) (w : World) (h : token_run.l0 79 k s 0 = some r) :
  Calls Tryd.prog 45 #[.string s, .func (.func 79) #[] #[]] w fun e w' => e = .returned (.int .i64 r) ∧ Drawn0 w w' := by
 have H' := Aside0.mk h
 clear h
 go_enter Tryd.func45, Tryd.ntmps45
 go_wp2
 go_loopg [5] k (fun kq v5 w' => ∃ (i : Int), v5 = .int .i64 i ∧ Aside0 (token_run.l0 79 kq s i = some r) ∧ Aside0 (kq ≤ k) ∧ Drawn0 w w')
 case atStart => exact ⟨0, rfl, H', ⟨Nat.le_refl _⟩, Drawn0.refl _⟩
 case round =>
  clear H'
  obtain ⟨i, rfl, HA, HK1, ⟨m1, rfl⟩⟩ := hrel
  cases gk with
  | zero => exact absurd HA.out (by simp [token_run.l0])
  | succ k1 =>
   have H := HA.out
   clear HA
   simp only [token_run.l0, isF79] at H
   by_cases c4 : i < (s.size : Int)
   ·
    rw [if_pos c4] at H
    have c4b0 : decide (i < (s.size : Int)) = true := decide_eq_true c4
    by_cases c5 : 0 ≤ i
    ·
     rw [if_pos c5] at H
     have c5b0 : decide (0 ≤ i) = true := decide_eq_true c5
     obtain ⟨b, A20, H⟩ := Option.bind_eq_some_iff.mp H
     have A2 := Aside0.mk A20
     clear A20
     have hx7 := bt_at s i
     have p7 := eq_true c5
     have q7 := eq_true c4
     clear c4 c5
     cases b with
     | true =>
      rw [if_pos rfl] at H
      have H' := Aside0.mk H
      clear H
      go_wp2_with (first | (go_at_call 79; (with_reducible refine (token_octal.calls (bt s i) true _ A2.out).mono ?_); rintro e w' ⟨rfl, ⟨nd, rfl⟩⟩))
      go_roundg k1
      case measure => have := HK1.out; omega
      case rel => exact ⟨(wrap64 (i + 1)), (by first | rfl | (simp; done) | (simp [*]; done)), H', ⟨by have := HK1.out; omega⟩, by repeat (first | exact Drawn0.refl _ | apply Drawn0.step)⟩
     | false =>
      rw [if_neg (by decide)] at H
      obtain rfl := Option.some.inj H
      go_wp2_with (first | (go_at_call 79; (with_reducible refine (token_octal.calls (bt s i) false _ A2.out).mono ?_); rintro e w' ⟨rfl, ⟨nd, rfl⟩⟩))
      go_ret
      exact ⟨by first | rfl | (simp; done) | (simp [*]; done), by repeat (first | exact Drawn0.refl _ | apply Drawn0.step)⟩
    ·
     rw [if_neg c5] at H
     exact absurd H (by simp)
   ·
    rw [if_neg c4] at H
    have c4b0 : decide (i < (s.size : Int)) = false := decide_eq_false c4
    clear c4
    obtain rfl := Option.some.inj H
    go_wp2
    go_ret
    exact ⟨by first | rfl | (simp; done) | (simp [*]; done), by repeat (first | exact Drawn0.refl _ | apply Drawn0.step)⟩

theorem isF62 (x : Int) : isF 62 x = token_number_1.f x := by simp [isF]
set_option maxHeartbeats 1000000 in
set_option maxRecDepth 100000 in
theorem run62 (k : Nat) (s : ByteArray) (r : Int) (w : World) (h : token_run.l0 62 k s 0 = some r) :
  Calls Tryd.prog 45 #[.string s, .func (.func 62) #[] #[]] w fun e w' => e = .returned (.int .i64 r) ∧ Drawn0 w w' := by
 have H' := Aside0.mk h
 clear h
 go_enter Tryd.func45, Tryd.ntmps45
 go_wp2
 go_loopg [5] k (fun kq v5 w' => ∃ (i : Int), v5 = .int .i64 i ∧ Aside0 (token_run.l0 62 kq s i = some r) ∧ Aside0 (kq ≤ k) ∧ Drawn0 w w')
 case atStart => exact ⟨0, rfl, H', ⟨Nat.le_refl _⟩, Drawn0.refl _⟩
 case round =>
  clear H'
  obtain ⟨i, rfl, HA, HK1, ⟨m1, rfl⟩⟩ := hrel
  cases gk with
  | zero => exact absurd HA.out (by simp [token_run.l0])
  | succ k1 =>
   have H := HA.out
   clear HA
   simp only [token_run.l0, isF62] at H
   by_cases c4 : i < (s.size : Int)
   ·
    rw [if_pos c4] at H
    have c4b0 : decide (i < (s.size : Int)) = true := decide_eq_true c4
    by_cases c5 : 0 ≤ i
    ·
     rw [if_pos c5] at H
     have c5b0 : decide (0 ≤ i) = true := decide_eq_true c5
     obtain ⟨b, A20, H⟩ := Option.bind_eq_some_iff.mp H
     have A2 := Aside0.mk A20
     clear A20
     have hx7 := bt_at s i
     have p7 := eq_true c5
     have q7 := eq_true c4
     clear c4 c5
     cases b with
     | true =>
      rw [if_pos rfl] at H
      have H' := Aside0.mk H
      clear H
      go_wp2_with (first | (go_at_call 62; (with_reducible refine (token_number_1.calls (bt s i) true _ A2.out).mono ?_); rintro e w' ⟨rfl, ⟨nd, rfl⟩⟩))
      go_roundg k1
      case measure => have := HK1.out; omega
      case rel => exact ⟨(wrap64 (i + 1)), (by first | rfl | (simp; done) | (simp [*]; done)), H', ⟨by have := HK1.out; omega⟩, by repeat (first | exact Drawn0.refl _ | apply Drawn0.step)⟩
     | false =>
      rw [if_neg (by decide)] at H
      obtain rfl := Option.some.inj H
      go_wp2_with (first | (go_at_call 62; (with_reducible refine (token_number_1.calls (bt s i) false _ A2.out).mono ?_); rintro e w' ⟨rfl, ⟨nd, rfl⟩⟩))
      go_ret
      exact ⟨by first | rfl | (simp; done) | (simp [*]; done), by repeat (first | exact Drawn0.refl _ | apply Drawn0.step)⟩
    ·
     rw [if_neg c5] at H
     exact absurd H (by simp)
   ·
    rw [if_neg c4] at H
    have c4b0 : decide (i < (s.size : Int)) = false := decide_eq_false c4
    clear c4
    obtain rfl := Option.some.inj H
    go_wp2
    go_ret
    exact ⟨by first | rfl | (simp; done) | (simp [*]; done), by repeat (first | exact Drawn0.refl _ | apply Drawn0.step)⟩

theorem isF78 (x : Int) : isF 78 x = token_escaped_1.f x := by simp [isF]
set_option maxHeartbeats 1000000 in
set_option maxRecDepth 100000 in
theorem run78 (k : Nat) (s : ByteArray) (r : Int) (w : World) (h : token_run.l0 78 k s 0 = some r) :
  Calls Tryd.prog 45 #[.string s, .func (.func 78) #[] #[]] w fun e w' => e = .returned (.int .i64 r) ∧ Drawn0 w w' := by
 have H' := Aside0.mk h
 clear h
 go_enter Tryd.func45, Tryd.ntmps45
 go_wp2
 go_loopg [5] k (fun kq v5 w' => ∃ (i : Int), v5 = .int .i64 i ∧ Aside0 (token_run.l0 78 kq s i = some r) ∧ Aside0 (kq ≤ k) ∧ Drawn0 w w')
 case atStart => exact ⟨0, rfl, H', ⟨Nat.le_refl _⟩, Drawn0.refl _⟩
 case round =>
  clear H'
  obtain ⟨i, rfl, HA, HK1, ⟨m1, rfl⟩⟩ := hrel
  cases gk with
  | zero => exact absurd HA.out (by simp [token_run.l0])
  | succ k1 =>
   have H := HA.out
   clear HA
   simp only [token_run.l0, isF78] at H
   by_cases c4 : i < (s.size : Int)
   ·
    rw [if_pos c4] at H
    have c4b0 : decide (i < (s.size : Int)) = true := decide_eq_true c4
    by_cases c5 : 0 ≤ i
    ·
     rw [if_pos c5] at H
     have c5b0 : decide (0 ≤ i) = true := decide_eq_true c5
     obtain ⟨b, A20, H⟩ := Option.bind_eq_some_iff.mp H
     have A2 := Aside0.mk A20
     clear A20
     have hx7 := bt_at s i
     have p7 := eq_true c5
     have q7 := eq_true c4
     clear c4 c5
     cases b with
     | true =>
      rw [if_pos rfl] at H
      have H' := Aside0.mk H
      clear H
      go_wp2_with (first | (go_at_call 78; (with_reducible refine (token_escaped_1.calls (bt s i) true _ A2.out).mono ?_); rintro e w' ⟨rfl, ⟨nd, rfl⟩⟩))
      go_roundg k1
      case measure => have := HK1.out; omega
      case rel => exact ⟨(wrap64 (i + 1)), (by first | rfl | (simp; done) | (simp [*]; done)), H', ⟨by have := HK1.out; omega⟩, by repeat (first | exact Drawn0.refl _ | apply Drawn0.step)⟩
     | false =>
      rw [if_neg (by decide)] at H
      obtain rfl := Option.some.inj H
      go_wp2_with (first | (go_at_call 78; (with_reducible refine (token_escaped_1.calls (bt s i) false _ A2.out).mono ?_); rintro e w' ⟨rfl, ⟨nd, rfl⟩⟩))
      go_ret
      exact ⟨by first | rfl | (simp; done) | (simp [*]; done), by repeat (first | exact Drawn0.refl _ | apply Drawn0.step)⟩
    ·
     rw [if_neg c5] at H
     exact absurd H (by simp)
   ·
    rw [if_neg c4] at H
    have c4b0 : decide (i < (s.size : Int)) = false := decide_eq_false c4
    clear c4
    obtain rfl := Option.some.inj H
    go_wp2
    go_ret
    exact ⟨by first | rfl | (simp; done) | (simp [*]; done), by repeat (first | exact Drawn0.refl _ | apply Drawn0.step)⟩

theorem isF_none (n : Nat) (x : Int) (h1 : n ≠ 46) (h2 : n ≠ 79) (h3 : n ≠ 62) (h4 : n ≠ 78) : isF n x = none := by simp [isF, h1, h2, h3, h4]
theorem run_none (s : ByteArray) (n : Nat) (r : Int) (h1 : n ≠ 46) (h2 : n ≠ 79) (h3 : n ≠ 62) (h4 : n ≠ 78) : ¬ token_run.f s n = some r := by
 simp [token_run.f, h1, h2, h3, h4]
theorem token_run.calls (s : ByteArray) (n : Nat) (r : Int) (w : World) (h : token_run.f s n = some r) :
  Calls Tryd.prog 45 #[.string s, .func (.func n) #[] #[]] w fun e w' => e = .returned (.int .i64 r) ∧ Drawn0 w w' := by
 by_cases h1 : n = 46
 ·
  subst h1; exact run46 _ s r w (by simpa [token_run.f] using h)
 ·
  by_cases h2 : n = 79
  ·
   subst h2; exact run79 _ s r w (by simpa [token_run.f] using h)
  ·
   by_cases h3 : n = 62
   ·
    subst h3; exact run62 _ s r w (by simpa [token_run.f] using h)
   ·
    by_cases h4 : n = 78
    ·
     subst h4; exact run78 _ s r w (by simpa [token_run.f] using h)
    ·
     exact absurd h (run_none s n r h1 h2 h3 h4)
end Go.Proofs.YtpfjkpknljigmaaDoor.Q
