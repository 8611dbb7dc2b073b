/- Letters, digits, keywords and runs of the program, as plain functions, for every string of at most 2^47 bytes. -/
import Derived.Test.YtpfjkpknljigmaaDoorH1
import Derived.Test.YtpfjkpknljigmaaDoorQx4
import Derived.IntWalk
import Derived.Lib.Strings
namespace Go.Proofs.YtpfjkpknljigmaaDoor.Q
open Go.RowKit Go.Proofs.YtpfjkpknljigmaaDoorW.PrintWords Go.Proofs.YtpfjkpknljigmaaDoorW.PrintLast

theorem w64 (n : Int) (h : -9223372036854775808 ≤ n ∧ n ≤ 9223372036854775807) : wrap64 n = n := by unfold wrap64; omega
def letB (b : Int) : Bool := (token_letter.f b).getD false
def digB (b : Int) : Bool := (token_digit.f b).getD false
def tailB (b : Int) : Bool := letB b || digB b
theorem allBytes {p : Int → Bool} (h : ((List.range 256).all fun n => p (n : Int)) = true) (x : Int) (h0 : 0 ≤ x) (h1 : x ≤ 255) : p x = true := by
 have := List.all_eq_true.1 h x.toNat (List.mem_range.2 (by omega))
 rwa [Int.toNat_of_nonneg h0] at this
theorem letter_one (s : ByteArray) (i : Int) : token_letter.f (bt s i) = some (letB (bt s i)) := by
 have hr := bt_range s i
 have := allBytes (p := fun x => decide (token_letter.f x = some (letB x))) (by kernel_rfl) _ hr.1 hr.2
 exact of_decide_eq_true this
theorem digit_one (s : ByteArray) (i : Int) : token_digit.f (bt s i) = some (digB (bt s i)) := by
 have hr := bt_range s i
 have := allBytes (p := fun x => decide (token_digit.f x = some (digB x))) (by kernel_rfl) _ hr.1 hr.2
 exact of_decide_eq_true this
theorem tail_eq (s : ByteArray) (i : Int) : token_tail.f (bt s i) = some (tailB (bt s i)) := by
 unfold token_tail.f tailB
 rw [letter_one s i]
 simp only [Option.bind_some]
 cases letB (bt s i)
 ·
  rw [if_neg (by simp), digit_one s i]; simp
 ·
  simp

/-- The keywords. -/
def KW : List (List UInt8) := [[95, 66, 111, 111, 108], [98, 114, 101, 97, 107], [99, 104, 97, 114], [99, 111, 110, 116, 105, 110, 117, 101], [100, 111], [101, 108, 115, 101], [101, 110, 117, 109], [102, 111, 114], [105, 102], [105, 110, 116], [108, 111, 110, 103], [111, 102, 102, 115, 101, 116, 111, 102], [114, 101, 116, 117, 114, 110], [115, 104, 111, 114, 116], [115, 105, 103, 110, 101, 100], [115, 105, 122, 101, 111, 102], [115, 116, 97, 116, 105, 99], [115, 116, 114, 117, 99, 116], [116, 121, 112, 101, 100, 101, 102], [117, 110, 105, 111, 110], [117, 110, 115, 105, 103, 110, 101, 100], [118, 111, 105, 100], [119, 104, 105, 108, 101]]
def kw (s : ByteArray) : Bool := decide (s.toList ∈ KW)
theorem KW_eq : KW = [[95, 66, 111, 111, 108], [98, 114, 101, 97, 107], [99, 104, 97, 114], [99, 111, 110, 116, 105, 110, 117, 101], [100, 111], [101, 108, 115, 101], [101, 110, 117, 109], [102, 111, 114], [105, 102], [105, 110, 116], [108, 111, 110, 103], [111, 102, 102, 115, 101, 116, 111, 102], [114, 101, 116, 117, 114, 110], [115, 104, 111, 114, 116], [115, 105, 103, 110, 101, 100], [115, 105, 122, 101, 111, 102], [115, 116, 97, 116, 105, 99], [115, 116, 114, 117, 99, 116], [116, 121, 112, 101, 100, 101, 102], [117, 110, 105, 111, 110], [117, 110, 115, 105, 103, 110, 101, 100], [118, 111, 105, 100], [119, 104, 105, 108, 101]] := rfl
theorem keyword_eq (s : ByteArray) : token_keyword.f s = some (kw s) := by
 unfold token_keyword.f kw
 rw [KW_eq]
 generalize s.toList = l
 by_cases h : l ∈ ([[95, 66, 111, 111, 108], [98, 114, 101, 97, 107], [99, 104, 97, 114], [99, 111, 110, 116, 105, 110, 117, 101], [100, 111], [101, 108, 115, 101], [101, 110, 117, 109], [102, 111, 114], [105, 102], [105, 110, 116], [108, 111, 110, 103], [111, 102, 102, 115, 101, 116, 111, 102], [114, 101, 116, 117, 114, 110], [115, 104, 111, 114, 116], [115, 105, 103, 110, 101, 100], [115, 105, 122, 101, 111, 102], [115, 116, 97, 116, 105, 99], [115, 116, 114, 117, 99, 116], [116, 121, 112, 101, 100, 101, 102], [117, 110, 105, 111, 110], [117, 110, 115, 105, 103, 110, 101, 100], [118, 111, 105, 100], [119, 104, 105, 108, 101]] : List (List UInt8))
 ·
  rw [decide_eq_true h]
  simp only [List.mem_cons, List.not_mem_nil, or_false] at h
  rcases h with rfl | rfl | rfl | rfl | rfl | rfl | rfl | rfl | rfl | rfl | rfl | rfl | rfl | rfl | rfl | rfl | rfl | rfl | rfl | rfl | rfl | rfl | rfl
  all_goals rfl
 ·
  rw [decide_eq_false h]
  simp only [List.mem_cons, List.not_mem_nil, or_false, not_or] at h
  obtain ⟨h0, h1, h2, h3, h4, h5, h6, h7, h8, h9, h10, h11, h12, h13, h14, h15, h16, h17, h18, h19, h20, h21, h22⟩ := h
  simp only [h0, h1, h2, h3, h4, h5, h6, h7, h8, h9, h10, h11, h12, h13, h14, h15, h16, h17, h18, h19, h20, h21, h22, if_false]
/-- The run of letters and digits. -/
theorem run_eq (s : ByteArray) (hs : s.size ≤ 140737488355328) : ∀ m i : Nat, s.size = i + m → ∀ k, m < k →
  ∃ n : Nat, token_run.l0 46 k s i = some (n : Int) ∧ i ≤ n ∧ n ≤ s.size ∧ (∀ j : Nat, i ≤ j → j < n → tailB (bt s j) = true) ∧ (n < s.size → tailB (bt s n) = false)
 | 0, i, hi, k + 1, _ => by
  refine ⟨i, ?_, Nat.le_refl _, by omega, fun j h1 h2 => absurd h1 (by omega), fun h => absurd h (by omega)⟩
  simp only [token_run.l0]
  rw [if_neg (by omega)]
 | m + 1, i, hi, k + 1, hk => by
  simp only [token_run.l0]
  rw [if_pos (by omega), if_pos (by omega)]
  have e : isF 46 (bt s i) = some (tailB (bt s i)) := by
   simp only [isF, if_true]
   exact tail_eq s i
  rw [e, w64 _ (by omega)]
  simp only [Option.bind_some]
  cases c : tailB (bt s (i : Int))
  ·
   exact ⟨i, by simp, Nat.le_refl _, by omega, fun j h1 h2 => absurd h1 (by omega), fun _ => c⟩
  ·
   obtain ⟨n, h1, h2, h3, h4, h5⟩ := run_eq s hs m (i + 1) (by omega) k (by omega)
   simp only [Int.natCast_add, Int.natCast_one] at h1
   refine ⟨n, by simpa using h1, by omega, h3, fun j g1 g2 => ?_, h5⟩
   by_cases hj : j = i
   ·
    subst hj; exact c
   ·
    exact h4 j (by omega) g2
theorem run_tail (s : ByteArray) (hs : s.size ≤ 140737488355328) :
  ∃ n : Nat, token_run.f s 46 = some (n : Int) ∧ n ≤ s.size ∧ (∀ j : Nat, j < n → tailB (bt s j) = true) ∧ (n < s.size → tailB (bt s n) = false) := by
 obtain ⟨n, h1, _, h3, h4, h5⟩ := run_eq s hs s.size 0 (by omega) (s.size + 1) (by omega)
 refine ⟨n, ?_, h3, fun j hj => h4 j (Nat.zero_le _) hj, h5⟩
 unfold token_run.f
 rw [if_pos (by simp)]
 exact h1
end Go.Proofs.YtpfjkpknljigmaaDoor.Q
