/- Places of a text (lines, columns), for every string; the heads' function answers true. -/
import Derived.Test.YtpfjkpknljigmaaDoorPT
import Derived.Test.YtpfjkpknljigmaaDoorH0
import Derived.Test.YtpfjkpknljigmaaDoorQx16
namespace Go.Proofs.YtpfjkpknljigmaaDoor.Q
open Go.RowKit Go.Proofs.YtpfjkpknljigmaaDoorW.PrintWords Go.Proofs.YtpfjkpknljigmaaDoorW.PrintLast Go.Proofs.YtpfjkpknljigmaaDoorW.PrintMore

/-! places -/
def lst (s : ByteArray) (i : Nat) : Int := Lib.lastIdx s 10 i
def cnt (s : ByteArray) (i : Nat) : Int := ((s.data.toList.take i).count 10 : Nat)
theorem bt_nat (s : ByteArray) (i : Nat) (h : i < s.size) : bt s i = (s[i].toNat : Int) := by
 rw [← bt_at s i (by simpa using h)]; rfl
theorem getBang (s : ByteArray) (i : Nat) (h : i < s.size) : s.data[i]! = s[i] := by
 rw [getElem!_pos s.data i h]; rfl
theorem lst_le (s : ByteArray) : ∀ i : Nat, -1 ≤ lst s i ∧ lst s i ≤ (i : Int) - 1
 | 0 => by simp [lst, Lib.lastIdx]
 | i + 1 => by
  have := lst_le s i
  unfold lst at this ⊢
  unfold Lib.lastIdx
  split <;> omega
theorem cnt_le (s : ByteArray) (i : Nat) : 0 ≤ cnt s i ∧ cnt s i ≤ i := by
 unfold cnt
 have h1 : (s.data.toList.take i).count 10 ≤ (s.data.toList.take i).length := List.count_le_length
 rw [List.length_take] at h1
 omega
theorem lst_succ (s : ByteArray) (i : Nat) (h : i < s.size) : lst s (i + 1) = if bt s i = 10 then (i : Int) else lst s i := by
 unfold lst
 rw [Lib.lastIdx, getBang s i h, bt_nat s i h]
theorem cnt_succ (s : ByteArray) (i : Nat) (h : i < s.size) : cnt s (i + 1) = if bt s i = 10 then cnt s i + 1 else cnt s i := by
 have hl : i < s.data.toList.length := by rw [Array.length_toList]; exact h
 unfold cnt
 rw [List.take_succ_eq_append_getElem hl, List.count_append, bt_nat s i h]
 have e : s.data.toList[i] = s[i] := by simp; rfl
 rw [e]
 by_cases c : s[i] = 10
 ·
  rw [c]; simp
 ·
  have c' : ¬ ((s[i].toNat : Int) = 10) := fun h => c (UInt8.toNat_inj.1 (by simpa using (Int.ofNat_inj.1 h)))
  have z : List.count 10 [s[i]] = 0 := List.count_eq_zero_of_not_mem (by simpa using fun h => c h.symm)
  rw [if_neg c', z]
  simp
theorem lastIdx_extract (s : ByteArray) (n : Nat) (hn : n ≤ s.size) : ∀ k : Nat, k ≤ n → Lib.lastIdx (s.extract 0 n) 10 k = Lib.lastIdx s 10 k
 | 0, _ => rfl
 | k + 1, hk => by
  have hsz : (s.extract 0 n).size = n := by rw [ByteArray.size_extract]; omega
  rw [Lib.lastIdx, Lib.lastIdx, lastIdx_extract s n hn k (by omega), getBang _ k (by omega), getBang s k (by omega)]
  rw [show (s.extract 0 n)[k]'(by omega) = s[k]'(by omega) by simp [ByteArray.getElem_extract]]
theorem heads_true : mortiselaw02_heads.f 200 = some true := by kernel_rfl
theorem leO_mono {α : Type} {F : Nat → Option α} (h : ∀ k, LeO (F k) (F (k + 1))) {r : α} : ∀ (n k : Nat), F k = some r → F (k + n) = some r
 | 0, _, e => e
 | n + 1, k, e => h _ _ (leO_mono h n k e)
theorem heads_from (k : Nat) (hk : 200 ≤ k) : mortiselaw02_heads.f k = some true := by
 have := leO_mono (F := mortiselaw02_heads.f) (fun k => mortiselaw02_heads.mono k) (k - 200) 200 heads_true
 rwa [show 200 + (k - 200) = k by omega] at this
end Go.Proofs.YtpfjkpknljigmaaDoor.Q
