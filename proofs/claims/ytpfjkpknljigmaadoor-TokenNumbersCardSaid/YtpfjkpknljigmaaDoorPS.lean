/- The laws' own helpers plain and Same, as functions of lists. -/
import Derived.Test.YtpfjkpknljigmaaDoorPW
import Derived.Test.YtpfjkpknljigmaaDoorQx16
import Derived.Test.YtpfjkpknljigmaaDoorQx7
namespace Go.Proofs.YtpfjkpknljigmaaDoor.Q
open Go.RowKit Go.Proofs.YtpfjkpknljigmaaDoorW.PrintWords Go.Proofs.YtpfjkpknljigmaaDoorW.PrintLast Go.Proofs.YtpfjkpknljigmaaDoorW.PrintMore

/-! plain, Same -/
theorem rd_at (L : List S40) (i : Nat) (h : i < L.length) : rd_T40 L (i : Int) = L[i] := by simp [rd_T40, h]
theorem plain_loop (L : List S40) (hL : L.length < 1000000000) : ∀ (m i : Nat), L.length = i + m → ∀ (acc : List S40), acc.length = i → ∀ k, 2 * m < k →
  mortiselaw02_plain.l0 k L acc i = some (acc ++ (L.drop i).map pl)
 | 0, i, hi, acc, ha, k + 1, _ => by
  simp only [mortiselaw02_plain.l0]
  rw [if_neg (by omega), List.drop_eq_nil_of_le (by omega)]
  simp
 | m + 1, i, hi, acc, ha, k + 2, hk => by
  have hlt : i < L.length := by omega
  simp only [mortiselaw02_plain.l0, mortiselaw02_plain.j1]
  rw [if_pos (by omega), if_pos (by omega), if_pos (by omega), w64 _ (by omega), rd_at L i hlt]
  have ih := plain_loop L hL m (i + 1) (by omega) (acc ++ [pl L[i]]) (by simp [ha]) k (by omega)
  simp only [Int.natCast_add, Int.natCast_one] at ih
  have e : pl L[i] = (⟨L[i].f0, L[i].f1, L[i].f2, (⟨0, 0, 0⟩ : S23)⟩ : S40) := rfl
  rw [← e, ih, List.drop_eq_getElem_cons hlt, List.map_cons, List.append_assoc]
  rfl
theorem plain_eq (L : List S40) (hL : L.length < 1000000000) (k : Nat) (hk : 2 * L.length + 2 ≤ k) : mortiselaw02_plain.f k L = some (L.map pl) := by
 have := plain_loop L hL L.length 0 (by omega) [] rfl k (by omega)
 simpa [mortiselaw02_plain.f] using this
theorem Same_loop (L : List S40) (hL : L.length < 1000000000) : ∀ (m i : Nat), L.length = i + m → ∀ k, m < k → mortiselaw02_Same.l0 k L L i = some true
 | 0, i, hi, k + 1, _ => by
  simp only [mortiselaw02_Same.l0]
  rw [if_neg (by omega)]
 | m + 1, i, hi, k + 1, hk => by
  have hlt : i < L.length := by omega
  simp only [mortiselaw02_Same.l0]
  have ih := Same_loop L hL m (i + 1) (by omega) k (by omega)
  simp only [Int.natCast_add, Int.natCast_one] at ih
  rw [if_pos (by omega), if_pos (by omega), if_pos (by omega), if_neg (by simp), w64 _ (by omega), ih]
theorem Same_eq (L : List S40) (hL : L.length < 1000000000) (k : Nat) (hk : L.length + 2 ≤ k) : mortiselaw02_Same.f k L L = some true := by
 unfold mortiselaw02_Same.f
 rw [if_pos rfl]
 exact Same_loop L hL L.length 0 (by omega) k (by omega)

end Go.Proofs.YtpfjkpknljigmaaDoor.Q
