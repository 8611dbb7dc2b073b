/- The printed function of the law TokenFirst answers true for every string of at most 2^47 - 4096 bytes. -/
import Derived.Test.YtpfjkpknljigmaaDoorPL4
import Derived.Test.YtpfjkpknljigmaaDoorQx16
import Derived.Test.YtpfjkpknljigmaaDoorQx19
import Derived.Test.YtpfjkpknljigmaaDoorQx4
import Derived.Test.YtpfjkpknljigmaaDoorQx7
namespace Go.Proofs.YtpfjkpknljigmaaDoor.Q
open Go.RowKit Go.Proofs.YtpfjkpknljigmaaDoorW.PrintWords Go.Proofs.YtpfjkpknljigmaaDoorW.PrintLast Go.Proofs.YtpfjkpknljigmaaDoorW.PrintMore

theorem scanOut_err (l : List UInt8) (h : (scanF l).2.1 ≠ 0) : scOut l [] (scanF l) = ([], (scanF l).2.1, (spot l (scanF l).2.2).f0, (spot l (scanF l).2.2).f1, (spot l (scanF l).2.2).f2) := by
 unfold scOut; rw [if_neg h]
theorem scanOut_ok (l : List UInt8) (h : (scanF l).2.1 = 0) : scOut l [] (scanF l) = ((scanF l).1, 0, 0, 0, 0) := by
 unfold scOut; rw [if_pos h, List.nil_append]
theorem num_id (e : Int) (h0 : 0 ≤ e) (h1 : e ≤ 100) : mortiselaw02_num.f e = some e := by
 have := allBytes (p := fun x => decide (mortiselaw02_num.f x = some x)) (by kernel_rfl) e h0 (by omega)
 exact of_decide_eq_true this
theorem oneF_err (l : List UInt8) : (oneF l).err = 0 ∨ (20 ≤ (oneF l).err ∧ (oneF l).err ≤ 26 ∧ (oneF l).err ≠ 24 ∧ (oneF l).err ≠ 23) := by
 cases l with
 | nil => right; simp [oneF, tkBad]
 | cons c r =>
  simp only [oneF]
  split
  ·
   split
   ·
    right; simp [tkBad]
   ·
    left; rfl
  ·
   split
   ·
    split
    ·
     left; rfl
    ·
     right; simp [tkBad]
   ·
    split
    ·
     cases qF (r.length + 1) 39 r with
     | none => right; simp [tkBad]
     | some p =>
      simp only
      split
      ·
       left; rfl
      ·
       right; simp [tkBad]
    ·
     split
     ·
      cases qF (r.length + 1) 34 r with
      | none => right; simp [tkBad]
      | some p => left; rfl
     ·
      split
      ·
       right; simp [tkBad]
      ·
       left; rfl
theorem scF_err (l : List UInt8) : ∀ (k a c : Nat), a ≤ l.length → l.length - a < k → (scF l k c a).2.1 = 0 ∨ (20 ≤ (scF l k c a).2.1 ∧ (scF l k c a).2.1 ≤ 26 ∧ (scF l k c a).2.1 ≠ 24) := by
 intro k
 induction k with
 | zero => intro _ _ _ h; exact absurd h (by omega)
 | succ k ih =>
  intro a c ha hk
  obtain ⟨n1, n2⟩ := nx_le l a ha
  simp only [scF]
  split
  ·
   right; exact (by decide : (20 : Int) ≤ 25 ∧ (25 : Int) ≤ 26 ∧ (25 : Int) ≠ 24)
  ·
   split
   ·
    left; rfl
   ·
    rename_i g
    split
    ·
     rename_i he
     split
     ·
      right; exact (by decide : (20 : Int) ≤ 23 ∧ (23 : Int) ≤ 26 ∧ (23 : Int) ≠ 24)
     ·
      have hlt : nx l a < l.length := by omega
      obtain ⟨o1, o2⟩ := oneF_len _ (drop_ne hlt) he
      rw [List.length_drop] at o2
      generalize oneF (l.drop (nx l a)) = u at o1 o2 ⊢
      clear he g
      obtain ⟨q1, q2, _, _⟩ := ar1 n1 hk hlt o1 o2 (Nat.zero_le a)
      have := ih (nx l a + u.len) (c + 1) q1 q2
      split
      ·
       left; rfl
      ·
       exact this
    ·
     rename_i he
     rcases oneF_err (l.drop (nx l a)) with h | ⟨h1, h2, h3, _⟩
     ·
      exact absurd h he
     ·
      exact .inr ⟨h1, h2, h3⟩
theorem mortiselaw02_TokenFirst.pure (s : ByteArray) (hs : s.size ≤ 140737488351232) : ∃ k, mortiselaw02_TokenFirst.f k s = some true := by
 refine ⟨204, ?_⟩
 obtain ⟨l, rfl⟩ : ∃ l, s = B l := ⟨_, (B_of s).symm⟩
 unfold mortiselaw02_TokenFirst.f
 rw [scan_eq]
 by_cases hl : l.length > 65536
 ·
  rw [if_pos hl, Option.bind_some]
  simp only [mortiselaw02_TokenFirst.j0, num_id 24 (by decide) (by decide), Option.bind_some, B_size]
  rw [if_neg (by decide), if_pos (by decide), decide_eq_true (p := (l.length : Int) > 65536) (by omega), if_pos (by decide), heads_from _ (by decide)]
  rfl
 ·
  rw [if_neg hl, Option.bind_some]
  by_cases he : (scanF l).2.1 = 0
  ·
   rw [scanOut_ok l he]
   simp only [mortiselaw02_TokenFirst.j0, num_id 0 (by decide) (by decide), Option.bind_some, B_size]
   rw [if_pos (by decide), if_pos trivial, decide_eq_false (p := (l.length : Int) > 65536) (by omega), if_pos (by decide), heads_from _ (by decide)]
   rfl
  ·
   rw [scanOut_err l he]
   obtain ⟨i1, i2, i3⟩ := scF_first l (l.length + 2) 0 0 (Nat.zero_le _) (by omega) he
   have hr := scF_err l (l.length + 2) 0 0 (Nat.zero_le _) (by omega)
   have hr' : (scanF l).2.1 = 0 ∨ (20 ≤ (scanF l).2.1 ∧ (scanF l).2.1 ≤ 26 ∧ (scanF l).2.1 ≠ 24) := hr
   have i2' : (scanF l).2.2 ≤ l.length := i2
   have i3' : ∀ k', (scanF l).2.2 - 0 < k' → (scF (l.take (scanF l).2.2) k' 0 0).2.1 = 0 := i3
   clear i1 i2 i3 hr
   generalize (scanF l).2.1 = e at he hr' ⊢
   generalize (scanF l).2.2 = o at i2' i3' ⊢
   have hr2 : 20 ≤ e ∧ e ≤ 26 ∧ e ≠ 24 := by rcases hr' with h | h; exact absurd h he; exact h
   obtain ⟨e1, e2, e3⟩ := hr2
   have hsp0 : (spot l o).f0 = 1 + cnt (B l) o := rfl
   have hsp1 : (spot l o).f1 = (o : Int) - lst (B l) o := rfl
   have hsp2 : (spot l o).f2 = (o : Int) := rfl
   have hb : (e == 0) = false := by rw [beq_eq_false_iff_ne]; exact he
   have hb2 : (e == 24) = false := by rw [beq_eq_false_iff_ne]; exact e3
   rw [hsp0, hsp1, hsp2]
   simp only
   rw [hb, Bool.false_and, if_neg (by decide), num_id e (by omega) (by omega), Option.bind_some, hb2]
   simp only [mortiselaw02_TokenFirst.j0, B_size]
   rw [if_neg (by decide), if_neg (by omega), if_neg (by omega), At_val l (by omega) o i2', Option.bind_some]
   simp only [mortiselaw02_TokenFirst.j1, beq_self_eq_true, Bool.not_true, Bool.or_false, B_size]
   rw [if_neg (by decide), if_pos (by omega), if_pos (by omega), Int.toNat_natCast, B_prefix, scan_eq]
   have hlen : (l.take o).length = o := by rw [List.length_take]; omega
   rw [if_neg (by omega), Option.bind_some]
   have hz : (scanF (l.take o)).2.1 = 0 := i3' _ (by omega)
   rw [scanOut_ok _ hz]
   simp only
   rw [if_pos (by decide), heads_from _ (by decide)]
   rfl
end Go.Proofs.YtpfjkpknljigmaaDoor.Q
