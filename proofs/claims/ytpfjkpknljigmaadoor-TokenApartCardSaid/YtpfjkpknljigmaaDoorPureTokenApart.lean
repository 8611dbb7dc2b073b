/- The printed function of the law TokenApart answers true for every two strings of at most 2^47 - 4096 bytes each. -/
import Derived.Test.YtpfjkpknljigmaaDoorPureTokenFirst
import Derived.Test.YtpfjkpknljigmaaDoorPS
import Derived.Test.YtpfjkpknljigmaaDoorQx16
import Derived.Test.YtpfjkpknljigmaaDoorQx20
import Derived.Test.YtpfjkpknljigmaaDoorQx7
namespace Go.Proofs.YtpfjkpknljigmaaDoor.Q
open Go.RowKit Go.Proofs.YtpfjkpknljigmaaDoorW.PrintWords Go.Proofs.YtpfjkpknljigmaaDoorW.PrintLast Go.Proofs.YtpfjkpknljigmaaDoorW.PrintMore

/-! two texts -/
theorem pl_tkS (l : List UInt8) (n : Nat) (t : Tk) : pl (tkS l n t) = ⟨t.kind, B t.text, t.num, ⟨0, 0, 0⟩⟩ := rfl
theorem scF_pos (t : List UInt8) (k c a : Nat) (h : (scF t k c a).2.1 = 0) : 1 ≤ (scF t k c a).1.length := by
 cases k with
 | zero => exact absurd h (by simp [scF])
 | succ k =>
  simp only [scF] at h ⊢
  split at h
  ·
   exact absurd h (by decide : ¬ (25 : Int) = 0)
  ·
   rename_i g1
   rw [if_neg g1]
   split at h
   ·
    rename_i g2
    rw [if_pos g2]; simp
   ·
    rename_i g2
    rw [if_neg g2]
    split at h
    ·
     rename_i g3
     rw [if_pos g3]
     split at h
     ·
      exact absurd h (by decide : ¬ (23 : Int) = 0)
     ·
      rename_i g4
      rw [if_neg g4]
      split at h
      ·
       rename_i g5
       rw [if_pos g5]; simp
      ·
       rename_i g5
       exact absurd h g5
    ·
     rename_i g3
     exact absurd h g3
theorem scF_len (l : List UInt8) : ∀ (k a c : Nat), a ≤ l.length → (scF l k c a).1.length ≤ l.length - a + 1 := by
 intro k
 induction k with
 | zero => intro _ _ _; simp [scF]
 | succ k ih =>
  intro a c ha
  obtain ⟨n1, n2⟩ := nx_le l a ha
  simp only [scF]
  split
  ·
   simp
  ·
   split
   ·
    simp
   ·
    rename_i g2
    split
    ·
     rename_i g3
     obtain ⟨o1, o2⟩ := oneF_len _ (drop_ne (show nx l a < l.length by omega)) g3
     rw [List.length_drop] at o2
     clear g3
     generalize oneF (l.drop (nx l a)) = u at o1 o2 ⊢
     generalize nx l a = x at n1 n2 o1 o2 g2 ⊢
     split
     ·
      simp
     ·
      split
      ·
       have := ih (x + u.len) (c + 1) (by omega)
       simp only [List.length_cons]
       omega
      ·
       simp
    ·
     simp
theorem ar2 {L a x n k K : Nat} (n1 : a ≤ x) (hk : L - a < k + 1) (hK : L - a < K + 1) (hlt : x < L) (o1 : 1 ≤ n) (o2 : n ≤ L - x) : x + n ≤ L ∧ L - (x + n) < k ∧ L - (x + n) < K := by omega
theorem scF_shift (p t : List UInt8) : ∀ (k a c0 : Nat), a ≤ t.length → t.length - a < k → (scF t k c0 a).2.1 = 0 → ∀ (K c : Nat), t.length - a < K → c + (scF t k c0 a).1.length ≤ 16385 →
  (scF (p ++ t) K c (p.length + a)).2.1 = 0 ∧ (scF (p ++ t) K c (p.length + a)).1.map pl = (scF t k c0 a).1.map pl := by
 intro k
 induction k with
 | zero => intro _ _ _ h; exact absurd h (by omega)
 | succ k ih =>
  intro a c0 ha hk he K c hK hc
  obtain ⟨K, rfl⟩ : ∃ j, K = j + 1 := ⟨K - 1, by omega⟩
  obtain ⟨n1, n2⟩ := nx_le t a ha
  have hd : ∀ x, (p ++ t).drop (p.length + x) = t.drop x := fun x => by rw [List.drop_append]; simp
  have hnx : nx (p ++ t) (p.length + a) = p.length + nx t a := by unfold nx; rw [hd]; omega
  simp only [scF, hnx, hd] at he hc ⊢
  by_cases g1 : (sp (t.drop a)).2 = true
  ·
   rw [if_pos g1] at he; exact absurd he (by decide : ¬ (25 : Int) = 0)
  ·
   rw [if_neg g1] at he hc
   rw [if_neg g1, if_neg g1]
   by_cases g2 : nx t a = t.length
   ·
    rw [if_pos g2, if_pos (by rw [List.length_append]; omega)]
    exact ⟨rfl, rfl⟩
   ·
    rw [if_neg g2] at he hc
    rw [if_neg g2, if_neg (by rw [List.length_append]; omega)]
    have hlt : nx t a < t.length := by omega
    by_cases g3 : (oneF (t.drop (nx t a))).err = 0
    ·
     rw [if_pos g3] at he hc
     rw [if_pos g3, if_pos g3]
     obtain ⟨o1, o2⟩ := oneF_len _ (drop_ne hlt) g3
     rw [List.length_drop] at o2
     clear g3
     generalize oneF (t.drop (nx t a)) = u at o1 o2 he hc ⊢
     generalize nx t a = x at n1 n2 hlt o1 o2 he hc ⊢
     obtain ⟨q1, q2, q3⟩ := ar2 n1 hk hK hlt o1 o2
     by_cases g4 : c0 = 16384
     ·
      rw [if_pos g4] at he; exact absurd he (by decide : ¬ (23 : Int) = 0)
     ·
      rw [if_neg g4] at he hc
      by_cases g5 : (scF t k (c0 + 1) (x + u.len)).2.1 = 0
      ·
       rw [if_pos g5] at hc
       rw [if_neg g4, if_pos g5]
       simp only [List.length_cons] at hc
       obtain ⟨i1, i2⟩ := ih (x + u.len) (c0 + 1) q1 q2 g5 K (c + 1) q3 (by omega)
       rw [← Nat.add_assoc] at i1 i2
       have hpos : 1 ≤ (scF t k (c0 + 1) (x + u.len)).1.length := scF_pos t k _ _ g5
       rw [if_neg (by omega), if_pos i1]
       exact ⟨rfl, by simp only [List.map_cons, pl_tkS, i2]⟩
      ·
       rw [if_neg g5] at he; exact absurd he g5
    ·
     rw [if_neg g3] at he; exact absurd he g3
theorem scF_same (l : List UInt8) (k c a b : Nat) (h1 : (sp (l.drop a)).2 = (sp (l.drop b)).2) (h2 : nx l a = nx l b) : scF l (k + 1) c a = scF l (k + 1) c b := by
 simp only [scF, h1, h2]
theorem ar3 {L a x n k K T : Nat} (n1 : a ≤ x) (hk : L - a < k + 1) (hK : L + 1 + T - a < K + 1) (hlt : x < L) (o1 : 1 ≤ n) (o2 : n ≤ L - x) : x + n ≤ L ∧ L - (x + n) < k ∧ L + 1 + T - (x + n) < K := by omega
theorem scF_app (l1 t : List UInt8) (ht : (scanF t).2.1 = 0) : ∀ (k a c0 : Nat), a ≤ l1.length → l1.length - a < k → (scF l1 k c0 a).2.1 = 0 → ∀ (K c : Nat), l1.length + 1 + t.length - a < K → c + (scF l1 k c0 a).1.length + (scanF t).1.length ≤ 16386 →
  (scF (l1 ++ 10 :: t) K c a).2.1 = 0 ∧ (scF (l1 ++ 10 :: t) K c a).1.map pl = (scF l1 k c0 a).1.dropLast.map pl ++ (scanF t).1.map pl := by
 have hpt : 1 ≤ (scanF t).1.length := scF_pos t _ _ _ ht
 intro k
 induction k with
 | zero => intro _ _ _ h; exact absurd h (by omega)
 | succ k ih =>
  intro a c0 ha hk he K c hK hc
  obtain ⟨K, rfl⟩ : ∃ j, K = j + 1 := ⟨K - 1, by omega⟩
  obtain ⟨n1, n2⟩ := nx_le l1 a ha
  have hnx0 : nx l1 a = a + (sp (l1.drop a)).1 := rfl
  have hd : ∀ x, x ≤ l1.length → (l1 ++ 10 :: t).drop x = l1.drop x ++ 10 :: t := fun x hx => List.drop_append_of_le_length hx
  have hsp := sp_of (l1.drop a)
  simp only [scF] at he hc
  by_cases g1 : (sp (l1.drop a)).2 = true
  ·
   rw [if_pos g1] at he; exact absurd he (by decide : ¬ (25 : Int) = 0)
  ·
   rw [if_neg g1] at he hc
   have g1' : (sp (l1.drop a)).2 = false := by simpa using g1
   obtain ⟨a1, a2⟩ := hsp.app g1' t
   by_cases g2 : nx l1 a = l1.length
   ·
    rw [if_pos g2] at hc
    have h1 := (a2 (by rw [List.length_drop]; omega) _ _ (sp_of t)).eq
    have hdt : (l1 ++ 10 :: t).drop (l1.length + 1) = t := by
     rw [show l1 ++ 10 :: t = (l1 ++ [10]) ++ t by simp, List.drop_left' (by simp)]
    rw [← hd a ha] at h1
    have e := scF_same (l1 ++ 10 :: t) K c a (l1.length + 1) (by rw [h1, hdt]) (by unfold nx; rw [h1, hdt]; simp only; omega)
    rw [e]
    have hs := scF_shift (l1 ++ [10]) t (t.length + 2) 0 0 (Nat.zero_le _) (by omega) ht (K + 1) c (by omega) (by
     simp only [List.length_cons, List.length_nil] at hc
     have hc' : c + (0 + 1) + (scF t (t.length + 2) 0 0).1.length ≤ 16386 := hc
     omega)
    have e1 : (l1 ++ [10]) ++ t = l1 ++ 10 :: t := by simp
    have e2 : (l1 ++ [10]).length + 0 = l1.length + 1 := by simp
    rw [e1, e2] at hs
    refine ⟨hs.1, ?_⟩
    rw [hs.2]
    simp only [scF]
    rw [if_neg g1, if_pos g2]
    rfl
   ·
    rw [if_neg g2] at he hc
    have hlt : nx l1 a < l1.length := by omega
    have h1 := (a1 (by rw [List.length_drop]; omega)).eq
    rw [← hd a ha] at h1
    have hnx : nx (l1 ++ 10 :: t) a = nx l1 a := by unfold nx; rw [h1]
    by_cases g3 : (oneF (l1.drop (nx l1 a))).err = 0
    ·
     rw [if_pos g3] at he hc
     obtain ⟨o1, o2⟩ := oneF_len _ (drop_ne hlt) g3
     have o2' := o2
     rw [List.length_drop] at o2
     have hone : oneF ((l1 ++ 10 :: t).drop (nx l1 a)) = oneF (l1.drop (nx l1 a)) := by
      rw [hd _ n2]
      generalize l1.drop (nx l1 a) = d at g3 o1 o2' ⊢
      have hw : (d.take (oneF d).len).length = (oneF d).len := by rw [List.length_take]; exact Nat.min_eq_left o2'
      have hdd : d.take (oneF d).len ++ d.drop (oneF d).len = d := List.take_append_drop _ _
      have hloc := oneF_local (d.take (oneF d).len) (d.drop (oneF d).len) (d.drop (oneF d).len ++ 10 :: t) (by intro e; rw [e] at hw; rw [← hw] at o1; exact absurd o1 (by simp)) (by rw [hdd]; exact g3) (by rw [hdd, hw]) (.inr ⟨_, 10, t, List.prefix_refl _, rfl, .inl rfl⟩)
      rw [hdd, ← List.append_assoc, hdd] at hloc
      exact hloc
     simp only [scF]
     rw [h1, hnx, hone, if_neg (by simp), if_neg (by rw [List.length_append]; omega), if_pos g3, if_neg g1, if_neg g2, if_pos g3]
     clear g3 hone h1 hnx a1 a2 hsp hnx0 hd g1 g1'
     generalize oneF (l1.drop (nx l1 a)) = u at o1 o2 he hc ⊢
     generalize nx l1 a = x at n1 n2 hlt o1 o2 he hc g2 ⊢
     obtain ⟨q1, q2, q3⟩ := ar3 n1 hk hK hlt o1 o2
     by_cases g4 : c0 = 16384
     ·
      rw [if_pos g4] at he; exact absurd he (by decide : ¬ (23 : Int) = 0)
     ·
      rw [if_neg g4] at he hc
      by_cases g5 : (scF l1 k (c0 + 1) (x + u.len)).2.1 = 0
      ·
       rw [if_pos g5] at hc
       simp only [List.length_cons] at hc
       have hp := scF_pos l1 k _ _ g5
       obtain ⟨i1, i2⟩ := ih (x + u.len) (c0 + 1) q1 q2 g5 K (c + 1) q3 (by omega)
       rw [if_neg (by omega), if_pos i1, if_neg g4, if_pos g5]
       refine ⟨rfl, ?_⟩
       simp only [List.map_cons, pl_tkS, i2]
       rw [List.dropLast_cons_of_ne_nil (by intro e; rw [e] at hp; simp at hp)]
       rfl
      ·
       rw [if_neg g5] at he; exact absurd he g5
    ·
     rw [if_neg g3] at he; exact absurd he g3
theorem scanF_len (l : List UInt8) (hl : l.length ≤ 65536) : (scanF l).1.length < 1000000 := by
 have : (scanF l).1.length ≤ l.length - 0 + 1 := scF_len l _ 0 0 (Nat.zero_le _)
 omega
theorem B_append (a b : List UInt8) : B a ++ B b = B (a ++ b) := by
 have h := B_of (B a ++ B b)
 rw [← h]
 congr 1
 first | done | rw [ByteArray.data_append, Array.toList_append, B_data, B_data]
theorem scan_bad (l : List UInt8) : ((if l.length > 65536 then (([], 24, 0, 0, 0) : List S40 × Int × Int × Int × Int) else scOut l [] (scanF l)).2.1 ≠ 0) ∨
  (l.length ≤ 65536 ∧ (scanF l).2.1 = 0 ∧ (if l.length > 65536 then (([], 24, 0, 0, 0) : List S40 × Int × Int × Int × Int) else scOut l [] (scanF l)) = ((scanF l).1, 0, 0, 0, 0)) := by
 by_cases h : l.length > 65536
 ·
  left; rw [if_pos h]; exact (by decide : (24 : Int) ≠ 0)
 ·
  rw [if_neg h]
  by_cases e : (scanF l).2.1 = 0
  ·
   right; exact ⟨by omega, e, scanOut_ok l e⟩
  ·
   left; rw [scanOut_err l e]; exact e
theorem apart_true (k : Nat) (hk : 201 ≤ k) (x0 x1 : ByteArray) (x5 x7 : List S40) : mortiselaw02_TokenApart.j0 k x0 x1 x5 x7 true = some true := by
 obtain ⟨k, rfl⟩ : ∃ j, k = j + 1 := ⟨k - 1, by omega⟩
 simp only [mortiselaw02_TokenApart.j0, if_true]
 rw [heads_from k (by omega)]
 rfl
theorem mortiselaw02_TokenApart.pure (s t : ByteArray) (hs : s.size ≤ 140737488351232) (ht : t.size ≤ 140737488351232) : ∃ k, mortiselaw02_TokenApart.f k s t = some true := by
 refine ⟨100002, ?_⟩
 obtain ⟨l1, rfl⟩ : ∃ l, s = B l := ⟨_, (B_of s).symm⟩
 obtain ⟨l2, rfl⟩ : ∃ l, t = B l := ⟨_, (B_of t).symm⟩
 rw [B_size] at hs ht
 unfold mortiselaw02_TokenApart.f
 rw [scan_eq, scan_eq, Option.bind_some, Option.bind_some]
 rcases scan_bad l1 with h1 | ⟨b1, e1, r1⟩
 ·
  generalize (if l1.length > 65536 then (([], 24, 0, 0, 0) : List S40 × Int × Int × Int × Int) else scOut l1 [] (scanF l1)) = R1 at h1 ⊢
  have hb : (R1.2.1 == 0) = false := by rw [beq_eq_false_iff_ne]; exact h1
  rw [hb, if_pos (by simp), apart_true _ (by decide)]
 ·
  rw [r1, if_neg (by simp)]
  rcases scan_bad l2 with h2 | ⟨b2, e2, r2⟩
  ·
   generalize (if l2.length > 65536 then (([], 24, 0, 0, 0) : List S40 × Int × Int × Int × Int) else scOut l2 [] (scanF l2)) = R2 at h2 ⊢
   have hb : (R2.2.1 == 0) = false := by rw [beq_eq_false_iff_ne]; exact h2
   rw [hb, if_pos (by simp), apart_true _ (by decide)]
  ·
   rw [r2, if_neg (by simp), B_size, B_size, w64 _ (by omega)]
   by_cases g1 : (l1.length : Int) + (l2.length : Int) > 60000
   ·
    rw [if_pos g1, apart_true _ (by decide)]
   ·
    rw [if_neg g1]
    simp only
    have p1 := scF_pos l1 _ _ _ e1
    have p2 := scF_pos l2 _ _ _ e2
    have p1' : 1 ≤ (scanF l1).1.length := p1
    have p2' : 1 ≤ (scanF l2).1.length := p2
    have m1 : (scanF l1).1.length < 1000000000 := Nat.lt_trans (scanF_len l1 b1) (by decide)
    have m2 : (scanF l2).1.length < 1000000000 := Nat.lt_trans (scanF_len l2 b2) (by decide)
    rw [w64 _ (by omega)]
    by_cases g2 : ((scanF l1).1.length : Int) + ((scanF l2).1.length : Int) > 16000
    ·
     rw [decide_eq_true g2, apart_true _ (by decide)]
    ·
     rw [decide_eq_false g2]
     obtain ⟨h1, h2⟩ := scF_app l1 l2 e2 (l1.length + 2) 0 0 (Nat.zero_le _) (by omega) e1 ((l1 ++ 10 :: l2).length + 2) 0 (by rw [List.length_append, List.length_cons]; omega) (by
      have : (scF l1 (l1.length + 2) 0 0).1.length = (scanF l1).1.length := rfl
      omega)
     have h1' : (scanF (l1 ++ 10 :: l2)).2.1 = 0 := h1
     have h2' : (scanF (l1 ++ 10 :: l2)).1.map pl = (scanF l1).1.dropLast.map pl ++ (scanF l2).1.map pl := h2
     clear h1 h2 p1 p2
     have hlen : (scanF (l1 ++ 10 :: l2)).1.length = (scanF l1).1.length - 1 + (scanF l2).1.length := by
      have := congrArg List.length h2'
      rw [List.length_map, List.length_append, List.length_map, List.length_map, List.length_dropLast] at this
      exact this
     have hcat : (B l1 ++ (⟨#[10]⟩ : ByteArray)) ++ B l2 = B (l1 ++ 10 :: l2) := by
      rw [show (⟨#[10]⟩ : ByteArray) = B [10] from rfl, B_append, B_append]
      simp
     have hc1 : (B l1 ++ (⟨#[10]⟩ : ByteArray)).size = l1.length + 1 := by rw [show (⟨#[10]⟩ : ByteArray) = B [10] from rfl, B_append, B_size]; simp
     have hL : (l1 ++ 10 :: l2).length = l1.length + 1 + l2.length := by rw [List.length_append, List.length_cons]; omega
     simp only [mortiselaw02_TokenApart.j0]
     rw [if_neg (by decide), B_size, if_pos (by omega), hc1, B_size, if_pos (by omega), hcat, scan_eq, if_neg (by omega), scanOut_ok _ h1', Option.bind_some, if_neg (by simp)]
     simp only
     generalize (scanF (l1 ++ 10 :: l2)).1 = C at h2' hlen ⊢
     generalize (scanF l1).1 = A1 at h2' hlen p1' m1 g2 ⊢
     generalize (scanF l2).1 = A2 at h2' hlen p2' m2 g2 ⊢
     rw [w64 ((A1.length : Int) - 1) (by omega), w64 _ (by omega)]
     have hne : ((C.length : Int) != (A1.length : Int) - 1 + (A2.length : Int)) = false := by
      rw [bne_eq_false_iff_eq]; omega
     rw [hne]
     simp only [mortiselaw02_TokenApart.j1]
     rw [if_neg (by decide), w64 ((A1.length : Int) - 1) (by omega), if_pos (by omega), if_pos (by omega)]
     have ht1 : ((A1.length : Int) - 1).toNat = A1.length - 1 := by omega
     rw [ht1, ← List.dropLast_eq_take, plain_eq _ (by rw [List.length_dropLast]; omega) _ (by rw [List.length_dropLast]; omega), Option.bind_some, plain_eq _ m2 _ (by omega), Option.bind_some,
      if_pos (by rw [List.length_map, List.length_map, List.length_dropLast]; omega), plain_eq C (by omega) _ (by omega), Option.bind_some, h2', Same_eq _ (by rw [List.length_append, List.length_map, List.length_map, List.length_dropLast]; omega) _ (by rw [List.length_append, List.length_map, List.length_map, List.length_dropLast]; omega), Option.bind_some, if_pos rfl, heads_from _ (by decide)]
     rfl
end Go.Proofs.YtpfjkpknljigmaaDoor.Q
