/- The scan: what token.Scan computes, as a function of a list of at most 65536 bytes; what stands behind a token does not turn it; the scan of the text in front of an error. -/
import Derived.Test.YtpfjkpknljigmaaDoorPL
import Derived.Test.YtpfjkpknljigmaaDoorPA
import Derived.Test.YtpfjkpknljigmaaDoorH3
import Derived.Test.YtpfjkpknljigmaaDoorQx10
import Derived.Test.YtpfjkpknljigmaaDoorQx12
import Derived.Test.YtpfjkpknljigmaaDoorQx4
import Derived.Test.YtpfjkpknljigmaaDoorQx8
namespace Go.Proofs.YtpfjkpknljigmaaDoor.Q
open Go.RowKit Go.Proofs.YtpfjkpknljigmaaDoorW.PrintWords Go.Proofs.YtpfjkpknljigmaaDoorW.PrintLast Go.Proofs.YtpfjkpknljigmaaDoorW.PrintMore


theorem tw_local {p : UInt8 → Bool} : ∀ (w r r' : List UInt8), ((w ++ r).takeWhile p).length < w.length → (w ++ r').takeWhile p = (w ++ r).takeWhile p
 | [], _, _, h => absurd h (by simp)
 | b :: w, r, r', h => by
  simp only [List.cons_append, List.takeWhile_cons] at h ⊢
  cases hp : p b
  ·
   simp
  ·
   rw [hp] at h
   simp only [if_true, List.length_cons] at h ⊢
   rw [tw_local w r r' (by omega)]
theorem tw_all {p : UInt8 → Bool} : ∀ (w r : List UInt8), w.length ≤ ((w ++ r).takeWhile p).length → (w ++ r).takeWhile p = w ++ r.takeWhile p ∧ w.all p = true
 | [], r, _ => ⟨rfl, rfl⟩
 | b :: w, r, h => by
  simp only [List.cons_append, List.takeWhile_cons] at h ⊢
  cases hp : p b
  ·
   rw [hp] at h; simp at h
  ·
   rw [hp] at h
   simp only [if_true, List.length_cons] at h ⊢
   obtain ⟨h1, h2⟩ := tw_all (p := p) w r (by omega)
   rw [h1]
   exact ⟨rfl, by simp [hp]; simpa using h2⟩
theorem tw_app {p : UInt8 → Bool} (w r : List UInt8) (h : w.all p = true) : (w ++ r).takeWhile p = w ++ r.takeWhile p := by
 induction w with
 | nil => rfl
 | cons b w ih =>
  simp only [List.all_cons, Bool.and_eq_true] at h
  simp only [List.cons_append, List.takeWhile_cons, h.1, if_true, ih h.2]
theorem escL_local (w r r' : List UInt8) (h : (escL (w ++ r)).2.1 < w.length) : escL (w ++ r') = escL (w ++ r) := by
 cases w with
 | nil => exact absurd h (by simp)
 | cons c w =>
  simp only [List.cons_append, List.length_cons, escL] at h ⊢
  split
  ·
   rfl
  ·
   rename_i h1
   rw [if_neg h1] at h
   split
   ·
    rename_i h2
    rw [if_pos h2] at h
    rw [tw_local w r r' (by simpa using h)]
   ·
    rename_i h2
    rw [if_neg h2] at h
    simp only at h
    have e : escN (c :: (w ++ r')) = escN (c :: (w ++ r)) := by
     by_cases g : (((c :: w) ++ r).takeWhile octU).length < (c :: w).length
     ·
      have := tw_local (c :: w) r r' g
      simp only [List.cons_append] at this
      unfold escN
      rw [this]
     ·
      obtain ⟨g1, g2⟩ := tw_all (p := octU) (c :: w) r (by omega)
      have g3 := tw_app (p := octU) (c :: w) r' g2
      simp only [List.cons_append] at g1 g3
      unfold escN at h ⊢
      rw [g1] at h ⊢
      rw [g3]
      simp only [List.length_cons, List.length_append] at h ⊢
      omega
    rw [e]
    have e2 : (c :: (w ++ r')).take (escN (c :: (w ++ r))) = (c :: (w ++ r)).take (escN (c :: (w ++ r))) := by
     rw [← List.cons_append, ← List.cons_append, List.take_append_of_le_length (by simp only [List.length_cons, List.cons_append]; omega), List.take_append_of_le_length (by simp only [List.length_cons, List.cons_append]; omega)]
    rw [e2]
theorem qF_local : ∀ (k : Nat) (q : UInt8) (w r : List UInt8) (p : List Int × Nat), qF k q (w ++ r) = some p → p.2 = w.length → ∀ (r' : List UInt8) (k' : Nat), w.length ≤ k' → qF k' q (w ++ r') = some p
 | 0, _, _, _, _, h, _, _, _, _ => by simp [qF] at h
 | k + 1, q, [], r, p, h, hp, r', k', hk => by
  exfalso
  cases r with
  | nil => simp [qF] at h
  | cons c r =>
   simp only [List.nil_append, qF] at h
   simp only [List.length_nil] at hp
   split at h
   ·
    cases h; simp at hp
   ·
    split at h
    ·
     cases h
    ·
     split at h
     ·
      split at h
      ·
       obtain ⟨p', h1, rfl⟩ := Option.map_eq_some_iff.1 h
       simp at hp
      ·
       cases h
     ·
      obtain ⟨p', h1, rfl⟩ := Option.map_eq_some_iff.1 h
      simp at hp
 | k + 1, q, c :: w, r, p, h, hp, r', 0, hk => by simp at hk
 | k + 1, q, c :: w, r, p, h, hp, r', k' + 1, hk => by
  simp only [List.cons_append, qF] at h ⊢
  simp only [List.length_cons] at hp hk
  by_cases h1 : c = q
  ·
   rw [if_pos h1] at h ⊢
   exact h
  ·
   rw [if_neg h1] at h ⊢
   by_cases h2 : c = 10
   ·
    rw [if_pos h2] at h; cases h
   ·
    rw [if_neg h2] at h ⊢
    by_cases h3 : c = 92
    ·
     rw [if_pos h3] at h ⊢
     cases hok : (escL (w ++ r)).2.2
     ·
      rw [hok] at h; simp at h
     ·
      rw [hok] at h
      simp only [if_true] at h
      obtain ⟨p', e1, rfl⟩ := Option.map_eq_some_iff.1 h
      simp only at hp
      have hlt : (escL (w ++ r)).2.1 ≤ w.length := by omega
      have hpos : 0 < p'.2 := by
       rcases Nat.eq_zero_or_pos p'.2 with z | z
       ·
        exfalso
        have := qF_local k q [] ((w ++ r).drop (escL (w ++ r)).2.1) p' (by simpa using e1) (by simpa using z) [] 0 (by simp)
        simp [qF] at this
       ·
        exact z
      rw [escL_local w r r' (by omega), hok]
      simp only [if_true]
      rw [List.drop_append_of_le_length hlt] at e1 ⊢
      have := qF_local k q (w.drop (escL (w ++ r)).2.1) r p' e1 (by rw [List.length_drop]; omega) r' k' (by rw [List.length_drop]; omega)
      rw [this]
      rfl
    ·
     rw [if_neg h3] at h ⊢
     obtain ⟨p', e1, rfl⟩ := Option.map_eq_some_iff.1 h
     simp only at hp
     rw [qF_local k q w r p' e1 (by omega) r' k' (by omega)]
     rfl
/-- What may stand behind a token in place of r. -/
def Follow (r r' : List UInt8) : Prop := r' <+: r ∨ ∃ r0 b t, r0 <+: r ∧ r' = r0 ++ b :: t ∧ (b = 10 ∨ b = 32)
theorem tw_follow (w r r' : List UInt8) (hw : (w ++ r).takeWhile tailU = w) (hf : Follow r r') : (w ++ r').takeWhile tailU = w := by
 obtain ⟨h1, h2⟩ := tw_all (p := tailU) w r (by rw [hw]; exact Nat.le_refl _)
 rw [hw] at h1
 have hr : r.takeWhile tailU = [] := by
  have := congrArg List.length h1
  rw [List.length_append] at this
  exact List.eq_nil_of_length_eq_zero (by omega)
 rw [tw_app w r' h2]
 have hpre : ∀ (y : UInt8) (ys : List UInt8), y :: ys <+: r → tailU y = false := by
  rintro y ys ⟨t, rfl⟩
  simp only [List.cons_append, List.takeWhile_cons] at hr
  cases hp : tailU y
  ·
   rfl
  ·
   rw [hp] at hr; simp at hr
 have hr' : r'.takeWhile tailU = [] := by
  rcases hf with hf | ⟨r0, b, t, h0, rfl, hb⟩
  ·
   cases r' with
   | nil => rfl
   | cons b r' => rw [List.takeWhile_cons, hpre b r' hf]; rfl
  ·
   cases r0 with
   | nil =>
    rw [List.nil_append, List.takeWhile_cons]
    rcases hb with rfl | rfl
    ·
     rw [show tailU 10 = false by rfl]; rfl
    ·
     rw [show tailU 32 = false by rfl]; rfl
   | cons y r0 => rw [List.cons_append, List.takeWhile_cons, hpre y r0 h0]; rfl
 rw [hr', List.append_nil]
theorem prefix_app_le {x w r : List UInt8} (h : x <+: w ++ r) (hl : x.length ≤ w.length) : x <+: w := by
 rw [List.prefix_iff_eq_take] at h ⊢
 rwa [List.take_append_of_le_length hl] at h
theorem signs_noblank : signsL.all (fun x => x.data.toList.all (fun b => b != 10 && b != 32)) = true := by kernel_rfl
theorem prefix_follow {x w r r' : List UInt8} (hx : x.all (fun b => b != 10 && b != 32) = true) (hf : Follow r r') (h : x <+: w ++ r') : x <+: w ++ r := by
 rcases hf with ⟨t, rfl⟩ | ⟨r0, b, t, h0, rfl, hb⟩
 ·
  rw [← List.append_assoc]
  exact h.trans (List.prefix_append _ _)
 ·
  rw [← List.append_assoc] at h
  by_cases hl : x.length ≤ (w ++ r0).length
  ·
   obtain ⟨r1, rfl⟩ := h0
   rw [← List.append_assoc]
   exact (prefix_app_le h hl).trans (List.prefix_append _ _)
  ·
   exfalso
   have hlen : (w ++ r0).length < x.length := by omega
   have e : x[(w ++ r0).length]? = some b := by
    obtain ⟨y, hy⟩ := h
    have h1 : (x ++ y)[(w ++ r0).length]? = ((w ++ r0) ++ b :: t)[(w ++ r0).length]? := by rw [hy]
    rw [List.getElem?_append_left hlen] at h1
    rw [h1]; simp
   have hm : b ∈ x := List.mem_of_getElem? e
   have := List.all_eq_true.1 hx b hm
   rcases hb with rfl | rfl <;> simp at this
theorem find_follow {L : List ByteArray} (hL : L.all (fun x => x.data.toList.all (fun b => b != 10 && b != 32)) = true) {w r r' : List UInt8} (hf : Follow r r') :
  (∀ x, L.find? (fun x => x.data.toList.isPrefixOf (w ++ r)) = some x → x.data.toList.length ≤ w.length → L.find? (fun x => x.data.toList.isPrefixOf (w ++ r')) = some x) ∧
  (L.find? (fun x => x.data.toList.isPrefixOf (w ++ r)) = none → L.find? (fun x => x.data.toList.isPrefixOf (w ++ r')) = none) := by
 induction L with
 | nil => exact ⟨fun _ h => by simp at h, fun _ => rfl⟩
 | cons y L ih =>
  simp only [List.all_cons, Bool.and_eq_true] at hL
  obtain ⟨i1, i2⟩ := ih hL.2
  simp only [List.find?_cons]
  have hm : y.data.toList.isPrefixOf (w ++ r) = false → y.data.toList.isPrefixOf (w ++ r') = false := by
   intro h
   rw [Bool.eq_false_iff] at h ⊢
   exact fun g => h (List.isPrefixOf_iff_prefix.2 (prefix_follow hL.1 hf (List.isPrefixOf_iff_prefix.1 g)))
  cases hy : y.data.toList.isPrefixOf (w ++ r)
  ·
   rw [hm hy]
   exact ⟨i1, i2⟩
  ·
   constructor
   ·
    intro x hx hl
    cases hx
    have : y.data.toList.isPrefixOf (w ++ r') = true := List.isPrefixOf_iff_prefix.2 ((prefix_app_le (List.isPrefixOf_iff_prefix.1 hy) hl).trans (List.prefix_append _ _))
    rw [this]
   ·
    intro h; cases h
theorem sign_local (w r r' : List UInt8) (hw : w ≠ []) (h : signF (w ++ r) = w) (hf : Follow r r') : signF (w ++ r') = w := by
 obtain ⟨f1, f2⟩ := find_follow signs_noblank (w := w) hf
 unfold signF at h ⊢
 cases c : signsL.find? (fun x => x.data.toList.isPrefixOf (w ++ r)) with
 | some x =>
  rw [c] at h
  simp only at h
  rw [f1 x c (by rw [h]; exact Nat.le_refl _)]
  exact h
 | none =>
  rw [c] at h
  rw [f2 c]
  cases w with
  | nil => exact absurd rfl hw
  | cons b w =>
   simp only [List.cons_append, List.headD_cons, List.take_succ_cons, List.take_zero] at h ⊢
   exact h
theorem signF_pre (l : List UInt8) : (signF l).length ≤ l.length ∧ signF l = l.take (signF l).length := by
 unfold signF
 cases c : signsL.find? (fun x => x.data.toList.isPrefixOf l) with
 | some x =>
  have := List.find?_some c
  have hp := List.isPrefixOf_iff_prefix.1 this
  exact ⟨hp.length_le, List.prefix_iff_eq_take.1 hp⟩
 | none =>
  simp only
  split
  ·
   cases l <;> simp
  ·
   simp
theorem oneF_len (l : List UInt8) (h0 : l ≠ []) (he : (oneF l).err = 0) : 1 ≤ (oneF l).len ∧ (oneF l).len ≤ l.length := by
 cases l with
 | nil => exact absurd rfl h0
 | cons c r =>
  have htw : ((c :: r).takeWhile tailU).length ≤ (c :: r).length := (List.takeWhile_prefix _).length_le
  have hpos : tailU c = true → 1 ≤ ((c :: r).takeWhile tailU).length := by
   intro h; rw [List.takeWhile_cons, h]; simp
  simp only [oneF] at he ⊢
  split at he
  ·
   rename_i c1
   rw [if_pos c1]
   split at he
   ·
    exact absurd he (by simp [tkBad])
   ·
    rename_i d
    rw [if_neg d]
    have ht : tailU c = true := by
     have : letB (c.toNat : Int) = true := c1
     show (letB (c.toNat : Int) || digB (c.toNat : Int)) = true
     rw [this]; rfl
    exact ⟨hpos ht, htw⟩
  ·
   rename_i c1
   rw [if_neg c1]
   split at he
   ·
    rename_i c2
    rw [if_pos c2]
    split at he
    ·
     rename_i d
     rw [if_pos d]
     have ht : tailU c = true := by
      have : digB (c.toNat : Int) = true := c2
      show (letB (c.toNat : Int) || digB (c.toNat : Int)) = true
      rw [this]; simp
     exact ⟨hpos ht, htw⟩
    ·
     exact absurd he (by simp [tkBad])
   ·
    rename_i c2
    rw [if_neg c2]
    have hq : ∀ (q : UInt8) (p : List Int × Nat), qF (r.length + 1) q r = some p → 1 ≤ p.2 + 1 ∧ p.2 + 1 ≤ (c :: r).length := by
     intro q p hp
     have := qF_le _ _ _ _ hp
     simp only [List.length_cons]; omega
    split at he
    ·
     rename_i c3
     rw [if_pos c3]
     cases hQ : qF (r.length + 1) 39 r with
     | none => rw [hQ] at he; exact absurd he (by simp [tkBad])
     | some p =>
      rw [hQ] at he
      simp only at he ⊢
      split at he
      ·
       rename_i d; rw [if_pos d]; exact hq _ _ hQ
      ·
       exact absurd he (by simp [tkBad])
    ·
     rename_i c3
     rw [if_neg c3]
     split at he
     ·
      rename_i c4
      rw [if_pos c4]
      cases hQ : qF (r.length + 1) 34 r with
      | none => rw [hQ] at he; exact absurd he (by simp [tkBad])
      | some p => exact hq _ _ hQ
     ·
      rename_i c4
      rw [if_neg c4]
      split at he
      ·
       exact absurd he (by simp [tkBad])
      ·
       rename_i d
       rw [if_neg d]
       refine ⟨?_, (signF_pre _).1⟩
       rcases Nat.eq_zero_or_pos (signF (c :: r)).length with z | z
       ·
        exact absurd (List.eq_nil_of_length_eq_zero z) d
       ·
        exact z
theorem tw_len {p : UInt8 → Bool} (w r : List UInt8) (h : ((w ++ r).takeWhile p).length = w.length) : (w ++ r).takeWhile p = w := by
 have h1 := List.prefix_iff_eq_take.1 (List.takeWhile_prefix p (l := w ++ r))
 rw [h1, h, List.take_left]
theorem oneF_local (w r r' : List UInt8) (hw : w ≠ []) (he : (oneF (w ++ r)).err = 0) (hl : (oneF (w ++ r)).len = w.length) (hf : Follow r r') : oneF (w ++ r') = oneF (w ++ r) := by
 cases w with
 | nil => exact absurd rfl hw
 | cons c w =>
  simp only [List.cons_append, oneF] at he hl ⊢
  by_cases c1 : letU c = true
  ·
   rw [if_pos c1] at he hl
   rw [if_pos c1, if_pos c1]
   split at he
   ·
    exact absurd he (by simp [tkBad])
   ·
    rename_i d
    rw [if_neg d] at hl
    have h1 := tw_len (p := tailU) (c :: w) r (by simpa using hl)
    have h2 := tw_follow (c :: w) r r' h1 hf
    simp only [List.cons_append] at h1 h2
    rw [h1, h2]
  ·
   rw [if_neg c1] at he hl
   rw [if_neg c1, if_neg c1]
   by_cases c2 : digU c = true
   ·
    rw [if_pos c2] at he hl
    rw [if_pos c2, if_pos c2]
    split at he
    ·
     rename_i d
     rw [if_pos d] at hl
     have h1 := tw_len (p := tailU) (c :: w) r (by simpa using hl)
     have h2 := tw_follow (c :: w) r r' h1 hf
     simp only [List.cons_append] at h1 h2
     rw [h1, h2]
    ·
     exact absurd he (by simp [tkBad])
   ·
    rw [if_neg c2] at he hl
    rw [if_neg c2, if_neg c2]
    by_cases c3 : c = 39
    ·
     rw [if_pos c3] at he hl
     rw [if_pos c3, if_pos c3]
     cases hQ : qF ((w ++ r).length + 1) 39 (w ++ r) with
     | none => rw [hQ] at he; exact absurd he (by simp [tkBad])
     | some p =>
      rw [hQ] at he hl
      simp only at he hl
      split at he
      ·
       rename_i d
       rw [if_pos d] at hl
       rw [qF_local _ _ w r p hQ (by simpa using hl) r' _ (by rw [List.length_append]; omega)]
      ·
       exact absurd he (by simp [tkBad])
    ·
     rw [if_neg c3] at he hl
     rw [if_neg c3, if_neg c3]
     by_cases c4 : c = 34
     ·
      rw [if_pos c4] at he hl
      rw [if_pos c4, if_pos c4]
      cases hQ : qF ((w ++ r).length + 1) 34 (w ++ r) with
      | none => rw [hQ] at he; exact absurd he (by simp [tkBad])
      | some p =>
       rw [hQ] at he hl
       simp only at he hl
       rw [qF_local _ _ w r p hQ (by simpa using hl) r' _ (by rw [List.length_append]; omega)]
     ·
      rw [if_neg c4] at he hl
      rw [if_neg c4, if_neg c4]
      split at he
      ·
       exact absurd he (by simp [tkBad])
      ·
       rename_i d
       rw [if_neg d] at hl
       simp only at hl
       have hp := (signF_pre (c :: (w ++ r))).2
       rw [hl] at hp
       have hs : signF ((c :: w) ++ r) = c :: w := by
        rw [List.cons_append, hp, ← List.cons_append, List.take_left]
       have hs' := sign_local (c :: w) r r' (by simp) hs hf
       simp only [List.cons_append] at hs hs'
       rw [hs, hs']

def noEnd : List UInt8 → Bool
 | [] => true
 | [_] => true
 | x :: y :: a => !(x == 42 && y == 47) && noEnd (y :: a)
theorem indexByte_split (l : List UInt8) (c : UInt8) : (Lib.indexByte l c = -1 ∧ c ∉ l) ∨ ∃ a r, l = a ++ c :: r ∧ Lib.indexByte l c = (a.length : Int) ∧ c ∉ a := by
 induction l with
 | nil => exact .inl ⟨rfl, by simp⟩
 | cons b l ih =>
  unfold Lib.indexByte
  by_cases e : (b == c) = true
  ·
   rw [if_pos e]
   exact .inr ⟨[], l, by rw [beq_iff_eq.1 e]; rfl, rfl, by simp⟩
  ·
   rw [if_neg e]
   have hne : c ≠ b := fun h => e (by rw [h]; simp)
   rcases ih with ⟨h1, h2⟩ | ⟨a, r, h1, h2, h3⟩
   ·
    left
    rw [if_pos (by rw [h1]; rfl)]
    exact ⟨rfl, by simp [hne, h2]⟩
   ·
    right
    have : ¬ (Lib.indexByte l c == -1) = true := by rw [h2]; simp
    rw [if_neg this, h2]
    exact ⟨b :: a, r, by rw [h1]; rfl, by simp, by simp [hne, h3]⟩
theorem indexByte_of (a r : List UInt8) (c : UInt8) (h : c ∉ a) : Lib.indexByte (a ++ c :: r) c = (a.length : Int) := by
 induction a with
 | nil => simp [Lib.indexByte]
 | cons b a ih =>
  simp only [List.mem_cons, not_or] at h
  rw [List.cons_append]
  unfold Lib.indexByte
  rw [if_neg (by simpa using fun e : b = c => h.1 e.symm), ih h.2, if_neg (by simp)]
  simp
theorem indexByte_not (a : List UInt8) (c : UInt8) (h : c ∉ a) : Lib.indexByte a c = -1 := by
 rcases indexByte_split a c with h1 | ⟨x, r, h1, _, _⟩
 ·
  exact h1.1
 ·
  exact absurd (by rw [h1]; simp) h
theorem pre_two (x y : UInt8) (b : UInt8) (l : List UInt8) : [x, y].isPrefixOf (b :: l) = true ↔ b = x ∧ ∃ r, l = y :: r := by
 cases l with
 | nil => simp [List.isPrefixOf]
 | cons c r =>
  simp only [List.isPrefixOf_cons_cons, List.isPrefixOf_nil_left, Bool.and_true, Bool.and_eq_true, beq_iff_eq, List.cons.injEq]
  constructor
  ·
   rintro ⟨h1, h2⟩; exact ⟨h1.symm, r, h2.symm, rfl⟩
  ·
   rintro ⟨h1, r', h2, _⟩; exact ⟨h1.symm, h2.symm⟩
theorem index_split (l : List UInt8) : Lib.index l [42, 47] = -1 ∨ ∃ a r, l = a ++ 42 :: 47 :: r ∧ Lib.index l [42, 47] = (a.length : Int) ∧ noEnd a = true := by
 induction l with
 | nil => left; rfl
 | cons b l ih =>
  unfold Lib.index
  by_cases e : [42, 47].isPrefixOf (b :: l) = true
  ·
   rw [if_pos e]
   obtain ⟨h1, r, h2⟩ := (pre_two _ _ _ _).1 e
   exact .inr ⟨[], r, by rw [h1, h2]; rfl, rfl, rfl⟩
  ·
   rw [if_neg e]
   rcases ih with h1 | ⟨a, r, h1, h2, h3⟩
   ·
    left; rw [if_pos (by rw [h1]; rfl)]
   ·
    right
    rw [if_neg (by rw [h2]; simp), h2]
    refine ⟨b :: a, r, by rw [h1]; rfl, by simp, ?_⟩
    cases a with
    | nil => rfl
    | cons y a =>
     simp only [noEnd, h3, Bool.and_true, Bool.not_eq_true', Bool.and_eq_false_iff]
     by_cases g : b = 42
     ·
      right
      rw [beq_eq_false_iff_ne]
      intro g2
      exact e ((pre_two _ _ _ _).2 ⟨g, a ++ 42 :: 47 :: r, by rw [h1, g2]; rfl⟩)
     ·
      left; simpa using g
theorem index_of (a r : List UInt8) (h : noEnd a = true) : Lib.index (a ++ 42 :: 47 :: r) [42, 47] = (a.length : Int) := by
 induction a with
 | nil => rw [List.nil_append]; unfold Lib.index; rw [if_pos (by simp [List.isPrefixOf])]; rfl
 | cons b a ih =>
  have h2 : noEnd a = true := by
   cases a with
   | nil => rfl
   | cons y a => simp only [noEnd, Bool.and_eq_true] at h; exact h.2
  rw [List.cons_append]
  unfold Lib.index
  have : ¬ [42, 47].isPrefixOf (b :: (a ++ 42 :: 47 :: r)) = true := by
   rw [pre_two]
   rintro ⟨h3, r', h4⟩
   cases a with
   | nil => simp at h4
   | cons y a =>
    simp only [List.cons_append, List.cons.injEq] at h4
    simp [noEnd, h3, h4.1] at h
  rw [if_neg this, ih h2, if_neg (by simp)]
  simp
inductive Sp : List UInt8 → Nat → Bool → Prop
 | nil : Sp [] 0 false
 | stop (b : UInt8) (r : List UInt8) : blank b = false → [47, 47].isPrefixOf (b :: r) = false → [47, 42].isPrefixOf (b :: r) = false → Sp (b :: r) 0 false
 | blank (b : UInt8) (r : List UInt8) (n : Nat) (e : Bool) : blank b = true → Sp r n e → Sp (b :: r) (n + 1) e
 | last (c : List UInt8) : 10 ∉ c → Sp (47 :: 47 :: c) (c.length + 2) false
 | line (c r : List UInt8) (n : Nat) (e : Bool) : 10 ∉ c → Sp r n e → Sp (47 :: 47 :: (c ++ 10 :: r)) (c.length + 3 + n) e
 | block (c r : List UInt8) (n : Nat) (e : Bool) : noEnd c = true → Sp r n e → Sp (47 :: 42 :: (c ++ 42 :: 47 :: r)) (c.length + 4 + n) e
 | open_ (c : List UInt8) : Lib.index c [42, 47] = -1 → Sp (47 :: 42 :: c) 0 true
theorem Sp.of : ∀ (k : Nat) (l : List UInt8), l.length < k → Sp l (spF k l).1 (spF k l).2
 | 0, _, h => absurd h (by omega)
 | k + 1, [], _ => .nil
 | k + 1, b :: r, h => by
  simp only [List.length_cons] at h
  simp only [spF]
  by_cases g1 : Q.blank b = true
  ·
   rw [if_pos g1]
   exact .blank b r _ _ g1 (Sp.of k r (by omega))
  ·
   rw [if_neg g1]
   have g1' : Q.blank b = false := by simpa using g1
   by_cases g2 : [47, 47].isPrefixOf (b :: r) = true
   ·
    rw [if_pos g2]
    obtain ⟨rfl, c, rfl⟩ := (pre_two _ _ _ _).1 g2
    rcases indexByte_split c 10 with ⟨h1, h2⟩ | ⟨a, r', h1, h2, h3⟩
    ·
     rw [if_pos (by rw [indexByte_not _ _ (by simp [h2])]; decide)]
     exact .last c h2
    ·
     subst h1
     have e : Lib.indexByte (47 :: 47 :: (a ++ 10 :: r')) 10 = ((47 :: 47 :: a).length : Int) := indexByte_of (47 :: 47 :: a) r' 10 (by simp [h3])
     rw [if_neg (by rw [e]; omega), e, Int.toNat_natCast]
     have ed : (47 :: 47 :: (a ++ 10 :: r')).drop (47 :: 47 :: a).length = 10 :: r' := by
      rw [show 47 :: 47 :: (a ++ 10 :: r') = (47 :: 47 :: a) ++ 10 :: r' from rfl, List.drop_left]
     rw [ed]
     simp only [List.length_cons, List.length_append] at h
     cases k with
     | zero => omega
     | succ k =>
      simp only [spF, show Q.blank 10 = true from rfl, if_true, List.length_cons]
      have := Sp.line a r' _ _ h3 (Sp.of k r' (by omega))
      rw [show a.length + 1 + 1 + ((spF k r').1 + 1) = a.length + 3 + (spF k r').1 by omega]
      exact this
   ·
    rw [if_neg g2]
    by_cases g3 : [47, 42].isPrefixOf (b :: r) = true
    ·
     rw [if_pos g3]
     obtain ⟨rfl, c, rfl⟩ := (pre_two _ _ _ _).1 g3
     simp only [List.drop_succ_cons, List.drop_zero]
     rcases index_split c with h1 | ⟨a, r', h1, h2, h3⟩
     ·
      rw [if_pos (by rw [h1]; decide)]
      exact .open_ c h1
     ·
      rw [if_neg (by rw [h2]; omega), h2, Int.toNat_natCast]
      subst h1
      have ed : (47 :: 42 :: (a ++ 42 :: 47 :: r')).drop (a.length + 4) = r' := by
       rw [show 47 :: 42 :: (a ++ 42 :: 47 :: r') = (47 :: 42 :: (a ++ [42, 47])) ++ r' by simp, List.drop_left' (by simp)]
      simp only [List.length_cons, List.length_append] at h
      have ih := Sp.of k r' (by omega)
      simp only [List.drop_succ_cons] at ed ⊢
      rw [ed]
      exact .block a r' _ _ h3 ih
    ·
     rw [if_neg g3]
     exact .stop b r g1' (Bool.eq_false_iff.2 g2) (Bool.eq_false_iff.2 g3)
theorem Sp.spF {l : List UInt8} {n : Nat} {e : Bool} (h : Sp l n e) : ∀ k, l.length < k → spF k l = (n, e) := by
 induction h with
 | nil => intro k hk; cases k <;> rfl
 | stop b r h1 h2 h3 =>
  intro k hk
  cases k with
  | zero => omega
  | succ k => simp only [Q.spF, h1, h2, h3]; simp
 | blank b r n e h1 _ ih =>
  intro k hk
  cases k with
  | zero => omega
  | succ k =>
   simp only [List.length_cons] at hk
   simp only [Q.spF, h1, if_true, ih k (by omega)]
 | last c h1 =>
  intro k hk
  cases k with
  | zero => omega
  | succ k =>
   simp only [Q.spF, show Q.blank 47 = false from rfl]
   rw [if_neg (by simp), if_pos (by simp [List.isPrefixOf]), if_pos (by rw [indexByte_not _ _ (by simp [h1])]; decide)]
   simp
 | line c r n e h1 _ ih =>
  intro k hk
  simp only [List.length_cons, List.length_append] at hk
  cases k with
  | zero => omega
  | succ k =>
   cases k with
   | zero => omega
   | succ k =>
    have e : Lib.indexByte (47 :: 47 :: (c ++ 10 :: r)) 10 = ((47 :: 47 :: c).length : Int) := indexByte_of (47 :: 47 :: c) r 10 (by simp [h1])
    have ed : (47 :: 47 :: (c ++ 10 :: r)).drop (47 :: 47 :: c).length = 10 :: r := by
     rw [show 47 :: 47 :: (c ++ 10 :: r) = (47 :: 47 :: c) ++ 10 :: r from rfl, List.drop_left]
    rw [Q.spF, if_neg (by rw [show Q.blank 47 = false from rfl]; simp), if_pos (by simp [List.isPrefixOf]), if_neg (by rw [e]; omega), e, Int.toNat_natCast, ed]
    rw [Q.spF, if_pos (by rfl), ih k (by omega)]
    simp only [List.length_cons]
    congr 1
    omega
 | block c r n e h1 _ ih =>
  intro k hk
  simp only [List.length_cons, List.length_append] at hk
  cases k with
  | zero => omega
  | succ k =>
   have ed : (47 :: 42 :: (c ++ 42 :: 47 :: r)).drop (c.length + 4) = r := by
    rw [show 47 :: 42 :: (c ++ 42 :: 47 :: r) = (47 :: 42 :: (c ++ [42, 47])) ++ r by simp, List.drop_left' (by simp)]
   rw [Q.spF, if_neg (by rw [show Q.blank 47 = false from rfl]; simp), if_neg (by simp [List.isPrefixOf]), if_pos (by simp [List.isPrefixOf])]
   have e2 : (47 :: 42 :: (c ++ 42 :: 47 :: r)).drop 2 = c ++ 42 :: 47 :: r := rfl
   rw [e2, index_of c r h1, if_neg (by omega), Int.toNat_natCast, ed, ih k (by omega)]
 | open_ c h1 =>
  intro k hk
  cases k with
  | zero => omega
  | succ k =>
   rw [Q.spF, if_neg (by rw [show Q.blank 47 = false from rfl]; simp), if_neg (by simp [List.isPrefixOf]), if_pos (by simp [List.isPrefixOf])]
   have e2 : (47 :: 42 :: c).drop 2 = c := rfl
   rw [e2, h1, if_pos (by decide)]
theorem Sp.take {l : List UInt8} {n : Nat} {e : Bool} (h : Sp l n e) : ∀ o : Nat, n ≤ o → (e = false ∨ o = n) → Sp (l.take o) n false := by
 induction h with
 | nil => intro o _ _; rw [List.take_nil]; exact .nil
 | stop b r h1 h2 h3 =>
  intro o _ _
  cases o with
  | zero => exact .nil
  | succ o =>
   rw [List.take_succ_cons]
   have hp : ∀ p : List UInt8, p.isPrefixOf (b :: r) = false → p.isPrefixOf (b :: r.take o) = false := by
    intro p hp
    rw [Bool.eq_false_iff] at hp ⊢
    intro g
    refine hp (List.isPrefixOf_iff_prefix.2 ((List.isPrefixOf_iff_prefix.1 g).trans ?_))
    rw [← List.take_succ_cons]
    exact List.take_prefix _ _
   exact .stop b _ h1 (hp _ h2) (hp _ h3)
 | blank b r n e h1 _ ih =>
  intro o ho he
  cases o with
  | zero => omega
  | succ o =>
   rw [List.take_succ_cons]
   exact .blank b _ n false h1 (ih o (by omega) (by rcases he with he | he; exact .inl he; exact .inr (by omega)))
 | last c h1 =>
  intro o ho _
  rw [List.take_of_length_le (by simp only [List.length_cons]; omega)]
  exact .last c h1
 | line c r n e h1 _ ih =>
  intro o ho he
  obtain ⟨m, rfl⟩ : ∃ m, o = c.length + 3 + m := ⟨o - (c.length + 3), by omega⟩
  have ed : (47 :: 47 :: (c ++ 10 :: r)).take (c.length + 3 + m) = 47 :: 47 :: (c ++ 10 :: r.take m) := by
   rw [show 47 :: 47 :: (c ++ 10 :: r) = (47 :: 47 :: (c ++ [10])) ++ r by simp, show c.length + 3 + m = (47 :: 47 :: (c ++ [10])).length + m by simp, List.take_length_add_append]
   simp
  rw [ed]
  exact .line c _ n false h1 (ih m (by omega) (by rcases he with he | he; exact .inl he; exact .inr (by omega)))
 | block c r n e h1 _ ih =>
  intro o ho he
  obtain ⟨m, rfl⟩ : ∃ m, o = c.length + 4 + m := ⟨o - (c.length + 4), by omega⟩
  have ed : (47 :: 42 :: (c ++ 42 :: 47 :: r)).take (c.length + 4 + m) = 47 :: 42 :: (c ++ 42 :: 47 :: r.take m) := by
   rw [show 47 :: 42 :: (c ++ 42 :: 47 :: r) = (47 :: 42 :: (c ++ [42, 47])) ++ r by simp, show c.length + 4 + m = (47 :: 42 :: (c ++ [42, 47])).length + m by simp, List.take_length_add_append]
   simp
  rw [ed]
  exact .block c _ n false h1 (ih m (by omega) (by rcases he with he | he; exact .inl he; exact .inr (by omega)))
 | open_ c h1 =>
  intro o _ he
  rcases he with he | he
  ·
   cases he
  ·
   rw [he]; exact .nil
theorem Sp.app {l : List UInt8} {n : Nat} {e : Bool} (h : Sp l n e) : e = false → ∀ t : List UInt8, (n < l.length → Sp (l ++ 10 :: t) n false) ∧ (n = l.length → ∀ m e', Sp t m e' → Sp (l ++ 10 :: t) (n + 1 + m) e') := by
 induction h with
 | nil =>
  intro _ t
  refine ⟨fun h => absurd h (by simp), fun _ m e' ht => ?_⟩
  rw [show 0 + 1 + m = m + 1 by omega]
  exact .blank 10 t m e' rfl ht
 | stop b r h1 h2 h3 =>
  intro _ t
  refine ⟨fun _ => ?_, fun h => absurd h (by simp)⟩
  have hp : ∀ y : UInt8, y ≠ 10 → [47, y].isPrefixOf (b :: r) = false → [47, y].isPrefixOf (b :: (r ++ 10 :: t)) = false := by
   intro y hy hp
   rw [Bool.eq_false_iff] at hp ⊢
   intro g
   obtain ⟨g1, r', g2⟩ := (pre_two _ _ _ _).1 g
   cases r with
   | nil => simp at g2; exact hy g2.1.symm
   | cons c r =>
    simp only [List.cons_append, List.cons.injEq] at g2
    exact hp ((pre_two _ _ _ _).2 ⟨g1, r, by rw [g2.1]⟩)
  exact .stop b _ h1 (hp 47 (by decide) h2) (hp 42 (by decide) h3)
 | blank b r n e h1 _ ih =>
  intro he t
  obtain ⟨i1, i2⟩ := ih he t
  simp only [List.length_cons, List.cons_append]
  refine ⟨fun h => .blank b _ n false h1 (i1 (by omega)), fun h m e' ht => ?_⟩
  rw [show n + 1 + 1 + m = n + 1 + m + 1 by omega]
  exact .blank b _ _ e' h1 (i2 (by omega) m e' ht)
 | last c h1 =>
  intro _ t
  refine ⟨fun h => absurd h (by simp), fun _ m e' ht => ?_⟩
  rw [show c.length + 2 + 1 + m = c.length + 3 + m by omega]
  exact .line c t m e' h1 ht
 | line c r n e h1 _ ih =>
  intro he t
  obtain ⟨i1, i2⟩ := ih he t
  simp only [List.length_cons, List.length_append, List.cons_append, List.append_assoc]
  refine ⟨fun h => .line c _ n false h1 (i1 (by omega)), fun h m e' ht => ?_⟩
  rw [show c.length + 3 + n + 1 + m = c.length + 3 + (n + 1 + m) by omega]
  exact .line c _ _ e' h1 (i2 (by omega) m e' ht)
 | block c r n e h1 _ ih =>
  intro he t
  obtain ⟨i1, i2⟩ := ih he t
  simp only [List.length_cons, List.length_append, List.cons_append, List.append_assoc]
  refine ⟨fun h => .block c _ n false h1 (i1 (by omega)), fun h m e' ht => ?_⟩
  rw [show c.length + 4 + n + 1 + m = c.length + 4 + (n + 1 + m) by omega]
  exact .block c _ _ e' h1 (i2 (by omega) m e' ht)
 | open_ c h1 => intro he; cases he
def sp (l : List UInt8) : Nat × Bool := spF (l.length + 1) l
theorem sp_of (l : List UInt8) : Sp l (sp l).1 (sp l).2 := Sp.of _ l (Nat.lt_succ_self _)
theorem Sp.eq {l : List UInt8} {n : Nat} {e : Bool} (h : Sp l n e) : sp l = (n, e) := h.spF _ (Nat.lt_succ_self _)
theorem sp_fuel (l : List UInt8) (k : Nat) (h : l.length < k) : spF k l = sp l := by rw [(sp_of l).spF k h]
theorem sp_le (l : List UInt8) : (sp l).1 ≤ l.length := spF_le _ _

def spot (l : List UInt8) (n : Nat) : S23 := ⟨1 + cnt (B l) n, (n : Int) - lst (B l) n, n⟩
theorem to_loop (l : List UInt8) (hl : l.length ≤ 65536) (n : Nat) (hn : n ≤ l.length) : ∀ m i : Nat, n = i + m → ∀ k, m < k →
  token_spotter_to.l0 k n (B l) (1 + cnt (B l) i) (i - lst (B l) i) i = some (1 + cnt (B l) n, (n : Int) - lst (B l) n, (n : Int), B l, 1 + cnt (B l) n, (n : Int) - lst (B l) n, (n : Int))
 | 0, i, hi, k + 1, _ => by
  obtain rfl : n = i := by omega
  simp only [token_spotter_to.l0]
  rw [if_neg (by omega)]
 | m + 1, i, hi, k + 1, hk => by
  have hs := B_size l
  have hlt : i < (B l).size := by omega
  have a1 := lst_le (B l) i
  have a2 := cnt_le (B l) i
  have ih := to_loop l hl n hn m (i + 1) (by omega) k (by omega)
  simp only [Int.natCast_add, Int.natCast_one] at ih
  simp only [token_spotter_to.l0]
  rw [if_pos (by omega), if_pos (by omega), if_pos (by omega), w64 _ (by omega), w64 _ (by omega), w64 _ (by omega)]
  rw [lst_succ (B l) i hlt, cnt_succ (B l) i hlt] at ih
  by_cases c : bt (B l) (i : Int) = 10
  ·
   rw [if_pos c]
   rw [if_pos c, if_pos c] at ih
   rw [← ih]; congr 1 <;> omega
  ·
   rw [if_neg c]
   rw [if_neg c, if_neg c] at ih
   rw [← ih]; congr 1; omega
theorem At_val (l : List UInt8) (hl : l.length ≤ 65536) (n : Nat) (hn : n ≤ l.length) : token_At.f (B l) n = some (1 + cnt (B l) n, (n : Int) - lst (B l) n, (n : Int)) := by
 have hs := B_size l
 have e : mx 0 (mn (n : Int) ((B l).size : Int)) = n := by unfold mx mn; split <;> split <;> omega
 unfold token_At.f
 rw [e]
 have a1 := lst_le (B l) n
 have a2 := cnt_le (B l) n
 have hsz : ((B l).extract 0 n).size = n := by rw [ByteArray.size_extract]; omega
 rw [if_pos (by omega), if_pos (by omega)]
 have e1 : strings_LastIndexByte.f ((B l).extract 0 ((n : Int)).toNat) 10 = some (lst (B l) n) := by
  unfold strings_LastIndexByte.f
  rw [Int.toNat_natCast, if_pos (by omega)]
  unfold Lib.lastIndexByte lst
  rw [hsz, lastIdx_extract (B l) n (by omega) n (Nat.le_refl _)]
 have e2 : strings_Count.f ((B l).extract 0 ((n : Int)).toNat) (⟨#[10]⟩ : ByteArray) = some (cnt (B l) n) := by
  unfold strings_Count.f
  rw [dif_pos (by decide), Int.toNat_natCast]
  unfold Lib.countByte cnt
  congr 2
  rw [ByteArray.data_extract]
  simp
  rfl
 rw [e1, e2]
 simp only [Option.bind_some]
 rw [w64 _ (by omega), w64 _ (by omega)]

def nx (l : List UInt8) (a : Nat) : Nat := a + (sp (l.drop a)).1
def tkS (l : List UInt8) (n : Nat) (t : Tk) : S40 := ⟨t.kind, B t.text, t.num, spot l n⟩
def scF (l : List UInt8) : Nat → Nat → Nat → List S40 × Int × Nat
 | 0, _, _ => ([], 99, 0)
 | k + 1, c, a =>
  if (sp (l.drop a)).2 = true then ([], 25, nx l a)
  else if nx l a = l.length then ([⟨0, B [], 0, spot l (nx l a)⟩], 0, 0)
  else if (oneF (l.drop (nx l a))).err = 0 then
   (if c = 16384 then ([], 23, nx l a)
    else if (scF l k (c + 1) (nx l a + (oneF (l.drop (nx l a))).len)).2.1 = 0 then (tkS l (nx l a) (oneF (l.drop (nx l a))) :: (scF l k (c + 1) (nx l a + (oneF (l.drop (nx l a))).len)).1, 0, 0)
    else ([], (scF l k (c + 1) (nx l a + (oneF (l.drop (nx l a))).len)).2.1, (scF l k (c + 1) (nx l a + (oneF (l.drop (nx l a))).len)).2.2))
  else ([], (oneF (l.drop (nx l a))).err, nx l a)
def scOut (l : List UInt8) (acc : List S40) (r : List S40 × Int × Nat) : List S40 × Int × Int × Int × Int :=
 if r.2.1 = 0 then (acc ++ r.1, 0, 0, 0, 0) else ([], r.2.1, (spot l r.2.2).f0, (spot l r.2.2).f1, (spot l r.2.2).f2)
theorem nx_le (l : List UInt8) (a : Nat) (h : a ≤ l.length) : a ≤ nx l a ∧ nx l a ≤ l.length := by
 have := sp_le (l.drop a)
 rw [List.length_drop] at this
 unfold nx
 omega
theorem drop_ne {l : List UInt8} {n : Nat} (h : n < l.length) : l.drop n ≠ [] := by
 intro e
 have := congrArg List.length e
 rw [List.length_drop] at this
 simp at this
 omega
theorem space_at (l : List UInt8) (hl : l.length ≤ 65536) (a : Nat) (ha : a ≤ l.length) : token_space.f (scan.K (B l)) (B l) a = some (((nx l a : Nat) : Int), if (sp (l.drop a)).2 = true then 25 else 0) := by
 unfold token_space.f scan.K
 rw [B_size, space_eq l (by omega) (l.length + 1) (l.length - a) a rfl ha (by omega) _ (by omega), sp_fuel _ _ (by rw [List.length_drop]; omega)]
 rfl
theorem one_at (l : List UInt8) (hl : l.length ≤ 65536) (n : Nat) (hn : n < l.length) : token_one.f (scan.K (B l)) ((B l).extract n (B l).size) =
  some ((oneF (l.drop n)).kind, B (oneF (l.drop n)).text, (oneF (l.drop n)).num, 0, 0, 0, ((oneF (l.drop n)).len : Int), (oneF (l.drop n)).err) := by
 rw [B_suffix]
 refine one_eq (l.drop n) (drop_ne hn) (by rw [List.length_drop]; omega) _ ?_
 unfold scan.K
 rw [List.length_drop, B_size]
 omega
theorem ar1 {L a x n k c : Nat} (n1 : a ≤ x) (hk : L - a < k + 1) (hlt : x < L) (o1 : 1 ≤ n) (o2 : n ≤ L - x) (hacc : c ≤ a) : x + n ≤ L ∧ L - (x + n) < k ∧ c + 1 ≤ x + n ∧ x ≤ x + n := by omega
theorem scan_loop (l : List UInt8) (hl : l.length ≤ 65536) : ∀ (k a : Nat), a ≤ l.length → l.length - a < k → ∀ (acc : List S40), acc.length ≤ a → ∀ (f : Nat), f ≤ a →
  token_Scan.l0 (B l) k acc a (B l) (1 + cnt (B l) f) (f - lst (B l) f) f = some (scOut l acc (scF l k acc.length a)) := by
 intro k
 induction k with
 | zero => intro _ _ h; exact absurd h (by omega)
 | succ k ihk =>
  intro a ha hk acc hacc f hf
  obtain ⟨n1, n2⟩ := nx_le l a ha
  have hto : token_spotter_to.f (scan.K (B l)) (B l) (1 + cnt (B l) f) (f - lst (B l) f) f (nx l a) = some (1 + cnt (B l) (nx l a), (nx l a : Int) - lst (B l) (nx l a), (nx l a : Int), B l, 1 + cnt (B l) (nx l a), (nx l a : Int) - lst (B l) (nx l a), (nx l a : Int)) := by
   unfold token_spotter_to.f scan.K
   exact to_loop l hl (nx l a) n2 (nx l a - f) f (by omega) _ (by rw [B_size]; omega)
  have hsa := space_at l hl a ha
  have hbs := B_size l
  rw [token_Scan.l0]
  simp only [scF]
  cases hsp : (sp (l.drop a)).2
  ·
   have hsa' : token_space.f (scan.K (B l)) (B l) a = some (((nx l a : Nat) : Int), (0 : Int)) := by rw [hsa, hsp]; rfl
   rw [hsa', Option.bind_some, if_pos (show ((((nx l a : Nat) : Int), (0 : Int)) : Int × Int).2 = 0 from rfl), if_neg (show ¬ (false = true) by decide)]
   by_cases g : nx l a = l.length
   ·
    rw [if_pos (show ((((nx l a : Nat) : Int), (0 : Int)) : Int × Int).1 = ((B l).size : Int) by rw [hbs]; exact congrArg _ g), if_pos g, hto, Option.bind_some, if_pos (show acc.length < 2513169434916 by omega)]
    simp only [scOut, if_true]
    rfl
   ·
    have hlt : nx l a < l.length := by omega
    rw [if_neg (show ¬ ((((nx l a : Nat) : Int), (0 : Int)) : Int × Int).1 = ((B l).size : Int) by show ¬ ((nx l a : Nat) : Int) = _; omega), if_neg g,
     if_pos (show 0 ≤ ((((nx l a : Nat) : Int), (0 : Int)) : Int × Int).1 by show 0 ≤ ((nx l a : Nat) : Int); omega), if_pos (show ((((nx l a : Nat) : Int), (0 : Int)) : Int × Int).1 ≤ ((B l).size : Int) by show ((nx l a : Nat) : Int) ≤ _; omega)]
    rw [show ((((nx l a : Nat) : Int), (0 : Int)) : Int × Int).1.toNat = nx l a from rfl, one_at l hl _ hlt, Option.bind_some, hto, Option.bind_some]
    simp only
    by_cases he : (oneF (l.drop (nx l a))).err = 0
    ·
     obtain ⟨o1, o2⟩ := oneF_len _ (drop_ne hlt) he
     rw [List.length_drop] at o2
     rw [if_pos he, if_pos he]
     by_cases hc : acc.length = 16384
     ·
      rw [if_pos hc, if_pos hc]
      rfl
     ·
      generalize oneF (l.drop (nx l a)) = u at o1 o2 ⊢
      generalize hx : nx l a = x at n1 n2 hlt o1 o2 ⊢
      have hwr : wrap64 ((x : Int) + (u.len : Int)) = ((x + u.len : Nat) : Int) := by rw [w64 _ (by omega)]; omega
      rw [if_neg hc, if_neg hc, if_pos (show acc.length < 2513169434916 by omega), hwr]
      obtain ⟨q1, q2, q3, q4⟩ := ar1 n1 hk hlt o1 o2 hacc
      have hal : (acc ++ [tkS l x u]).length = acc.length + 1 := by rw [List.length_append]; rfl
      have q5 : (acc ++ [tkS l x u]).length ≤ x + u.len := by rw [hal]; exact q3
      have ih := ihk (x + u.len) q1 q2 (acc ++ [tkS l x u]) q5 x q4
      have et : tkS l x u = ⟨u.kind, B u.text, u.num, ⟨1 + cnt (B l) x, (x : Int) - lst (B l) x, (x : Int)⟩⟩ := rfl
      rw [← et, ih, hal]
      congr 1
      unfold scOut
      by_cases hr : (scF l k (acc.length + 1) (x + u.len)).2.1 = 0
      ·
       rw [if_pos hr, if_pos hr, if_pos rfl]
       simp
      ·
       rw [if_neg hr, if_neg hr, if_neg hr]
    ·
     rw [if_neg he, if_neg he]
     simp only [scOut]
     rw [if_neg he]
     rfl
  ·
   have hsa' : token_space.f (scan.K (B l)) (B l) a = some (((nx l a : Nat) : Int), (25 : Int)) := by rw [hsa, hsp]; rfl
   rw [hsa', Option.bind_some, if_neg (show ¬ ((((nx l a : Nat) : Int), (25 : Int)) : Int × Int).2 = 0 from (by decide : ¬ (25 : Int) = 0)), if_pos (show true = true from rfl), hto, Option.bind_some]
   rfl
def scanF (l : List UInt8) : List S40 × Int × Nat := scF l (l.length + 2) 0 0
theorem scan_eq (l : List UInt8) : token_Scan.f (B l) = some (if l.length > 65536 then ([], 24, 0, 0, 0) else scOut l [] (scanF l)) := by
 unfold token_Scan.f
 rw [B_size]
 by_cases h : l.length > 65536
 ·
  rw [if_pos (by omega), if_pos h]
 ·
  rw [if_neg (by omega), if_neg h]
  have := scan_loop l (by omega) (l.length + 2) 0 (by omega) (by omega) [] (by simp) 0 (by omega)
  have z1 : lst (B l) 0 = -1 := rfl
  have z2 : cnt (B l) 0 = 0 := rfl
  rw [z1, z2, show (1 : Int) + 0 = 1 from rfl, show ((0 : Nat) : Int) - -1 = 1 from rfl, List.length_nil, show ((0 : Nat) : Int) = 0 from rfl] at this
  exact this

/-! an error's place -/
theorem take_drop (l : List UInt8) (a o : Nat) : (l.take o).drop a = (l.drop a).take (o - a) := by rw [List.drop_take]
theorem take_split (d : List UInt8) (m j : Nat) (h : m ≤ j) : d.take m ++ (d.drop m).take (j - m) = d.take j := by
 rw [← List.drop_take]
 have e5 : d.take m = (d.take j).take m := by rw [List.take_take, Nat.min_eq_left h]
 rw [e5, List.take_append_drop]
theorem scF_first (l : List UInt8) : ∀ (k a c : Nat), a ≤ l.length → l.length - a < k → (scF l k c a).2.1 ≠ 0 →
  a ≤ (scF l k c a).2.2 ∧ (scF l k c a).2.2 ≤ l.length ∧ ∀ k', (scF l k c a).2.2 - a < k' → (scF (l.take (scF l k c a).2.2) k' c a).2.1 = 0
 | 0, _, _, _, h, _ => absurd h (by omega)
 | k + 1, a, c, ha, hk, he => by
  obtain ⟨n1, n2⟩ := nx_le l a ha
  have hn : nx l a = a + (sp (l.drop a)).1 := rfl
  -- what is skipped, at a front part
  have hsp : ∀ o : Nat, nx l a ≤ o → ((sp (l.drop a)).2 = false ∨ o = nx l a) → sp ((l.take o).drop a) = ((sp (l.drop a)).1, false) := by
   intro o h1 h2
   rw [take_drop]
   exact ((sp_of (l.drop a)).take (o - a) (by omega) (by rcases h2 with h2 | h2; exact .inl h2; exact .inr (by omega))).eq
  have hstop : ((sp (l.drop a)).2 = false ∨ nx l a = nx l a) → ∀ k', nx l a - a < k' → (scF (l.take (nx l a)) k' c a).2.1 = 0 := by
   intro _ k' hk'
   obtain ⟨j, rfl⟩ : ∃ j, k' = j + 1 := ⟨k' - 1, by omega⟩
   have h1 := hsp (nx l a) (Nat.le_refl _) (.inr rfl)
   have h2 : nx (l.take (nx l a)) a = nx l a := by unfold nx at h1 ⊢; rw [h1]
   simp only [scF]
   rw [h1, h2, if_neg (by simp), if_pos (by rw [List.length_take]; omega)]
  simp only [scF] at he ⊢
  by_cases g1 : (sp (l.drop a)).2 = true
  ·
   rw [if_pos g1]
   exact ⟨n1, n2, hstop (.inr rfl)⟩
  ·
   rw [if_neg g1] at he ⊢
   by_cases g2 : nx l a = l.length
   ·
    rw [if_pos g2] at he
    exact absurd rfl he
   ·
    rw [if_neg g2] at he ⊢
    by_cases g3 : (oneF (l.drop (nx l a))).err = 0
    ·
     rw [if_pos g3] at he ⊢
     by_cases g4 : c = 16384
     ·
      rw [if_pos g4]
      exact ⟨n1, n2, hstop (.inr rfl)⟩
     ·
      rw [if_neg g4] at he ⊢
      by_cases g5 : (scF l k (c + 1) (nx l a + (oneF (l.drop (nx l a))).len)).2.1 = 0
      ·
       rw [if_pos g5] at he
       exact absurd rfl he
      ·
       rw [if_neg g5]
       obtain ⟨o1, o2⟩ := oneF_len _ (drop_ne (by omega)) g3
       rw [List.length_drop] at o2
       obtain ⟨i1, i2, i3⟩ := scF_first l k (nx l a + (oneF (l.drop (nx l a))).len) (c + 1) (by omega) (by omega) g5
       simp only
       generalize (scF l k (c + 1) (nx l a + (oneF (l.drop (nx l a))).len)).2.2 = o at i1 i2 i3 ⊢
       refine ⟨by omega, i2, fun k' hk' => ?_⟩
       obtain ⟨j, rfl⟩ : ∃ j, k' = j + 1 := ⟨k' - 1, by omega⟩
       have h1 := hsp o (by omega) (.inl (by simpa using g1))
       have h2 : nx (l.take o) a = nx l a := by unfold nx at h1 ⊢; rw [h1]
       have h3 : oneF ((l.take o).drop (nx l a)) = oneF (l.drop (nx l a)) := by
        rw [take_drop]
        have hd : l.drop (nx l a) = (l.drop (nx l a)).take (oneF (l.drop (nx l a))).len ++ (l.drop (nx l a)).drop (oneF (l.drop (nx l a))).len := (List.take_append_drop _ _).symm
        have hw : ((l.drop (nx l a)).take (oneF (l.drop (nx l a))).len).length = (oneF (l.drop (nx l a))).len := by rw [List.length_take, List.length_drop]; omega
        have hl := oneF_local ((l.drop (nx l a)).take (oneF (l.drop (nx l a))).len) ((l.drop (nx l a)).drop (oneF (l.drop (nx l a))).len) (((l.drop (nx l a)).drop (oneF (l.drop (nx l a))).len).take (o - nx l a - (oneF (l.drop (nx l a))).len))
         (by intro e; rw [e] at hw; simp at hw; omega) (by rw [← hd]; exact g3) (by rw [← hd, hw]) (.inl (List.take_prefix _ _))
        rw [← hd] at hl
        exact (congrArg oneF (take_split (l.drop (nx l a)) _ (o - nx l a) (by omega))).symm.trans hl
       simp only [scF]
       rw [h1, h2, if_neg (by simp), if_neg (by rw [List.length_take]; omega), h3, if_pos g3, if_neg g4, if_pos (i3 j (by omega))]
    ·
     rw [if_neg g3]
     exact ⟨n1, n2, hstop (.inr rfl)⟩
end Go.Proofs.YtpfjkpknljigmaaDoor.Q
