/- The printed function of the law TokenSilent answers true for every string of at most 2^47 - 4096 bytes and every list of bytes. -/
import Derived.Test.YtpfjkpknljigmaaDoorPB
import Derived.Test.YtpfjkpknljigmaaDoorPS
import Derived.Test.YtpfjkpknljigmaaDoorPureTokenFirst
import Derived.Test.YtpfjkpknljigmaaDoorQx14
import Derived.Test.YtpfjkpknljigmaaDoorQx16
import Derived.Test.YtpfjkpknljigmaaDoorQx18
import Derived.Test.YtpfjkpknljigmaaDoorQx7
namespace Go.Proofs.YtpfjkpknljigmaaDoor.Q
open Go.RowKit Go.Proofs.YtpfjkpknljigmaaDoorW.PrintWords Go.Proofs.YtpfjkpknljigmaaDoorW.PrintLast Go.Proofs.YtpfjkpknljigmaaDoorW.PrintMore

/-! tokens of a text may be -/
theorem qF_len : ∀ (k : Nat) (q : UInt8) (l : List UInt8) (p : List Int × Nat), qF k q l = some p → p.1.length + 1 ≤ p.2
 | 0, _, _, _, h => by simp [qF] at h
 | _ + 1, _, [], _, h => by simp [qF] at h
 | k + 1, q, c :: r, p, h => by
  simp only [qF] at h
  split at h
  ·
   cases h; simp
  ·
   split at h
   ·
    cases h
   ·
    split at h
    ·
     split at h
     ·
      obtain ⟨p', h1, rfl⟩ := Option.map_eq_some_iff.1 h
      have := qF_len k q _ p' h1
      simp only [List.length_cons]; omega
     ·
      cases h
    ·
     obtain ⟨p', h1, rfl⟩ := Option.map_eq_some_iff.1 h
     have := qF_len k q _ p' h1
     simp only [List.length_cons]; omega
theorem valL_nonneg (base : Int) (hb : 0 ≤ base) : ∀ (l : List UInt8) (v : Int), 0 ≤ v → ∀ x, valL base l v = some x → 0 ≤ x
 | [], v, hv, x, h => by simp only [valL] at h; cases h; exact hv
 | b :: r, v, hv, x, h => by
  simp only [valL] at h
  split at h
  ·
   split at h
   ·
    cases h
   ·
    refine valL_nonneg base hb r _ ?_ x h
    have := (hexR_range b).1
    have h2 := Int.mul_nonneg hv hb
    unfold mn
    split <;> omega
  ·
   cases h
theorem valEnd_nonneg (l : List UInt8) (base : Int) (hb : 0 ≤ base) (ten : Bool) : 0 ≤ (valEnd l base ten).1 := by
 unfold valEnd
 split
 ·
  exact Int.le_refl 0
 ·
  cases h : valL base l 0 with
  | none => exact Int.le_refl 0
  | some v => exact valL_nonneg base hb l 0 (Int.le_refl 0) v h
theorem value_nonneg (l : List UInt8) : 0 ≤ (valueF l).1 := by
 unfold valueF
 split
 ·
  exact valEnd_nonneg _ _ (by decide) _
 ·
  split
  ·
   exact valEnd_nonneg _ _ (by decide) _
  ·
   exact valEnd_nonneg _ _ (by decide) _
theorem numTl_may (body : List UInt8) (u l : Bool) (h : (numTl body u l).2.2.2.2.2.2 = true) : (numTl body u l).1 = 3 ∧ may32F (numTl body u l).2.1.data.toList (numTl body u l).2.2.1 = true ∧ (numTl body u l).2.1.size ≤ 13 := by
 have h0 := value_nonneg body
 unfold numTl at h ⊢
 by_cases c1 : (valueF body).2.2 = false
 ·
  rw [if_pos c1] at h; cases h
 ·
  rw [if_neg c1] at h ⊢
  by_cases c2 : (valueF body).1 > 4294967295
  ·
   rw [if_pos c2] at h; cases h
  ·
   rw [if_neg c2] at h ⊢
   by_cases c3 : u = false ∧ (valueF body).1 > 2147483647 ∧ (valueF body).2.1 = true
   ·
    rw [if_pos c3] at h; cases h
   ·
    rw [if_neg c3]
    generalize (valueF body).1 = v at h0 c2
    refine ⟨rfl, ?_, ?_⟩
    ·
     by_cases g : v > 2147483647
     ·
      rw [decide_eq_true g, Bool.or_true]
      simp only
      cases l
      ·
       show may32F tUInt v = true
       unfold may32F
       rw [if_neg (by decide), if_pos (.inl rfl), Bool.and_eq_true, decide_eq_true_iff, decide_eq_true_iff]
       omega
      ·
       show may32F tULong v = true
       unfold may32F
       rw [if_neg (by decide), if_pos (.inr rfl), Bool.and_eq_true, decide_eq_true_iff, decide_eq_true_iff]
       omega
     ·
      rw [decide_eq_false g, Bool.or_false]
      simp only
      cases u <;> cases l
      ·
       show may32F tInt v = true
       unfold may32F
       rw [if_pos (.inl rfl), Bool.and_eq_true, decide_eq_true_iff, decide_eq_true_iff]
       omega
      ·
       show may32F tLong v = true
       unfold may32F
       rw [if_pos (.inr rfl), Bool.and_eq_true, decide_eq_true_iff, decide_eq_true_iff]
       omega
      ·
       show may32F tUInt v = true
       unfold may32F
       rw [if_neg (by decide), if_pos (.inl rfl), Bool.and_eq_true, decide_eq_true_iff, decide_eq_true_iff]
       omega
      ·
       show may32F tULong v = true
       unfold may32F
       rw [if_neg (by decide), if_pos (.inr rfl), Bool.and_eq_true, decide_eq_true_iff, decide_eq_true_iff]
       omega
    ·
     simp only
     cases (u || decide (v > 2147483647)) <;> cases l <;> decide
theorem i8_range (x : Int) : wrap64 (IntKind.i8.wrap x) ≥ -128 ∧ wrap64 (IntKind.i8.wrap x) ≤ 127 := by
 have e : IntKind.i8.wrap x = (x + 128) % 256 - 128 := by
  simp [IntKind.wrap, IntKind.bits, IntKind.signed]
  try omega
 rw [e, w64 _ (by omega)]
 omega
theorem oneF_may (d : List UInt8) (h0 : d ≠ []) (he : (oneF d).err = 0) : mayF (oneF d).kind (oneF d).text (oneF d).num = true ∧ (oneF d).kind ≠ 0 ∧ (oneF d).text.length ≤ d.length + 13 := by
 obtain ⟨o1, o2⟩ := oneF_len d h0 he
 cases d with
 | nil => exact absurd rfl h0
 | cons c r =>
  have hloc : ∀ w, w = (c :: r).take (oneF (c :: r)).len → oneF w = oneF (c :: r) := by
   intro w hw
   have hwl : w.length = (oneF (c :: r)).len := by rw [hw, List.length_take]; omega
   have hcat : w ++ (c :: r).drop (oneF (c :: r)).len = c :: r := by rw [hw, List.take_append_drop]
   have := oneF_local w ((c :: r).drop (oneF (c :: r)).len) [] (by intro e; rw [e] at hwl; simp at hwl; omega) (by rw [hcat]; exact he) (by rw [hcat, hwl]) (.inl (List.nil_prefix ..))
   rw [List.append_nil, hcat] at this
   exact this
  by_cases c1 : letU c = true
  ·
   have hw := hloc _ rfl
   simp only [oneF, if_pos c1] at he o1 ⊢
   by_cases d1 : ((c :: r).takeWhile tailU).length > 63
   ·
    rw [if_pos d1] at he; exact absurd he (by simp [tkBad])
   ·
    rw [if_neg d1] at he o1 ⊢
    have hone : oneF (c :: r) = ⟨if kw (B ((c :: r).takeWhile tailU)) = true then 2 else 1, (c :: r).takeWhile tailU, 0, ((c :: r).takeWhile tailU).length, 0⟩ := by simp only [oneF, if_pos c1, if_neg d1]
    rw [hone] at hw
    simp only at hw o1 ⊢
    have htk : (c :: r).take ((c :: r).takeWhile tailU).length = (c :: r).takeWhile tailU := (List.prefix_iff_eq_take.1 (List.takeWhile_prefix tailU (l := c :: r))).symm
    rw [htk] at hw
    have htl : ((c :: r).takeWhile tailU).length ≤ (c :: r).length := (List.takeWhile_prefix _).length_le
    have hal : ∀ kd : Int, (if kw (B ((c :: r).takeWhile tailU)) = true then (2 : Int) else 1) = kd → aloneF ((c :: r).takeWhile tailU) kd = true := by
     intro kd hkd
     cases hx : (c :: r).takeWhile tailU with
     | nil => rw [hx] at o1; simp at o1
     | cons c' r' =>
      have hc' : c' = c := by
       have := List.takeWhile_prefix tailU (l := c :: r)
       rw [hx] at this
       obtain ⟨z, hz⟩ := this
       exact (List.cons.inj hz).1
      rw [hx] at hw hkd
      simp only [aloneF]
      rw [hw]
      simp only [hkd]
      simp [hc', c1]
    by_cases k1 : kw (B ((c :: r).takeWhile tailU)) = true
    ·
     rw [if_pos k1] at hal ⊢
     refine ⟨?_, by decide, by omega⟩
     unfold mayF
     rw [if_neg (by decide), if_neg (by decide), if_pos rfl, hal 2 rfl]
     rfl
    ·
     rw [if_neg k1] at hal ⊢
     refine ⟨?_, by decide, by omega⟩
     unfold mayF
     rw [if_neg (by decide), if_pos rfl, hal 1 rfl]
     rfl
  ·
   by_cases c2 : digU c = true
   ·
    simp only [oneF, if_neg c1, if_pos c2] at he ⊢
    by_cases d1 : (numF ((c :: r).takeWhile tailU)).2.2.2.2.2.2 = true
    ·
     rw [if_pos d1]
     simp only
     have hn : ∃ body u l, numF ((c :: r).takeWhile tailU) = numTl body u l := by
      unfold numF at d1 ⊢
      cases hf : flagsF (((c :: r).takeWhile tailU).drop (numBody ((c :: r).takeWhile tailU)).length) false false with
      | none => rw [hf] at d1; cases d1
      | some p => exact ⟨_, _, _, rfl⟩
     obtain ⟨body, u, l, hn⟩ := hn
     rw [hn] at d1 ⊢
     obtain ⟨a1, a2, a3⟩ := numTl_may body u l d1
     rw [a1]
     refine ⟨?_, by decide, ?_⟩
     ·
      unfold mayF
      rw [if_neg (by decide), if_neg (by decide), if_neg (by decide), if_pos rfl]
      exact a2
     ·
      rw [Array.length_toList]
      have : (numTl body u l).2.1.data.size ≤ 13 := a3
      omega
    ·
     rw [if_neg d1] at he; exact absurd he (by simp [tkBad])
   ·
    by_cases c3 : c = 39
    ·
     simp only [oneF, if_neg c1, if_neg c2, if_pos c3] at he ⊢
     cases hQ : qF (r.length + 1) 39 r with
     | none => rw [hQ] at he; exact absurd he (by simp [tkBad])
     | some p =>
      rw [hQ] at he
      simp only at he ⊢
      by_cases d1 : p.1.length = 1
      ·
       rw [if_pos d1]
       refine ⟨?_, (by decide : (4 : Int) ≠ 0), by simp⟩
       obtain ⟨b1, b2⟩ := i8_range (rd p.1 0)
       show mayF 4 [] (wrap64 (IntKind.i8.wrap (rd p.1 0))) = true
       unfold mayF
       rw [if_neg (by decide), if_neg (by decide), if_neg (by decide), if_neg (by decide), if_pos rfl, decide_eq_true b1, decide_eq_true b2]
       rfl
      ·
       rw [if_neg d1] at he; exact absurd he (by simp [tkBad])
    ·
     by_cases c4 : c = 34
     ·
      simp only [oneF, if_neg c1, if_neg c2, if_neg c3, if_pos c4] at he ⊢
      cases hQ : qF (r.length + 1) 34 r with
      | none => rw [hQ] at he; exact absurd he (by simp [tkBad])
      | some p =>
       simp only
       refine ⟨rfl, by decide, ?_⟩
       have h1 := qF_len _ _ _ _ hQ
       have h2 := qF_le _ _ _ _ hQ
       have h3 : (strL p.1).length = p.1.length := by simp [strL, strOfNums]
       simp only [List.length_cons]
       omega
     ·
      have hw := hloc _ rfl
      simp only [oneF, if_neg c1, if_neg c2, if_neg c3, if_neg c4] at he ⊢
      by_cases d1 : signF (c :: r) = []
      ·
       rw [if_pos d1] at he; exact absurd he (by simp [tkBad])
      ·
       rw [if_neg d1]
       simp only
       obtain ⟨s1, s2⟩ := signF_pre (c :: r)
       have hcat : signF (c :: r) ++ (c :: r).drop (signF (c :: r)).length = c :: r := by
        have := List.take_append_drop (signF (c :: r)).length (c :: r)
        rwa [← s2] at this
       have hs := sign_local (signF (c :: r)) ((c :: r).drop (signF (c :: r)).length) [] d1 (by rw [hcat]) (.inl (List.nil_prefix ..))
       rw [List.append_nil] at hs
       refine ⟨?_, by decide, by omega⟩
       unfold mayF
       rw [if_neg (by decide), if_neg (by decide), if_neg (by decide), if_neg (by decide), if_neg (by decide), if_neg (by decide), if_pos rfl, hs, beq_self_eq_true, beq_eq_false_iff_ne.2 d1]
       simp
/-- The tokens of a text: each may be, none but the last is the end. -/
theorem scF_may (l : List UInt8) : ∀ (k a c : Nat), a ≤ l.length → c ≤ 16384 → (scF l k c a).2.1 = 0 →
  ∃ R E, (scF l k c a).1 = R ++ [E] ∧ pl E = endP ∧ c + R.length ≤ 16384 ∧ ∀ t ∈ R, mayF t.f0 t.f1.data.toList t.f2 = true ∧ t.f0 ≠ 0 ∧ t.f1.size ≤ l.length + 13 := by
 intro k
 induction k with
 | zero => intro a c _ _ h; exact absurd h (by decide : ¬ (99 : Int) = 0)
 | succ k ih =>
  intro a c ha hc h
  obtain ⟨n1, n2⟩ := nx_le l a ha
  simp only [scF] at h ⊢
  by_cases g1 : (sp (l.drop a)).2 = true
  ·
   rw [if_pos g1] at h; exact absurd h (by decide : ¬ (25 : Int) = 0)
  ·
   rw [if_neg g1] at h ⊢
   by_cases g2 : nx l a = l.length
   ·
    rw [if_pos g2]
    exact ⟨[], _, rfl, rfl, by simpa using hc, fun t ht => by simp at ht⟩
   ·
    rw [if_neg g2] at h ⊢
    have hlt : nx l a < l.length := by omega
    by_cases g3 : (oneF (l.drop (nx l a))).err = 0
    ·
     rw [if_pos g3] at h ⊢
     obtain ⟨m1, m2, m3⟩ := oneF_may _ (drop_ne hlt) g3
     obtain ⟨o1, o2⟩ := oneF_len _ (drop_ne hlt) g3
     rw [List.length_drop] at o2 m3
     clear g3
     generalize oneF (l.drop (nx l a)) = u at m1 m2 m3 o1 o2 h ⊢
     generalize nx l a = x at n1 n2 hlt o1 o2 m3 h ⊢
     by_cases g4 : c = 16384
     ·
      rw [if_pos g4] at h; exact absurd h (by decide : ¬ (23 : Int) = 0)
     ·
      rw [if_neg g4] at h ⊢
      by_cases g5 : (scF l k (c + 1) (x + u.len)).2.1 = 0
      ·
       rw [if_pos g5]
       obtain ⟨R, E, e1, e2, e3, e4⟩ := ih (x + u.len) (c + 1) (by omega) (by omega) g5
       refine ⟨tkS l x u :: R, E, by rw [e1]; rfl, e2, by simp only [List.length_cons]; omega, ?_⟩
       intro t ht
       rcases List.mem_cons.1 ht with rfl | ht
       ·
        refine ⟨?_, m2, ?_⟩
        ·
         show mayF u.kind (B u.text).data.toList u.num = true
         rw [B_data]; exact m1
        ·
         show (B u.text).size ≤ _
         rw [B_size]; omega
       ·
        exact e4 t ht
      ·
       rw [if_neg g5] at h; exact absurd h g5
    ·
     rw [if_neg g3] at h; exact absurd h g3

/-! gaps -/
def gapsL : List (List UInt8) := [[32], [10], [47, 42, 34, 42, 47], [9, 13, 11, 12, 32], [47, 47, 32, 39, 10], [47, 42, 42, 42, 47, 32, 47, 42, 42, 47]]
theorem gap_all : ∀ g ∈ gapsL, Gap g := by
 intro g hg
 simp only [gapsL, List.mem_cons, List.not_mem_nil, or_false] at hg
 have bl : ∀ b : UInt8, Q.blank b = true → Gap [b] := Gap.blank
 have cm : ∀ c : List UInt8, noEnd c = true → Gap (47 :: 42 :: (c ++ [42, 47])) := by
  intro c hc r n e h
  have := Sp.block c r n e hc h
  have e1 : 47 :: 42 :: (c ++ [42, 47]) ++ r = 47 :: 42 :: (c ++ 42 :: 47 :: r) := by simp
  have e2 : (47 :: 42 :: (c ++ [42, 47]) : List UInt8).length = c.length + 4 := by simp
  rw [e1, e2]
  exact this
 rcases hg with rfl | rfl | rfl | rfl | rfl | rfl
 ·
  exact bl 32 rfl
 ·
  exact bl 10 rfl
 ·
  exact cm [34] rfl
 ·
  exact (bl 9 rfl).app ((bl 13 rfl).app ((bl 11 rfl).app ((bl 12 rfl).app (bl 32 rfl))))
 ·
  intro r n e h
  have := Sp.line [32, 39] r n e (by decide) h
  exact this
 ·
  exact (cm [42] rfl).app ((bl 32 rfl).app (cm [] rfl))
theorem gap_at (j : Nat) (hj : j < 6) : ∃ g ∈ gapsL, rdOf ByteArray.empty ([(⟨#[32]⟩ : ByteArray), (⟨#[10]⟩ : ByteArray), (⟨#[47, 42, 34, 42, 47]⟩ : ByteArray), (⟨#[9, 13, 11, 12, 32]⟩ : ByteArray), (⟨#[47, 47, 32, 39, 10]⟩ : ByteArray), (⟨#[47, 42, 42, 42, 47, 32, 47, 42, 42, 47]⟩ : ByteArray)] : List ByteArray) (j : Int) = B g ∧ g.length ≤ 10 := by
 have : j = 0 ∨ j = 1 ∨ j = 2 ∨ j = 3 ∨ j = 4 ∨ j = 5 := by omega
 rcases this with rfl | rfl | rfl | rfl | rfl | rfl
 ·
  exact ⟨[32], by simp [gapsL], rfl, by decide⟩
 ·
  exact ⟨[10], by simp [gapsL], rfl, by decide⟩
 ·
  exact ⟨[47, 42, 34, 42, 47], by simp [gapsL], rfl, by decide⟩
 ·
  exact ⟨[9, 13, 11, 12, 32], by simp [gapsL], rfl, by decide⟩
 ·
  exact ⟨[47, 47, 32, 39, 10], by simp [gapsL], rfl, by decide⟩
 ·
  exact ⟨[47, 42, 42, 42, 47, 32, 47, 42, 42, 47], by simp [gapsL], rfl, by decide⟩

/-! the loop -/
def Good (is : List It) : Prop := ∀ i ∈ is, IsTok i.w i.t ∧ Gap i.g ∧ ∃ z, i.g = 32 :: z
theorem good_items (is : List It) (e : List UInt8) (h : Good is) (he : Gap e) : Items is e := by
 induction is with
 | nil => exact he
 | cons i is ih =>
  obtain ⟨h1, h2, z, h3⟩ := h i (by simp)
  exact ⟨h1, h2, follow_of (.inr ⟨32, z ++ tx is e, by rw [h3]; rfl, .inr rfl⟩), ih (fun j hj => h j (by simp [hj]))⟩
theorem tx_end (is : List It) (e : List UInt8) : tx is e = tx is [] ++ e := by
 induction is with
 | nil => rfl
 | cons i is ih => simp only [tx]; rw [ih]; simp
theorem tx_snoc (is : List It) (i : It) : tx (is ++ [i]) [] = tx is [] ++ (i.w ++ i.g) := by
 induction is with
 | nil => simp [tx]
 | cons j is ih => simp only [List.cons_append, tx]; rw [ih]; simp
theorem silent_heads (k : Nat) (hk : 200 ≤ k) : ((mortiselaw02_heads.f k).bind fun t => some t) = some true := by
 rw [heads_from k hk]; rfl
theorem gap10 : Gap [10] := Gap.blank 10 rfl
theorem silent_end (M R : List S40) (E : S40) (hM : M = R ++ [E]) (hE : pl E = endP) (hR : R.length ≤ 16384) (marks : List Int) (gs : List ByteArray) (is : List It) (e : List UInt8) (hg : Good is) (hge : Gap e)
  (hlen : (10 :: tx is e : List UInt8).length < 60000) (hmap : is.map (fun i => tkP i.t) = R.map pl) (i : Int) (k : Nat) (hk : 100000 ≤ k) : mortiselaw02_TokenSilent.j1 k marks M gs (B (10 :: tx is e)) i false = some true := by
 obtain ⟨k, rfl⟩ : ∃ j, k = j + 1 := ⟨k - 1, by omega⟩
 have hn : is.length = R.length := by
  have := congrArg List.length hmap
  rwa [List.length_map, List.length_map] at this
 obtain ⟨f1, _⟩ := scanF_items is e [10] gap10 (good_items is e hg hge)
 obtain ⟨s1, s2⟩ := f1 (by omega)
 simp only [List.cons_append, List.nil_append] at s1 s2
 have hMl : (scanF (10 :: tx is e)).1.length = is.length + 1 := by
  have := congrArg List.length s2
  rwa [List.length_map, List.length_append, List.length_map] at this
 have hML : M.length = R.length + 1 := by rw [hM, List.length_append]; rfl
 simp only [mortiselaw02_TokenSilent.j1]
 rw [if_neg (by decide), B_size, if_neg (by omega), scan_eq, if_neg (by omega), scanOut_ok _ s1, Option.bind_some]
 simp only
 rw [if_pos (by decide), plain_eq M (by omega) _ (by omega), Option.bind_some, plain_eq _ (by omega) _ (by omega), Option.bind_some]
 have hMe : M.map pl = (scanF (10 :: tx is e)).1.map pl := by
  rw [s2, hmap, hM, List.map_append, List.map_cons, List.map_nil, hE]
 rw [hMe, Same_eq _ (by rw [List.length_map]; omega) _ (by rw [List.length_map]; omega), Option.bind_some, if_pos rfl, silent_heads _ (by omega)]
theorem silent_big (M : List S40) (marks : List Int) (gs : List ByteArray) (x : ByteArray) (h : (x.size : Int) ≥ 60000) (i : Int) (k : Nat) (hk : 300 ≤ k) : mortiselaw02_TokenSilent.j1 k marks M gs x i false = some true := by
 obtain ⟨k, rfl⟩ : ∃ j, k = j + 1 := ⟨k - 1, by omega⟩
 simp only [mortiselaw02_TokenSilent.j1]
 rw [if_neg (by decide), if_pos h, silent_heads _ (by omega)]
theorem silent_last (M R : List S40) (E : S40) (hM : M = R ++ [E]) (hE : pl E = endP) (hR : R.length ≤ 16384) (marks : List Int) (gs : List ByteArray) (is : List It) (e : List UInt8) (hg : Good is) (hge : Gap e)
  (hmap : is.map (fun i => tkP i.t) = R.map pl) (i : Nat) (hi : i = M.length) (k : Nat) (hk : 100001 ≤ k) : mortiselaw02_TokenSilent.l0 k marks M gs (B (10 :: tx is e)) i = some true := by
 obtain ⟨k, rfl⟩ : ∃ j, k = j + 1 := ⟨k - 1, by omega⟩
 simp only [mortiselaw02_TokenSilent.l0]
 rw [if_neg (by omega)]
 by_cases h : ((B (10 :: tx is e)).size : Int) ≥ 60000
 ·
  exact silent_big _ _ _ _ h _ _ (by omega)
 ·
  rw [B_size] at h
  exact silent_end M R E hM hE hR marks gs is e hg hge (by omega) hmap _ _ (by omega)
def gapsB : List ByteArray := [(⟨#[32]⟩ : ByteArray), (⟨#[10]⟩ : ByteArray), (⟨#[47, 42, 34, 42, 47]⟩ : ByteArray), (⟨#[9, 13, 11, 12, 32]⟩ : ByteArray), (⟨#[47, 47, 32, 39, 10]⟩ : ByteArray), (⟨#[47, 42, 42, 42, 47, 32, 47, 42, 42, 47]⟩ : ByteArray)]
/-- One round: the text gets the token's writing, a blank and some gap. -/
theorem silent_step (M : List S40) (marks : List Int) (hw : ∀ x ∈ marks, 0 ≤ x ∧ x ≤ 255) (t : List UInt8) (ht : t.length < 60000) (i : Nat) (hi : i < M.length) (hML : M.length ≤ 16385)
  (hm : mayF M[i].f0 M[i].f1.data.toList M[i].f2 = true) (hs : M[i].f1.size ≤ 65549) (k : Nat) (hk : 140000 ≤ k)
  (next : ∀ g ∈ gapsL, mortiselaw02_TokenSilent.l0 k marks M gapsB (B (t ++ (writtenL M[i].f0 M[i].f1.data.toList M[i].f2 ++ 32 :: g))) ((i + 1 : Nat) : Int) = some true) :
  mortiselaw02_TokenSilent.l0 (k + 2) marks M gapsB (B t) i = some true := by
 simp only [mortiselaw02_TokenSilent.l0]
 rw [if_pos (by omega), B_size, decide_eq_true (p := (t.length : Int) < 60000) (by omega)]
 simp only [mortiselaw02_TokenSilent.j1]
 have hlen : M[i].f1.data.toList.length ≤ 65549 := by rw [Array.length_toList]; exact hs
 have hwr := write_eq k M[i].f0 M[i].f1.data.toList (by omega) M[i].f2 M[i].f3.f0 M[i].f3.f1 M[i].f3.f2 (by omega)
 rw [B_of M[i].f1, if_pos hm] at hwr
 have hwl := written_len _ _ _ hm
 rw [if_pos (by decide), if_pos (by omega), if_pos (by omega), rd_at M i hi, hwr, Option.bind_some]
 simp only
 rw [show mortiselaw02_num.f 0 = some 0 from rfl, Option.bind_some, if_pos rfl]
 generalize writtenL M[i].f0 M[i].f1.data.toList M[i].f2 = w at hwl next ⊢
 have e32 : (⟨#[32]⟩ : ByteArray) = B [32] := rfl
 have fin : ∀ j : Nat, j < 6 → (if ((B t ++ B w) ++ (⟨#[32]⟩ : ByteArray)).size + (rdOf ByteArray.empty gapsB (j : Int)).size ≤ 9223372036854775807 then (mortiselaw02_TokenSilent.l0 k marks M gapsB (((B t ++ B w) ++ (⟨#[32]⟩ : ByteArray)) ++ (rdOf ByteArray.empty gapsB (j : Int))) (wrap64 ((i : Int) + 1))) else (none)) = some true := by
  intro j hj
  obtain ⟨g, g1, g2, g3⟩ := gap_at j hj
  have g2' : rdOf ByteArray.empty gapsB (j : Int) = B g := g2
  rw [g2', e32, B_app, B_app, B_app, B_size, B_size, if_pos (by simp only [List.length_append, List.length_cons, List.length_nil]; omega), w64 _ (by omega)]
  have := next g g1
  simp only [Int.natCast_add, Int.natCast_one] at this
  rw [← this]
  congr 2
  simp
 have hgl : gapsB.length = 6 := rfl
 have c1 : (B t).size + (B w).size ≤ 9223372036854775807 := by rw [B_size, B_size]; omega
 have c2 : (B t ++ B w).size + 1 ≤ 9223372036854775807 := by rw [B_app, B_size, List.length_append]; omega
 by_cases hmk : (i : Int) < (marks.length : Int)
 ·
  rw [if_pos hmk, hgl, if_neg (by decide), if_pos c1, if_pos c2]
  have hmi : i < marks.length := by omega
  have hr : rd marks (i : Int) = marks[i] := by simp [rd, hmi]
  obtain ⟨m0, m1⟩ := hw marks[i] (List.getElem_mem hmi)
  rw [hr, w64 _ (by omega)]
  obtain ⟨j, hj1, hj2⟩ : ∃ j : Nat, Int.tmod marks[i] ((6 : Nat) : Int) = (j : Int) ∧ j < 6 := by
   refine ⟨(marks[i] % 6).toNat, ?_, by omega⟩
   rw [Int.tmod_eq_emod_of_nonneg m0]
   omega
  rw [hj1, if_pos (by omega), if_pos (by omega)]
  exact fin j hj2
 ·
  rw [if_neg hmk, if_pos c1, if_pos c2, if_pos (by rw [hgl]; decide)]
  exact fin 0 (by decide)
theorem silent_loop (M R : List S40) (E : S40) (hM : M = R ++ [E]) (hE : pl E = endP) (hR : R.length ≤ 16384) (hmay : ∀ t ∈ R, mayF t.f0 t.f1.data.toList t.f2 = true ∧ t.f0 ≠ 0 ∧ t.f1.size ≤ 65549)
  (marks : List Int) (hw : ∀ x ∈ marks, 0 ≤ x ∧ x ≤ 255) : ∀ (m i : Nat), R.length = i + m → ∀ (is : List It), Good is → is.map (fun i => tkP i.t) = (R.take i).map pl → ∀ k, 140005 + 2 * m ≤ k →
  mortiselaw02_TokenSilent.l0 k marks M gapsB (B (10 :: tx is [])) i = some true := by
 have hML : M.length = R.length + 1 := by rw [hM, List.length_append]; rfl
 have hbig : ∀ (i : Nat), i < M.length → ∀ (x : ByteArray), ¬ (x.size : Int) < 60000 → ∀ k, 400 ≤ k → mortiselaw02_TokenSilent.l0 k marks M gapsB x i = some true := by
  intro i hi x hx k hk
  obtain ⟨k, rfl⟩ : ∃ j, k = j + 1 := ⟨k - 1, by omega⟩
  simp only [mortiselaw02_TokenSilent.l0]
  rw [if_pos (by omega), decide_eq_false hx]
  exact silent_big _ _ _ _ (by omega) _ _ (by omega)
 intro m
 induction m with
 | zero =>
  intro i hi is hg hmap k hk
  have hiR : i = R.length := by omega
  have hilt : i < M.length := by omega
  by_cases hsz : ((B (10 :: tx is [])).size : Int) < 60000
  ·
   rw [B_size] at hsz
   have hME : M[i] = E := by
    have : M[i]? = some E := by rw [hM, hiR, List.getElem?_concat_length]
    rw [List.getElem?_eq_getElem hilt] at this
    exact Option.some.inj this
   have hE0 : E.f0 = 0 := congrArg (fun x => x.f0) hE
   have hE1 : E.f1 = B [] := congrArg (fun x => x.f1) hE
   have hE2 : E.f2 = 0 := congrArg (fun x => x.f2) hE
   obtain ⟨k, rfl⟩ : ∃ j, k = j + 2 := ⟨k - 2, by omega⟩
   refine silent_step M marks hw (10 :: tx is []) (by omega) i hilt (by omega) ?_ ?_ k (by omega) ?_
   ·
    rw [hME, hE0, hE1, hE2, B_data]; rfl
   ·
    rw [hME, hE1, B_size]; simp
   ·
    intro g hg'
    have hwE : writtenL M[i].f0 M[i].f1.data.toList M[i].f2 = [] := by rw [hME, hE0, hE1, hE2, B_data]; rfl
    rw [hwE, List.nil_append]
    have ht : (10 :: tx is [] : List UInt8) ++ 32 :: g = 10 :: tx is (32 :: g) := by rw [tx_end is (32 :: g)]; rfl
    rw [ht]
    have hgap : Gap (32 :: g) := (Gap.blank 32 rfl).app (gap_all g hg')
    refine silent_last M R E hM hE hR marks gapsB is (32 :: g) hg hgap ?_ (i + 1) (by omega) k (by omega)
    rw [hmap, hiR, List.take_length]
  ·
   exact hbig i hilt _ hsz k (by omega)
 | succ m ih =>
  intro i hi is hg hmap k hk
  have hiR : i < R.length := by omega
  have hilt : i < M.length := by omega
  by_cases hsz : ((B (10 :: tx is [])).size : Int) < 60000
  ·
   rw [B_size] at hsz
   have hMR : M[i] = R[i] := by
    have : M[i]? = some R[i] := by rw [hM, List.getElem?_append_left hiR, List.getElem?_eq_getElem hiR]
    rw [List.getElem?_eq_getElem hilt] at this
    exact Option.some.inj this
   obtain ⟨r1, r2, r3⟩ := hmay R[i] (List.getElem_mem hiR)
   obtain ⟨k, rfl⟩ : ∃ j, k = j + 2 := ⟨k - 2, by omega⟩
   refine silent_step M marks hw (10 :: tx is []) (by omega) i hilt (by omega) (by rw [hMR]; exact r1) (by rw [hMR]; exact r3) k (by omega) ?_
   intro g hg'
   rw [hMR]
   have hgap : Gap (32 :: g) := (Gap.blank 32 rfl).app (gap_all g hg')
   have ht : (10 :: tx is [] : List UInt8) ++ (writtenL R[i].f0 R[i].f1.data.toList R[i].f2 ++ 32 :: g) = 10 :: tx (is ++ [⟨writtenL R[i].f0 R[i].f1.data.toList R[i].f2, 32 :: g, ⟨R[i].f0, R[i].f1.data.toList, R[i].f2, (writtenL R[i].f0 R[i].f1.data.toList R[i].f2).length, 0⟩⟩]) [] := by
    rw [tx_snoc]; rfl
   rw [ht]
   refine ih (i + 1) (by omega) _ ?_ ?_ k (by omega)
   ·
    intro j hj
    rcases List.mem_append.1 hj with hj | hj
    ·
     exact hg j hj
    ·
     simp only [List.mem_singleton] at hj
     subst hj
     exact ⟨may_tok _ _ _ r1 r2, hgap, g, rfl⟩
   ·
    rw [List.map_append, hmap, List.take_succ_eq_append_getElem hiR, List.map_append]
    congr 1 <;> simp only [List.map_cons, List.map_nil, tkP, pl, B_of]
  ·
   exact hbig i hilt _ hsz k (by omega)
theorem mortiselaw02_TokenSilent.pure (s : ByteArray) (marks : List Int) (hs : s.size ≤ 140737488351232) (hw : ∀ x ∈ marks, 0 ≤ x ∧ x ≤ 255) : ∃ k, mortiselaw02_TokenSilent.f k s marks = some true := by
 refine ⟨200000, ?_⟩
 obtain ⟨l, rfl⟩ : ∃ l, s = B l := ⟨_, (B_of s).symm⟩
 unfold mortiselaw02_TokenSilent.f
 rw [scan_eq]
 have herr : ∀ e : Int, 20 ≤ e → e ≤ 26 → ((mortiselaw02_num.f e).bind fun t => (if t ≥ 20 then ((mortiselaw02_num.f e).bind fun t => (if t ≤ 26 then ((mortiselaw02_heads.f 200000).bind fun t => (some t)) else (none))) else (none))) = some true := by
  intro e h1 h2
  rw [show mortiselaw02_num.f e = some e from rfl, Option.bind_some, if_pos h1, Option.bind_some, if_pos h2, silent_heads _ (by decide)]
 by_cases hl : l.length > 65536
 ·
  rw [if_pos hl, Option.bind_some]
  simp only
  rw [if_pos (by decide)]
  exact herr 24 (by decide) (by decide)
 ·
  rw [if_neg hl]
  by_cases he : (scanF l).2.1 = 0
  ·
   rw [scanOut_ok l he, Option.bind_some]
   simp only
   rw [if_neg (by decide)]
   obtain ⟨R, E, e1, e2, e3, e4⟩ := scF_may l (l.length + 2) 0 0 (Nat.zero_le _) (by decide) he
   have := silent_loop (scanF l).1 R E e1 e2 (by omega) (fun t ht => by obtain ⟨a, b, c⟩ := e4 t ht; exact ⟨a, b, by omega⟩) marks hw R.length 0 (by omega) [] (fun i hi => by simp at hi) rfl 200000 (by omega)
   exact this
  ·
   rw [scanOut_err l he, Option.bind_some]
   simp only
   have hr := scF_err l (l.length + 2) 0 0 (Nat.zero_le _) (by omega)
   have hr' : 20 ≤ (scanF l).2.1 ∧ (scanF l).2.1 ≤ 26 := by
    rcases hr with h | ⟨h1, h2, _⟩
    ·
     exact absurd h he
    ·
     exact ⟨h1, h2⟩
   have hb : ((scanF l).2.1 == 0) = false := by rw [beq_eq_false_iff_ne]; exact he
   rw [hb, if_pos (by rfl)]
   exact herr _ hr'.1 hr'.2
end Go.Proofs.YtpfjkpknljigmaaDoor.Q
