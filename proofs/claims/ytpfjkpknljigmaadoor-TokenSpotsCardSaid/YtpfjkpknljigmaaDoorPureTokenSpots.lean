/- The printed function of the law TokenSpots answers true for every string of at most 2^47 - 4096 bytes and every int. -/
import Derived.Test.YtpfjkpknljigmaaDoorPT
import Derived.Test.YtpfjkpknljigmaaDoorQx12
import Derived.Test.YtpfjkpknljigmaaDoorQx13
import Derived.Test.YtpfjkpknljigmaaDoorQx16
import Derived.Test.YtpfjkpknljigmaaDoorQx4
import Derived.Test.YtpfjkpknljigmaaDoorQx5
namespace Go.Proofs.YtpfjkpknljigmaaDoor.Q
open Go.RowKit Go.Proofs.YtpfjkpknljigmaaDoorW.PrintWords Go.Proofs.YtpfjkpknljigmaaDoorW.PrintLast Go.Proofs.YtpfjkpknljigmaaDoorW.PrintMore

/-! places -/
def lst (s : ByteArray) (i : Nat) : Int := Lib.lastIdx s 10 i
def cnt (s : ByteArray) (i : Nat) : Int := ((s.data.toList.take i).count 10 : Nat)
theorem bt_nat (s : ByteArray) (i : Nat) (h : i < s.size) : bt s i = (s[i].toNat : Int) := by
  rw [← bt_at s i (by simpa using h)]; rfl
theorem getBang (s : ByteArray) (i : Nat) (h : i < s.size) : s.data[i]! = s[i] := by
  rw [getElem!_pos s.data i h]; rfl
theorem lst_le (s : ByteArray) : ∀ i : Nat, -1 ≤ lst s i ∧ lst s i ≤ (i : Int) - 1
  | 0 => by simp [lst, Lib.lastIdx]
  | i + 1 => by
    have := lst_le s i
    unfold lst at this ⊢
    unfold Lib.lastIdx
    split <;> omega
theorem cnt_le (s : ByteArray) (i : Nat) : 0 ≤ cnt s i ∧ cnt s i ≤ i := by
  unfold cnt
  have h1 : (s.data.toList.take i).count 10 ≤ (s.data.toList.take i).length := List.count_le_length
  rw [List.length_take] at h1
  omega
theorem lst_succ (s : ByteArray) (i : Nat) (h : i < s.size) : lst s (i + 1) = if bt s i = 10 then (i : Int) else lst s i := by
  unfold lst
  rw [Lib.lastIdx, getBang s i h, bt_nat s i h]
theorem cnt_succ (s : ByteArray) (i : Nat) (h : i < s.size) : cnt s (i + 1) = if bt s i = 10 then cnt s i + 1 else cnt s i := by
  have hl : i < s.data.toList.length := by rw [Array.length_toList]; exact h
  unfold cnt
  rw [List.take_succ_eq_append_getElem hl, List.count_append, bt_nat s i h]
  have e : s.data.toList[i] = s[i] := by simp; rfl
  rw [e]
  by_cases c : s[i] = 10
  · rw [c]; simp
  · have c' : ¬ ((s[i].toNat : Int) = 10) := fun h => c (UInt8.toNat_inj.1 (by simpa using (Int.ofNat_inj.1 h)))
    have z : List.count 10 [s[i]] = 0 := List.count_eq_zero_of_not_mem (by simpa using fun h => c h.symm)
    rw [if_neg c', z]
    simp
theorem refAt_loop (s : ByteArray) (hs : s.size ≤ 140737488355328) (n : Nat) (hn : n ≤ s.size) (o : Int) : ∀ m i : Nat, n = i + m → ∀ k, m < k →
    mortiseref02_At.l0 k s n i (1 + cnt s i) (i - lst s i) o = some (1 + cnt s n, n - lst s n, o)
  | 0, i, hi, k + 1, _ => by
    obtain rfl : n = i := by omega
    simp only [mortiseref02_At.l0]
    rw [if_neg (by omega)]
  | m + 1, i, hi, k + 1, hk => by
    have hlt : i < s.size := by omega
    have a1 := lst_le s i
    have a2 := cnt_le s i
    have ih := refAt_loop s hs n hn o m (i + 1) (by omega) k (by omega)
    simp only [Int.natCast_add, Int.natCast_one] at ih
    simp only [mortiseref02_At.l0]
    rw [if_pos (by omega), if_pos (by omega), if_pos (by omega), w64 _ (by omega), w64 _ (by omega), w64 _ (by omega)]
    rw [lst_succ s i hlt, cnt_succ s i hlt] at ih
    by_cases c : bt s (i : Int) = 10
    · rw [if_pos c]
      rw [if_pos c, if_pos c] at ih
      rw [← ih]; congr 1 <;> omega
    · rw [if_neg c]
      rw [if_neg c, if_neg c] at ih
      rw [← ih]; congr 1; omega
theorem lastIdx_extract (s : ByteArray) (n : Nat) (hn : n ≤ s.size) : ∀ k : Nat, k ≤ n → Lib.lastIdx (s.extract 0 n) 10 k = Lib.lastIdx s 10 k
  | 0, _ => rfl
  | k + 1, hk => by
    have hsz : (s.extract 0 n).size = n := by rw [ByteArray.size_extract]; omega
    rw [Lib.lastIdx, Lib.lastIdx, lastIdx_extract s n hn k (by omega), getBang _ k (by omega), getBang s k (by omega)]
    rw [show (s.extract 0 n)[k]'(by omega) = s[k]'(by omega) by simp [ByteArray.getElem_extract]]
theorem At_eq (s : ByteArray) (off : Int) (hs : s.size ≤ 140737488355328) : ∃ r, token_At.f s off = some r ∧ ∀ k, s.size < k → mortiseref02_At.f k s off = some r := by
  obtain ⟨n, hn, e⟩ : ∃ n : Nat, n ≤ s.size ∧ mx 0 (mn off (s.size : Int)) = n := by
    refine ⟨(mx 0 (mn off (s.size : Int))).toNat, ?_, ?_⟩ <;> unfold mx mn <;> split <;> split <;> omega
  unfold token_At.f mortiseref02_At.f
  rw [e]
  have a1 := lst_le s n
  have a2 := cnt_le s n
  have hsz : (s.extract 0 n).size = n := by rw [ByteArray.size_extract]; omega
  rw [if_pos (by omega), if_pos (by omega)]
  have e1 : strings_LastIndexByte.f (s.extract 0 ((n : Int)).toNat) 10 = some (lst s n) := by
    unfold strings_LastIndexByte.f
    rw [Int.toNat_natCast, if_pos (by omega)]
    unfold Lib.lastIndexByte lst
    rw [hsz, lastIdx_extract s n hn n (Nat.le_refl _)]
  have e2 : strings_Count.f (s.extract 0 ((n : Int)).toNat) (⟨#[10]⟩ : ByteArray) = some (cnt s n) := by
    unfold strings_Count.f
    rw [dif_pos (by decide), Int.toNat_natCast]
    unfold Lib.countByte cnt
    congr 2
    rw [ByteArray.data_extract]
    simp
    rfl
  rw [e1, e2]
  simp only [Option.bind_some]
  refine ⟨_, rfl, fun k hk => ?_⟩
  have := refAt_loop s hs n hn n n 0 (by omega) k (by omega)
  rw [w64 _ (by omega), w64 _ (by omega)]
  have z1 : lst s 0 = -1 := rfl
  have z2 : cnt s 0 = 0 := rfl
  rw [z1, z2] at this
  simpa using this

/-! names and words -/
theorem kw_cases {p : ByteArray → Bool} (h : (KW.all fun l => p ⟨l.toArray⟩) = true) (s : ByteArray) (hs : kw s = true) : p s = true := by
  have hm : s.toList ∈ KW := of_decide_eq_true hs
  have := List.all_eq_true.1 h _ hm
  rw [Lib.toList_data] at this
  simpa using this
theorem refName_loop (s : ByteArray) (hs : s.size ≤ 63) : ∀ m i : Nat, s.size = i + m → ∀ k, m + 40 < k →
    mortiseref02_Name.l0 k s i = some ((List.range m).all (fun j => tailB (bt s (i + j : Nat))) && !kw s)
  | 0, i, hi, k + 1, hk => by
    simp only [mortiseref02_Name.l0]
    rw [if_neg (by omega), refkey_eq s k (by omega)]
    simp
  | m + 1, i, hi, k + 1, hk => by
    have ih := refName_loop s hs m (i + 1) (by omega) k (by omega)
    simp only [Int.natCast_add, Int.natCast_one] at ih
    have e : ((List.range (m + 1)).all fun j => tailB (bt s (i + j : Nat))) = (tailB (bt s i) && (List.range m).all fun j => tailB (bt s (i + 1 + j : Nat))) := by
      rw [List.range_succ_eq_map, List.all_cons, List.all_map]
      congr 2
      funext j
      simp only [Function.comp]
      congr 2
      omega
    rw [e]
    simp only [mortiseref02_Name.l0]
    rw [if_pos (by omega), if_pos (by omega), w64 _ (by omega), (letter_eq s i).2, (digit_eq s i).2, ih]
    simp only [Option.bind_some, tailB]
    cases letB (bt s (i : Int)) <;> cases digB (bt s (i : Int)) <;> simp
/-- What token.one does at a letter. -/
theorem one_letter (s : ByteArray) (hs : s.size ≤ 140737488355328) (h0 : 0 < s.size) (hl : letB (bt s 0) = true) (k : Nat) :
    ∃ n : Nat, n ≤ s.size ∧ (∀ j : Nat, j < n → tailB (bt s j) = true) ∧ (n < s.size → tailB (bt s n) = false) ∧
      token_one.f k s = some (if n > 63 then (0, ⟨#[]⟩, 0, 0, 0, 0, 0, 22) else (if kw (s.extract 0 n) = true then 2 else 1, s.extract 0 n, 0, 0, 0, 0, (n : Int), 0)) := by
  obtain ⟨n, h1, h2, h3, h4⟩ := run_tail s hs
  refine ⟨n, h2, h3, h4, ?_⟩
  unfold token_one.f
  rw [if_pos (by omega), (letter_eq s 0).1, hl]
  simp only [Option.bind_some, if_true]
  rw [h1]
  simp only [Option.bind_some]
  by_cases c : n > 63
  · rw [if_pos (by omega), if_pos c]
  · rw [if_neg (by omega), if_neg c, if_pos (by omega), if_pos (by omega), keyword_eq, Int.toNat_natCast]
    simp only [Option.bind_some]
    cases kw (s.extract 0 n) <;> simp
theorem alone_eq (s : ByteArray) (hs : s.size ≤ 140737488355328) (k : Nat) (c : Int) :
    token_alone.f k s c = some (decide (0 < s.size) && letB (bt s 0) && (List.range s.size).all (fun j => tailB (bt s j)) && decide (s.size ≤ 63) && ((if kw s = true then (2 : Int) else 1) == c)) := by
  unfold token_alone.f
  by_cases h0 : s.toList = []
  · rw [if_pos h0]
    have : s.size = 0 := by rw [Lib.toList_data] at h0; rw [← ByteArray.size_data, ← Array.length_toList, h0]; rfl
    simp [this]
  · have hp : 0 < s.size := by
      rcases Nat.eq_zero_or_pos s.size with h | h
      · exact absurd (by rw [Lib.toList_data]; exact List.eq_nil_of_length_eq_zero (by rw [Array.length_toList]; exact h)) h0
      · exact h
    rw [if_neg h0, if_pos (by omega), (letter_eq s 0).1]
    simp only [Option.bind_some]
    cases hl : letB (bt s 0)
    · simp
    · simp only [if_true]
      obtain ⟨n, h1, h2, h3, h4⟩ := one_letter s hs hp hl k
      rw [h4]
      simp only [Option.bind_some]
      by_cases g : n > 63
      · rw [if_pos g, if_neg (by simp)]
        rw [decide_eq_false (p := s.size ≤ 63) (by omega)]
        simp
      · rw [if_neg g]
        simp only [if_true]
        by_cases e : n = s.size
        · subst e
          have ex : s.extract 0 s.size = s := by simp
          have al : ((List.range s.size).all fun j => tailB (bt s j)) = true := List.all_eq_true.2 fun j hj => h2 j (List.mem_range.1 hj)
          rw [if_pos rfl, ex, al, decide_eq_true (p := s.size ≤ 63) (by omega), decide_eq_true hp]
          simp
        · have al : ((List.range s.size).all fun j => tailB (bt s j)) = false := by
            rw [Bool.eq_false_iff]
            intro hh
            have := List.all_eq_true.1 hh n (List.mem_range.2 (by omega))
            rw [h3 (by omega)] at this
            exact absurd this (by simp)
          rw [if_neg (by omega), al]
          simp
theorem kw_good (s : ByteArray) (h : kw s = true) : (decide (0 < s.size) && letB (bt s 0) && (List.range s.size).all (fun j => tailB (bt s j)) && decide (s.size ≤ 63)) = true :=
  kw_cases (p := fun s => decide (0 < s.size) && letB (bt s 0) && (List.range s.size).all (fun j => tailB (bt s j)) && decide (s.size ≤ 63)) (by rw [KW_eq]; kernel_rfl) s h
theorem Word_eq (s : ByteArray) (hs : s.size ≤ 140737488355328) (k : Nat) (hk : 30 ≤ k) : token_Word.f k s = some (kw s) ∧ mortiseref02_Word.f k s = some (kw s) := by
  unfold token_Word.f mortiseref02_Word.f
  rw [alone_eq s hs, refkey_eq s k hk]
  refine ⟨?_, rfl⟩
  cases h : kw s
  · simp
  · have := kw_good s h
    rw [this]
    simp
theorem Name_eq (s : ByteArray) (hs : s.size ≤ 140737488355328) (k : Nat) (hk : 200 ≤ k) : ∃ b, token_Name.f k s = some b ∧ mortiseref02_Name.f k s = some b := by
  unfold token_Name.f mortiseref02_Name.f
  rw [alone_eq s hs]
  refine ⟨_, rfl, ?_⟩
  obtain ⟨k, rfl⟩ : ∃ j, k = j + 1 := ⟨k - 1, by omega⟩
  by_cases h0 : s.size = 0
  · rw [if_pos (by omega)]
    simp [mortiseref02_Name.j0, h0]
  · rw [if_neg (by omega)]
    by_cases h1 : s.size > 63
    · rw [if_pos (by omega), decide_eq_false (p := s.size ≤ 63) (by omega)]
      simp [mortiseref02_Name.j0]
    · rw [if_neg (by omega), if_pos (by omega), (letter_eq s 0).2]
      simp only [Option.bind_some, mortiseref02_Name.j0]
      rw [decide_eq_true (p := s.size ≤ 63) (by omega), decide_eq_true (p := 0 < s.size) (by omega)]
      cases letB (bt s 0)
      · simp
      · have := refName_loop s (by omega) s.size 0 (by omega) k (by omega)
        simp only [Nat.zero_add, Int.natCast_zero] at this
        rw [Bool.not_true, if_neg (by simp), this]
        cases kw s <;> simp
theorem heads_true : mortiselaw02_heads.f 200 = some true := by kernel_rfl
theorem leO_mono {α : Type} {F : Nat → Option α} (h : ∀ k, LeO (F k) (F (k + 1))) {r : α} : ∀ (n k : Nat), F k = some r → F (k + n) = some r
  | 0, _, e => e
  | n + 1, k, e => h _ _ (leO_mono h n k e)
theorem heads_from (k : Nat) (hk : 200 ≤ k) : mortiselaw02_heads.f k = some true := by
  have := leO_mono (F := mortiselaw02_heads.f) (fun k => mortiselaw02_heads.mono k) (k - 200) 200 heads_true
  rwa [show 200 + (k - 200) = k by omega] at this
theorem mortiselaw02_TokenSpots.pure (s : ByteArray) (off : Int) (hs : s.size ≤ 140737488351232) (_w : (Lit.int .i64 off).wf = true) : ∃ k, mortiselaw02_TokenSpots.f k s off = some true := by
  refine ⟨s.size + 200, ?_⟩
  obtain ⟨⟨x, y, z⟩, h1, h2⟩ := At_eq s off (by omega)
  obtain ⟨b, h3, h4⟩ := Name_eq s (by omega) (s.size + 200) (by omega)
  obtain ⟨h5, h6⟩ := Word_eq s (by omega) (s.size + 200) (by omega)
  unfold mortiselaw02_TokenSpots.f
  rw [h1, h2 _ (by omega), h3, h4, h5, h6, heads_from _ (by omega)]
  simp
end Go.Proofs.YtpfjkpknljigmaaDoor.Q
