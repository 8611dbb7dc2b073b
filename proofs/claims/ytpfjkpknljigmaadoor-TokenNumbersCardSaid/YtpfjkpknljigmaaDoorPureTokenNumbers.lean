/- The printed function of the law TokenNumbers answers true for every number of 32 bits. -/
import Derived.Test.YtpfjkpknljigmaaDoorPB
import Derived.Test.YtpfjkpknljigmaaDoorPS
import Derived.Test.YtpfjkpknljigmaaDoorPureTokenFirst
import Derived.Test.YtpfjkpknljigmaaDoorQx16
import Derived.Test.YtpfjkpknljigmaaDoorQx21
namespace Go.Proofs.YtpfjkpknljigmaaDoor.Q
open Go.RowKit Go.Proofs.YtpfjkpknljigmaaDoorW.PrintWords Go.Proofs.YtpfjkpknljigmaaDoorW.PrintLast Go.Proofs.YtpfjkpknljigmaaDoorW.PrintMore

set_option linter.unusedVariables false
/-! digits -/
def hx : List UInt8 := [48, 49, 50, 51, 52, 53, 54, 55, 56, 57, 97, 98, 99, 100, 101, 102]
def dig (d : Nat) : UInt8 := hx.getD d 0
def ds (b : Nat) : Nat → Nat → List UInt8
 | 0, _ => []
 | m + 1, n => if n = 0 then [] else ds b m (n / b) ++ [dig (n % b)]
theorem dig_facts (d : Nat) (h : d < 16) : hexR (dig d) = ((d : Int), true) ∧ tailU (dig d) = true ∧ hexU (dig d) = true := by
 have := List.all_eq_true.1 (show ((List.range 16).all fun d => decide (hexR (dig d) = ((d : Int), true)) && tailU (dig d) && hexU (dig d)) = true by kernel_rfl) d (List.mem_range.2 h)
 simp only [Bool.and_eq_true, decide_eq_true_eq] at this
 exact ⟨this.1.1, this.1.2, this.2⟩
theorem dig_low (d : Nat) (h : d < 10) : digU (dig d) = true ∧ dig d = UInt8.ofNat (48 + d) ∧ orx (dig d) ≠ 120 := by
 have := List.all_eq_true.1 (show ((List.range 10).all fun d => digU (dig d) && decide (dig d = UInt8.ofNat (48 + d)) && decide (orx (dig d) ≠ 120)) = true by kernel_rfl) d (List.mem_range.2 h)
 simp only [Bool.and_eq_true, decide_eq_true_eq] at this
 exact ⟨this.1.1, this.1.2, this.2⟩
theorem ds_val (b : Nat) (hb : 2 ≤ b) (hb' : b ≤ 16) : ∀ (m n : Nat), n < b ^ m → n < 8589934592 → valL b (ds b m n) 0 = some (n : Int) := by
 intro m
 induction m with
 | zero =>
  intro n h _
  have : n = 0 := by simpa using h
  subst this
  rfl
 | succ m ih =>
  intro n h hn
  simp only [ds]
  by_cases h0 : n = 0
  ·
   rw [if_pos h0, h0]; rfl
  ·
   have hd : n / b < b ^ m := by
    rw [Nat.div_lt_iff_lt_mul (by omega)]
    rw [Nat.pow_succ] at h
    exact h
   have hm : n % b < b := Nat.mod_lt _ (by omega)
   have hle : n / b ≤ n := Nat.div_le_self _ _
   rw [if_neg h0, valL_app, ih (n / b) hd (by omega), Option.bind_some]
   simp only [valL]
   rw [(dig_facts (n % b) (by omega)).1]
   simp only [if_true]
   have e : ((n / b : Nat) : Int) * (b : Int) + ((n % b : Nat) : Int) = (n : Int) := by
    have := Nat.div_add_mod n b
    rw [← Int.natCast_mul, ← Int.natCast_add, Nat.mul_comm]
    exact congrArg _ this
   rw [if_neg (by omega), e, mn_hi _ (by omega)]
theorem ds_all (b : Nat) (hb : 2 ≤ b) (p : UInt8 → Bool) (hp : ∀ d, d < b → p (dig d) = true) : ∀ (m n : Nat), (ds b m n).all p = true := by
 intro m
 induction m with
 | zero => intro n; rfl
 | succ m ih =>
  intro n
  simp only [ds]
  by_cases h0 : n = 0
  ·
   rw [if_pos h0]; rfl
  ·
   rw [if_neg h0, List.all_append, ih, List.all_cons, List.all_nil, hp _ (Nat.mod_lt _ (by omega))]; rfl
theorem ds_len (b : Nat) : ∀ (m n : Nat), (ds b m n).length ≤ m := by
 intro m
 induction m with
 | zero => intro n; exact Nat.le_refl _
 | succ m ih =>
  intro n
  simp only [ds]
  split
  ·
   exact Nat.zero_le _
  ·
   have := ih (n / b); rw [List.length_append]; simp; omega
theorem ds_ne (b m n : Nat) (h : 0 < n) : ds b (m + 1) n ≠ [] := by
 simp only [ds]
 rw [if_neg (by omega)]
 simp
theorem ds_dec : ∀ (m n : Nat), 0 < n → n < 10 ^ m → ds 10 m n = Lib.decDigits n := by
 intro m
 induction m with
 | zero => intro n h0 h; simp at h; omega
 | succ m ih =>
  intro n h0 h
  simp only [ds]
  rw [if_neg (by omega), Lib.decDigits]
  split
  ·
   rename_i h1
   have e : n / 10 = 0 := by omega
   have e2 : n % 10 = n := by omega
   rw [e, e2, (dig_low n h1).2.1]
   cases m <;> simp [ds]
  ·
   rename_i h1
   rw [Nat.pow_succ] at h
   rw [ih (n / 10) (by omega) (by omega), (dig_low (n % 10) (by omega)).2.1]

/-! the three tokens -/
theorem numTok (w body : List UInt8) (u : Bool) (n : Nat) (hb : numBody w = body) (hs : flagsF (w.drop body.length) false false = some (u, false)) (hv : (valueF body).1 = n ∧ (valueF body).2.2 = true) (h : n ≤ 4294967295)
  (hu : u = false → n > 2147483647 → (valueF body).2.1 = false) (ha : w.all tailU = true) (hd : ∃ c r, w = c :: r ∧ digU c = true) :
  IsTok w ⟨3, (number.name (u || decide ((n : Int) > 2147483647)) false).data.toList, n, w.length, 0⟩ := by
 obtain ⟨c, r, rfl, hc⟩ := hd
 obtain ⟨h1, h2, h3, _⟩ := digU_head c hc
 have htw : (c :: r).takeWhile tailU = c :: r := by
  have := tw_app (p := tailU) (c :: r) [] ha
  simpa using this
 have hnum : numF (c :: r) = (3, number.name (u || decide ((n : Int) > 2147483647)) false, (n : Int), 0, 0, 0, true) := by
  unfold numF
  rw [hb, hs]
  simp only
  unfold numTl
  rw [hv.1, hv.2, if_neg (by simp), if_neg (by omega)]
  by_cases g : u = false ∧ (n : Int) > 2147483647 ∧ (valueF body).2.1 = true
  ·
   have := hu g.1 (by omega)
   rw [this] at g
   exact absurd g.2.2 (by simp)
  ·
   rw [if_neg g]
 refine ⟨?_, rfl, rfl, by simp, head_sp (head_ne47 h1 h2)⟩
 simp only [oneF]
 rw [h3, if_neg (by simp), if_pos hc, htw, hnum, if_pos rfl]
theorem hex_tok (s : List UInt8) (n : Nat) (hne : s ≠ []) (hv : valL 16 s 0 = some (n : Int)) (hh : s.all hexU = true) (ht : s.all tailU = true) (h : n ≤ 4294967295) :
  IsTok (48 :: 120 :: s) ⟨3, (number.name (decide ((n : Int) > 2147483647)) false).data.toList, n, (48 :: 120 :: s : List UInt8).length, 0⟩ := by
 have hx : xq (48 :: 120 :: s) = true := rfl
 have hl : 2 < (48 :: 120 :: s : List UInt8).length := by
  cases s with
  | nil => exact absurd rfl hne
  | cons => simp
 have hb : numBody (48 :: 120 :: s) = 48 :: 120 :: s := by
  unfold numBody
  rw [hx, decide_eq_true hl, if_pos (by rfl)]
  have : ((48 :: 120 :: s : List UInt8).drop 2).takeWhile hexU = s := by
   have := tw_app (p := hexU) s [] hh
   simpa using this
  rw [this]
  exact List.take_of_length_le (by simp; omega)
 have hval : valueF (48 :: 120 :: s) = ((n : Int), false, true) := by
  unfold valueF
  rw [hx, if_pos rfl]
  unfold valEnd
  have : (48 :: 120 :: s : List UInt8).drop 2 = s := rfl
  rw [this, if_neg hne, hv]
 have := numTok (48 :: 120 :: s) _ false n hb (by rw [List.drop_length]; rfl) ⟨by rw [hval], by rw [hval]⟩ h (fun _ _ => by rw [hval]) (by rw [List.all_cons, List.all_cons, ht]; rfl) ⟨48, _, rfl, rfl⟩
 simpa using this
theorem oct_tok (o : List UInt8) (n : Nat) (hv : valL 8 o 0 = some (n : Int)) (hd : o.all digU = true) (hx : o.all (fun c => decide (orx c ≠ 120)) = true) (h : n ≤ 4294967295) :
  IsTok (48 :: o) ⟨3, (number.name (decide ((n : Int) > 2147483647)) false).data.toList, n, (48 :: o : List UInt8).length, 0⟩ := by
 have hxq : xq (48 :: o) = false := by
  cases o with
  | nil => rfl
  | cons c r =>
   simp only [List.all_cons, Bool.and_eq_true, decide_eq_true_eq] at hx
   simp [xq, hx.1]
 have hall : (48 :: o : List UInt8).all digU = true := by rw [List.all_cons, hd]; rfl
 have hb : numBody (48 :: o) = 48 :: o := by
  unfold numBody
  rw [hxq, Bool.and_false, if_neg (by simp)]
  have := trim_suf (48 :: o) [] [117, 85, 108, 76] rfl (by
   rw [List.all_eq_true]
   intro b hb
   rw [dig_cut b (List.all_eq_true.1 hall b hb)]; rfl)
  rwa [List.append_nil] at this
 have hval : valueF (48 :: o) = ((n : Int), false, true) := by
  unfold valueF
  rw [hxq, if_neg (by simp), if_pos (by rfl)]
  unfold valEnd
  rw [if_neg (by simp)]
  have : valL 8 (48 :: o) 0 = valL 8 o 0 := by
   simp only [valL]
   rw [show hexR 48 = (0, true) by kernel_rfl]
   simp only [if_true]
   rw [if_neg (by decide)]
   rfl
  rw [this, hv]
 have := numTok (48 :: o) _ false n hb (by rw [List.drop_length]; rfl) ⟨by rw [hval], by rw [hval]⟩ h (fun _ _ => by rw [hval]) (by
  rw [List.all_eq_true]
  exact fun b hb => (digU_head b (List.all_eq_true.1 hall b hb)).2.2.2) ⟨48, _, rfl, rfl⟩
 simpa using this
theorem dec_tok (n : Nat) (h : n ≤ 4294967295) : IsTok (Lib.decDigits n ++ [117]) ⟨3, (number.name true false).data.toList, n, (Lib.decDigits n ++ [117]).length, 0⟩ := by
 have hxq : xq (Lib.decDigits n ++ [117]) = false := by
  rcases Nat.eq_zero_or_pos n with rfl | hp
  ·
   rw [show Lib.decDigits 0 = [48] by rw [Lib.decDigits]; rfl]; rfl
  ·
   have h1 := dec_head n hp
   cases hd : Lib.decDigits n with
   | nil => exact absurd hd (dec_ne n)
   | cons b r =>
    rw [hd] at h1
    have hb : b ≠ 48 := by simpa using h1
    cases hr : r ++ [117] with
    | nil => rw [List.cons_append, hr]; rfl
    | cons y z => rw [List.cons_append, hr]; simp [xq, hb]
 have hb : numBody (Lib.decDigits n ++ [117]) = Lib.decDigits n := by
  unfold numBody
  rw [hxq, Bool.and_false, if_neg (by simp)]
  exact trim_suf _ _ _ rfl (by
   rw [List.all_eq_true]
   intro b hb
   rw [dig_cut b (List.all_eq_true.1 (dec_dig n) b hb)]; rfl)
 have hv := dec_value n (by omega)
 have hd : ∃ c r, Lib.decDigits n ++ [117] = c :: r ∧ digU c = true := by
  cases hd : Lib.decDigits n with
  | nil => exact absurd hd (dec_ne n)
  | cons b z => exact ⟨b, z ++ [117], rfl, List.all_eq_true.1 (dec_dig n) b (by rw [hd]; simp)⟩
 have := numTok (Lib.decDigits n ++ [117]) _ true n hb (by rw [List.drop_left]; rfl) hv h (fun h => by cases h) (by
  rw [List.all_append, List.all_eq_true.2 (fun b hb => (digU_head b (List.all_eq_true.1 (dec_dig n) b hb)).2.2.2)]; rfl) hd
 simpa using this

/-! the loops -/
theorem enc_dig (d : Nat) (h : d < 16) : Utf8.encode (bt (⟨#[48, 49, 50, 51, 52, 53, 54, 55, 56, 57, 97, 98, 99, 100, 101, 102]⟩ : ByteArray) (d : Int)) = B [dig d] := by
 have := List.all_eq_true.1 (show ((List.range 16).all fun d => decide ((Utf8.encode (bt (⟨#[48, 49, 50, 51, 52, 53, 54, 55, 56, 57, 97, 98, 99, 100, 101, 102]⟩ : ByteArray) (d : Int))).data.toList = [dig d])) = true by kernel_rfl) d (List.mem_range.2 h)
 rw [← B_of (Utf8.encode _), of_decide_eq_true this]
theorem enc_dig8 (d : Nat) (h : d < 8) : Utf8.encode (bt (⟨#[48, 49, 50, 51, 52, 53, 54, 55]⟩ : ByteArray) (d : Int)) = B [dig d] := by
 have := List.all_eq_true.1 (show ((List.range 8).all fun d => decide ((Utf8.encode (bt (⟨#[48, 49, 50, 51, 52, 53, 54, 55]⟩ : ByteArray) (d : Int))).data.toList = [dig d])) = true by kernel_rfl) d (List.mem_range.2 h)
 rw [← B_of (Utf8.encode _), of_decide_eq_true this]
theorem enc_dig10 (d : Nat) (h : d < 10) : Utf8.encode (bt (⟨#[48, 49, 50, 51, 52, 53, 54, 55, 56, 57]⟩ : ByteArray) (d : Int)) = B [dig d] := by
 have := List.all_eq_true.1 (show ((List.range 10).all fun d => decide ((Utf8.encode (bt (⟨#[48, 49, 50, 51, 52, 53, 54, 55, 56, 57]⟩ : ByteArray) (d : Int))).data.toList = [dig d])) = true by kernel_rfl) d (List.mem_range.2 h)
 rw [← B_of (Utf8.encode _), of_decide_eq_true this]
theorem step_nat (n b : Nat) (_ : 0 < b) (hn : n < 4294967296) : Int.tmod (n : Int) (b : Int) = ((n % b : Nat) : Int) ∧ (Int.tdiv (n : Int) (b : Int)) % 4294967296 = ((n / b : Nat) : Int) := by
 refine ⟨rfl, ?_⟩
 show ((n / b : Nat) : Int) % 4294967296 = ((n / b : Nat) : Int)
 have := Nat.div_le_self n b
 generalize n / b = q at this ⊢
 omega
theorem div_lt (n b m : Nat) (hb : 0 < b) (h : n < b ^ (m + 1)) : n / b < b ^ m := by
 rw [Nat.div_lt_iff_lt_mul hb]
 rw [Nat.pow_succ] at h
 exact h
theorem hex_loop (v : Int) (o d : ByteArray) (K : Nat) (R : Option Bool) : ∀ (m n : Nat) (acc : List UInt8) (k : Nat), n < 16 ^ m → n < 4294967296 → acc.length + m ≤ 1000 → K + m < k →
  (∀ k', K ≤ k' → mortiselaw02_TokenNumbers.l1 k' v (B (ds 16 m n ++ acc)) o d v = R) → mortiselaw02_TokenNumbers.l0 k v (B acc) o d n = R := by
 intro m
 induction m with
 | zero =>
  intro n acc k hn _ _ hk h
  obtain ⟨k, rfl⟩ : ∃ j, k = j + 1 := ⟨k - 1, by omega⟩
  have h0 : n = 0 := by simpa using hn
  subst h0
  simp only [mortiselaw02_TokenNumbers.l0]
  rw [if_neg (by omega)]
  exact h k (by omega)
 | succ m ih =>
  intro n acc k hn hn2 ha hk h
  obtain ⟨k, rfl⟩ : ∃ j, k = j + 1 := ⟨k - 1, by omega⟩
  simp only [mortiselaw02_TokenNumbers.l0]
  by_cases h0 : n = 0
  ·
   rw [if_neg (by omega)]
   have := h k (by omega)
   rwa [h0, show ds 16 (m + 1) 0 = [] from rfl, List.nil_append] at this
  ·
   obtain ⟨e1, e2⟩ := step_nat n 16 (by decide) hn2
   have e1' : Int.tmod (n : Int) 16 = ((n % 16 : Nat) : Int) := e1
   have e2' : (Int.tdiv (n : Int) 16) % 4294967296 = ((n / 16 : Nat) : Int) := e2
   rw [if_pos (by omega), e1', e2', enc_dig _ (by omega), if_pos (by omega), if_pos (by omega), B_size, B_size, if_pos (by simp only [List.length_cons, List.length_nil]; omega), B_app]
   refine ih (n / 16) _ k (div_lt n 16 m (by decide) hn) (by omega) (by simp; omega) (by omega) ?_
   intro k' hk'
   have := h k' hk'
   simp only [ds] at this
   rw [if_neg h0, List.append_assoc] at this
   exact this
theorem oct_loop (v : Int) (s d : ByteArray) (K : Nat) (R : Option Bool) : ∀ (m n : Nat) (acc : List UInt8) (k : Nat), n < 8 ^ m → n < 4294967296 → acc.length + m ≤ 1000 → K + m < k →
  (∀ k', K ≤ k' → mortiselaw02_TokenNumbers.l2 k' v s (B (ds 8 m n ++ acc)) d v = R) → mortiselaw02_TokenNumbers.l1 k v s (B acc) d n = R := by
 intro m
 induction m with
 | zero =>
  intro n acc k hn _ _ hk h
  obtain ⟨k, rfl⟩ : ∃ j, k = j + 1 := ⟨k - 1, by omega⟩
  have h0 : n = 0 := by simpa using hn
  subst h0
  simp only [mortiselaw02_TokenNumbers.l1]
  rw [if_neg (by omega)]
  exact h k (by omega)
 | succ m ih =>
  intro n acc k hn hn2 ha hk h
  obtain ⟨k, rfl⟩ : ∃ j, k = j + 1 := ⟨k - 1, by omega⟩
  simp only [mortiselaw02_TokenNumbers.l1]
  by_cases h0 : n = 0
  ·
   rw [if_neg (by omega)]
   have := h k (by omega)
   rwa [h0, show ds 8 (m + 1) 0 = [] from rfl, List.nil_append] at this
  ·
   obtain ⟨e1, e2⟩ := step_nat n 8 (by decide) hn2
   have e1' : Int.tmod (n : Int) 8 = ((n % 8 : Nat) : Int) := e1
   have e2' : (Int.tdiv (n : Int) 8) % 4294967296 = ((n / 8 : Nat) : Int) := e2
   rw [if_pos (by omega), e1', e2', enc_dig8 _ (by omega), if_pos (by omega), if_pos (by omega), B_size, B_size, if_pos (by simp only [List.length_cons, List.length_nil]; omega), B_app]
   refine ih (n / 8) _ k (div_lt n 8 m (by decide) hn) (by omega) (by simp; omega) (by omega) ?_
   intro k' hk'
   have := h k' hk'
   simp only [ds] at this
   rw [if_neg h0, List.append_assoc] at this
   exact this
theorem dec_loop (v : Int) (s o : ByteArray) (K : Nat) (R : Option Bool) : ∀ (m n : Nat) (acc : List UInt8) (k : Nat), n < 10 ^ m → n < 4294967296 → acc.length + m ≤ 1000 → K + m < k →
  (∀ k', K ≤ k' → (if v = 0 then (mortiselaw02_TokenNumbers.j3 k' v (⟨#[48]⟩ : ByteArray) o (⟨#[48]⟩ : ByteArray)) else (mortiselaw02_TokenNumbers.j3 k' v s o (B (ds 10 m n ++ acc)))) = R) → mortiselaw02_TokenNumbers.l2 k v s o (B acc) n = R := by
 intro m
 induction m with
 | zero =>
  intro n acc k hn _ _ hk h
  obtain ⟨k, rfl⟩ : ∃ j, k = j + 1 := ⟨k - 1, by omega⟩
  have h0 : n = 0 := by simpa using hn
  subst h0
  simp only [mortiselaw02_TokenNumbers.l2]
  rw [if_neg (by omega)]
  exact h k (by omega)
 | succ m ih =>
  intro n acc k hn hn2 ha hk h
  obtain ⟨k, rfl⟩ : ∃ j, k = j + 1 := ⟨k - 1, by omega⟩
  simp only [mortiselaw02_TokenNumbers.l2]
  by_cases h0 : n = 0
  ·
   rw [if_neg (by omega)]
   have := h k (by omega)
   rwa [h0, show ds 10 (m + 1) 0 = [] from rfl, List.nil_append] at this
  ·
   obtain ⟨e1, e2⟩ := step_nat n 10 (by decide) hn2
   have e1' : Int.tmod (n : Int) 10 = ((n % 10 : Nat) : Int) := e1
   have e2' : (Int.tdiv (n : Int) 10) % 4294967296 = ((n / 10 : Nat) : Int) := e2
   rw [if_pos (by omega), e1', e2', enc_dig10 _ (by omega), if_pos (by omega), if_pos (by omega), B_size, B_size, if_pos (by simp only [List.length_cons, List.length_nil]; omega), B_app]
   refine ih (n / 10) _ k (div_lt n 10 m (by decide) hn) (by omega) (by simp; omega) (by omega) ?_
   intro k' hk'
   have := h k' hk'
   simp only [ds] at this
   rw [if_neg h0, List.append_assoc] at this
   exact this

/-! the law -/
theorem j3_true (n : Nat) (hn : n < 4294967296) (s o : List UInt8) (hsl : s.length ≤ 100) (hol : o.length ≤ 100)
  (t0 : IsTok (48 :: 120 :: s) ⟨3, (number.name (decide ((n : Int) > 2147483647)) false).data.toList, n, (48 :: 120 :: s : List UInt8).length, 0⟩)
  (t1 : IsTok (48 :: o) ⟨3, (number.name (decide ((n : Int) > 2147483647)) false).data.toList, n, (48 :: o : List UInt8).length, 0⟩)
  (hdl : (Lib.decDigits n).length ≤ 100) (k : Nat) (hk : 1000 ≤ k) : mortiselaw02_TokenNumbers.j3 k n (B s) (B o) (B (Lib.decDigits n)) = some true := by
 obtain ⟨k, rfl⟩ : ∃ j, k = j + 1 := ⟨k - 1, by omega⟩
 have t2 := dec_tok n (by omega)
 generalize Lib.decDigits n = d at hdl t2 ⊢
 have hit : Items [⟨48 :: 120 :: s, [32], _⟩, ⟨48 :: o, [32], _⟩, ⟨d ++ [117], [], _⟩] [] :=
  ⟨t0, Gap.blank 32 rfl, follow_of (.inr ⟨32, _, rfl, .inr rfl⟩), t1, Gap.blank 32 rfl, follow_of (.inr ⟨32, _, rfl, .inr rfl⟩), t2, Gap.nil, follow_of (.inl rfl), Gap.nil⟩
 obtain ⟨s1, s2⟩ := (scanF_items _ [] [] Gap.nil hit).1 (by simp)
 have htx : ∀ a b c : Tk, ([] ++ tx [⟨48 :: 120 :: s, [32], a⟩, ⟨48 :: o, [32], b⟩, ⟨d ++ [117], [], c⟩] [] : List UInt8) = 48 :: 120 :: s ++ [32, 48] ++ o ++ [32] ++ d ++ [117] := fun a b c => by simp [tx]
 rw [htx] at s1 s2
 simp only [mortiselaw02_TokenNumbers.j3]
 have b1 : (⟨#[48, 120]⟩ : ByteArray) = B [48, 120] := rfl
 have b2 : (⟨#[32, 48]⟩ : ByteArray) = B [32, 48] := rfl
 have b3 : (⟨#[32]⟩ : ByteArray) = B [32] := rfl
 have b4 : (⟨#[117]⟩ : ByteArray) = B [117] := rfl
 rw [b1, b2, b3, b4, B_app, B_app, B_app, B_app, B_app, B_app]
 simp only [B_size, List.length_append, List.length_cons, List.length_nil]
 rw [if_pos (by omega), if_pos (by omega), if_pos (by omega), if_pos (by omega), if_pos (by omega), if_pos (by omega)]
 have hL : (48 :: 120 :: s ++ [32, 48] ++ o ++ [32] ++ d ++ [117] : List UInt8) = [48, 120] ++ s ++ [32, 48] ++ o ++ [32] ++ d ++ [117] := by simp
 rw [hL] at s1 s2
 rw [scan_eq, if_neg (by simp only [List.length_append, List.length_cons, List.length_nil]; omega), scanOut_ok _ s1, Option.bind_some]
 simp only
 generalize (scanF ([48, 120] ++ s ++ [32, 48] ++ o ++ [32] ++ d ++ [117])).1 = M at s2 ⊢
 obtain ⟨m0, m1, m2, m3, rfl⟩ : ∃ m0 m1 m2 m3, M = [m0, m1, m2, m3] := by
  have hl := congrArg List.length s2
  simp only [List.length_map, List.length_append, List.length_cons, List.length_nil] at hl
  match M, hl with
  | [m0, m1, m2, m3], _ => exact ⟨m0, m1, m2, m3, rfl⟩
 simp only [List.map_cons, List.map_nil, List.cons_append, List.nil_append, List.cons.injEq, and_true] at s2
 obtain ⟨p0, p1, p2, _⟩ := s2
 have f : ∀ (m : S40) (t : Tk), pl m = tkP t → m.f1 = B t.text ∧ m.f2 = t.num := fun m t h => ⟨congrArg (fun x => x.f1) h, congrArg (fun x => x.f2) h⟩
 obtain ⟨x0, y0⟩ := f _ _ p0
 obtain ⟨x1, y1⟩ := f _ _ p1
 obtain ⟨x2, y2⟩ := f _ _ p2
 simp only at x0 y0 x1 y1 x2 y2
 rw [if_neg (by decide)]
 have hlen : (([m0, m1, m2, m3] : List S40).length : Int) = 4 := rfl
 rw [hlen]
 obtain ⟨k, rfl⟩ : ∃ j, k = j + 1 := ⟨k - 1, by omega⟩
 have hb : ((4 : Int) != 4) = false := rfl
 rw [hb]
 simp only [mortiselaw02_TokenNumbers.j4]
 have r0 : rd_T40 [m0, m1, m2, m3] 0 = m0 := rfl
 have r1 : rd_T40 [m0, m1, m2, m3] 1 = m1 := rfl
 have r2 : rd_T40 [m0, m1, m2, m3] 2 = m2 := rfl
 rw [if_neg (by decide), hlen, r0, r1, r2, x0, y0, x1, y1, x2, y2, w64 _ (by omega), B_toList, B_toList]
 have hd1 : (0 : Int) < 4 := by decide
 have hd2 : (1 : Int) < 4 := by decide
 have hd3 : (2 : Int) < 4 := by decide
 have hh := heads_from k (by omega)
 by_cases g : (n : Int) > 2147483647
 ·
  rw [decide_eq_true g, if_pos g, if_pos hd1, if_pos rfl, if_pos hd2, if_pos rfl, if_pos hd3, if_pos rfl, if_pos (by rfl), if_pos (by rfl), if_pos (by rfl), hh]
  rfl
 ·
  rw [decide_eq_false g, if_neg g, if_pos hd1, if_pos rfl, if_pos hd2, if_pos rfl, if_pos hd3, if_pos rfl, if_pos (by rfl), if_pos (by rfl), if_pos (by rfl), hh]
  rfl
theorem mortiselaw02_TokenNumbers.pure (v : Int) (hv : (Lit.int .u32 v).wf = true) : ∃ k, mortiselaw02_TokenNumbers.f k v = some true := by
 have hr : 0 ≤ v ∧ v ≤ 4294967295 := by
  simp [Lit.wf, IntKind.min, IntKind.max, IntKind.signed, IntKind.bits] at hv
  omega
 obtain ⟨n, rfl⟩ : ∃ n : Nat, v = n := ⟨v.toNat, by omega⟩
 have hn : n < 4294967296 := by omega
 refine ⟨2000, ?_⟩
 unfold mortiselaw02_TokenNumbers.f
 have e0 : (⟨#[]⟩ : ByteArray) = B [] := rfl
 rw [e0]
 refine hex_loop n (B []) (B []) 1500 _ 8 n [] 2000 (by omega) hn (by decide) (by decide) (fun k1 hk1 => ?_)
 rw [List.append_nil]
 refine oct_loop n _ (B []) 1400 _ 11 n [] k1 (by omega) hn (by decide) (by omega) (fun k2 hk2 => ?_)
 rw [List.append_nil]
 refine dec_loop n _ _ 1300 _ 10 n [] k2 (by omega) hn (by decide) (by omega) (fun k3 hk3 => ?_)
 rw [List.append_nil]
 have hhex := ds_val 16 (by decide) (by decide) 8 n (by omega) (by omega)
 have hoct := ds_val 8 (by decide) (by decide) 11 n (by omega) (by omega)
 have oA := ds_all 8 (by decide) digU (fun d hd => (dig_low d (by omega)).1) 11 n
 have oB := ds_all 8 (by decide) (fun c => decide (orx c ≠ 120)) (fun d hd => decide_eq_true (dig_low d (by omega)).2.2) 11 n
 have ol := ds_len 8 11 n
 have t1 := oct_tok (ds 8 11 n) n hoct oA oB (by omega)
 by_cases h0 : n = 0
 ·
  subst h0
  rw [if_pos (by rfl)]
  have t0 := hex_tok [48] 0 (by decide) rfl rfl rfl (by decide)
  have hd0 : Lib.decDigits 0 = [48] := by rw [Lib.decDigits]; rfl
  have := j3_true 0 (by decide) [48] (ds 8 11 0) (by decide) (by omega) t0 t1 (by rw [hd0]; decide) k3 (by omega)
  rw [hd0] at this
  exact this
 ·
  rw [if_neg (by omega), ds_dec 10 n (by omega) (by omega)]
  have hA := ds_all 16 (by decide) hexU (fun d hd => (dig_facts d hd).2.2) 8 n
  have hB := ds_all 16 (by decide) tailU (fun d hd => (dig_facts d hd).2.1) 8 n
  have hl := ds_len 16 8 n
  have hdl := ds_len 10 10 n
  rw [ds_dec 10 n (by omega) (by omega)] at hdl
  exact j3_true n hn (ds 16 8 n) (ds 8 11 n) (by omega) (by omega) (hex_tok _ n (ds_ne 16 7 n (by omega)) hhex hA hB (by omega)) t1 (by omega) k3 (by omega)
end Go.Proofs.YtpfjkpknljigmaaDoor.Q
