/- Tokens that are written, and what the lexer makes of a row of written tokens with gaps between: functions of lists of bytes. -/
import Derived.Test.YtpfjkpknljigmaaDoorPL4
import Derived.Lib.ItoaMem
namespace Go.Proofs.YtpfjkpknljigmaaDoor.Q
open Go.RowKit Go.Proofs.YtpfjkpknljigmaaDoorW.PrintWords Go.Proofs.YtpfjkpknljigmaaDoorW.PrintLast Go.Proofs.YtpfjkpknljigmaaDoorW.PrintMore

theorem strL_nums (l : List UInt8) : strL (l.map fun b => (b.toNat : Int)) = l := by
 simp [strL, strOfNums, Function.comp_def]

/-! what one token's text is -/
structure IsTok (w : List UInt8) (t : Tk) : Prop where
 one : oneF w = t
 err : t.err = 0
 len : t.len = w.length
 ne : w ≠ []
 sp : ∀ r, Follow [] r → Sp (w ++ r) 0 false
def headOK : List UInt8 → Bool
 | [] => false
 | c :: r => !blank c && (c != 47 || r == [] || r == [61])
theorem follow_nil {r : List UInt8} (h : Follow [] r) : r = [] ∨ ∃ b t, r = b :: t ∧ (b = 10 ∨ b = 32) := by
 rcases h with h | ⟨r0, b, t, h0, h1, h2⟩
 ·
  left; exact List.prefix_nil.1 h
 ·
  right
  rw [List.prefix_nil.1 h0] at h1
  exact ⟨b, t, h1, h2⟩
theorem follow_of {r : List UInt8} (h : r = [] ∨ ∃ b t, r = b :: t ∧ (b = 10 ∨ b = 32)) : Follow [] r := by
 rcases h with h | ⟨b, t, h1, h2⟩
 ·
  left; rw [h]; exact List.prefix_refl _
 ·
  right; exact ⟨[], b, t, List.prefix_refl _, h1, h2⟩
theorem head_sp {w : List UInt8} (h : headOK w = true) (r : List UInt8) (hr : Follow [] r) : Sp (w ++ r) 0 false := by
 cases w with
 | nil => exact absurd h (by decide)
 | cons c w =>
  simp only [headOK, Bool.and_eq_true, Bool.or_eq_true, Bool.not_eq_true', bne_iff_ne, beq_iff_eq] at h
  obtain ⟨h1, h2⟩ := h
  have hp : ∀ y : UInt8, (y = 47 ∨ y = 42) → [47, y].isPrefixOf (c :: (w ++ r)) = false := by
   intro y hy
   rw [Bool.eq_false_iff]
   intro g
   obtain ⟨g1, r', g2⟩ := (pre_two _ _ _ _).1 g
   rcases h2 with (h2 | h2) | h2
   ·
    exact h2 g1
   ·
    subst h2
    rw [List.nil_append] at g2
    rcases follow_nil hr with h3 | ⟨b, t, h3, h4⟩
    ·
     rw [h3] at g2; cases g2
    ·
     rw [h3] at g2
     cases g2
     rcases hy with rfl | rfl <;> rcases h4 with h4 | h4 <;> exact absurd h4 (by decide)
   ·
    subst h2
    rw [List.cons_append] at g2
    cases g2
    rcases hy with hy | hy <;> exact absurd hy (by decide)
  exact .stop c _ h1 (hp 47 (.inl rfl)) (hp 42 (.inr rfl))
theorem letU_head (c : UInt8) : letU c = true → blank c = false ∧ c ≠ 47 := by
 have := allU8 (p := fun c => !letU c || (!blank c && c != 47)) (by kernel_rfl) c
 intro h
 simpa [h] using this
theorem digU_head (c : UInt8) : digU c = true → blank c = false ∧ c ≠ 47 ∧ letU c = false ∧ tailU c = true := by
 have := allU8 (p := fun c => !digU c || (!blank c && c != 47 && !letU c && tailU c)) (by kernel_rfl) c
 intro h
 simp [h] at this
 obtain ⟨⟨⟨a, b⟩, c⟩, d⟩ := this
 exact ⟨a, b, c, d⟩
theorem head_ne47 {c : UInt8} {r : List UInt8} (h1 : blank c = false) (h2 : c ≠ 47) : headOK (c :: r) = true := by simp [headOK, h1, h2]

/-! names -/
theorem name_tok {w : List UInt8} {c : UInt8} {r : List UInt8} (hw : w = c :: r) (hc : letU c = true) (he : (oneF w).err = 0) (hl : (oneF w).len = w.length) :
  IsTok w (oneF w) ∧ (oneF w).text = w ∧ (oneF w).num = 0 ∧ ((oneF w).kind = 1 ∨ (oneF w).kind = 2) := by
 subst hw
 refine ⟨⟨rfl, he, hl, by simp, head_sp (head_ne47 (letU_head c hc).1 (letU_head c hc).2)⟩, ?_⟩
 simp only [oneF, if_pos hc] at he hl ⊢
 split at he
 ·
  exact absurd he (by simp [tkBad])
 ·
  rename_i d
  rw [if_neg d] at hl ⊢
  simp only at hl ⊢
  refine ⟨?_, trivial, ?_⟩
  ·
   have h1 := List.prefix_iff_eq_take.1 (List.takeWhile_prefix tailU (l := c :: r))
   rw [h1, hl, List.take_length]
  ·
   split
   ·
    right; rfl
   ·
    left; rfl

/-! signs -/
def signOK : List UInt8 → Bool
 | [] => false
 | c :: r => !letU c && !digU c && c != 39 && c != 34 && headOK (c :: r)
theorem signs_ok : signsL.all (fun x => signOK x.data.toList) = true := by kernel_rfl
theorem marks_ok : marksL.all (fun c => signOK [c]) = true := by kernel_rfl
theorem sign_cases (w : List UInt8) (h : signF w = w) (hw : w ≠ []) : signOK w = true := by
 unfold signF at h
 cases c : signsL.find? (fun x => x.data.toList.isPrefixOf w) with
 | some x =>
  rw [c] at h
  simp only at h
  have := List.all_eq_true.1 signs_ok x (List.mem_of_find?_eq_some c)
  rwa [h] at this
 | none =>
  rw [c] at h
  simp only at h
  cases w with
  | nil => exact absurd rfl hw
  | cons b r =>
   by_cases g : 0 ≤ Lib.indexByte marksL ((b :: r).headD 0)
   ·
    rw [if_pos g] at h
    simp only [List.headD_cons] at g
    simp only [List.take_succ_cons, List.take_zero] at h
    have hr : r = [] := (List.cons.inj h).2.symm
    subst hr
    rcases indexByte_split marksL b with ⟨h1, _⟩ | ⟨x, y, h1, _, _⟩
    ·
     rw [h1] at g; exact absurd g (by decide)
    ·
     exact List.all_eq_true.1 marks_ok b (by rw [h1]; simp)
   ·
    rw [if_neg g] at h
    exact absurd h.symm hw
theorem sign_tok (w : List UInt8) (h : signF w = w) (hw : w ≠ []) : IsTok w ⟨6, w, 0, w.length, 0⟩ := by
 have hk := sign_cases w h hw
 cases w with
 | nil => exact absurd rfl hw
 | cons c r =>
  simp only [signOK, Bool.and_eq_true, Bool.not_eq_true', bne_iff_ne] at hk
  obtain ⟨⟨⟨⟨h1, h2⟩, h3⟩, h4⟩, h5⟩ := hk
  refine ⟨?_, rfl, rfl, by simp, head_sp h5⟩
  simp only [oneF, h1, h2, h3, h4, h, if_false]
  simp

/-! quotes -/
def esc1 (q c : UInt8) : List UInt8 :=
 if c = 10 then [92, 110] else if c = q ∨ c = 92 then [92, c] else if 32 ≤ c.toNat ∧ c.toNat ≤ 126 then [c] else [92, 48 + c / 64, 48 + c / 8 % 8, 48 + c % 8]
def octOK (c : UInt8) : Bool :=
 decide (Lib.indexByte [97, 98, 102, 110, 114, 116, 118, 92, 39, 34, 63] (48 + c / 64) < 0) && (48 + c / 64 : UInt8) != 120 && octU (48 + c / 64) && octU (48 + c / 8 % 8) && octU (48 + c % 8) && decide (octval [48 + c / 64, 48 + c / 8 % 8, 48 + c % 8] 0 = (c.toNat : Int))
theorem oct_ok (c : UInt8) : octOK c = true := allU8 (p := octOK) (by kernel_rfl) c
theorem esc_oct (c : UInt8) (r : List UInt8) : escL ((48 + c / 64) :: (48 + c / 8 % 8) :: (48 + c % 8) :: r) = ((c.toNat : Int), 3, true) := by
 have h := oct_ok c
 simp only [octOK, Bool.and_eq_true, decide_eq_true_eq, bne_iff_ne] at h
 obtain ⟨⟨⟨⟨⟨h1, h2⟩, h3⟩, h4⟩, h5⟩, h6⟩ := h
 have hb := c.toNat_lt
 generalize (48 + c / 64 : UInt8) = a at h1 h2 h3 h6 ⊢
 generalize (48 + c / 8 % 8 : UInt8) = b at h4 h6 ⊢
 generalize (48 + c % 8 : UInt8) = d at h5 h6 ⊢
 have hn : escN (a :: b :: d :: r) = 3 := by
  unfold escN
  simp only [List.takeWhile_cons, h3, h4, h5, if_true, List.length_cons]
  omega
 simp only [escL]
 rw [if_neg (by omega), if_neg h2, hn]
 simp only [List.take_succ_cons, List.take_zero, h6]
 rw [decide_eq_true (p := (c.toNat : Int) ≤ 255) (by omega), Int.emod_eq_of_lt (by omega) (by omega)]
 rfl
theorem esc_own (c : UInt8) (hc : c = 39 ∨ c = 34 ∨ c = 92) (r : List UInt8) : escL (c :: r) = ((c.toNat : Int), 1, true) := by
 rcases hc with rfl | rfl | rfl <;> rfl
theorem esc_n (r : List UInt8) : escL (110 :: r) = (10, 1, true) := rfl
theorem qF_esc (k : Nat) (q c : UInt8) (hq : q = 39 ∨ q = 34) (r : List UInt8) : qF (k + 1) q (esc1 q c ++ r) = (qF k q r).map (fun p => ((c.toNat : Int) :: p.1, p.2 + (esc1 q c).length)) := by
 have q1 : (92 : UInt8) ≠ q := by rcases hq with rfl | rfl <;> decide
 unfold esc1
 by_cases h1 : c = 10
 ·
  subst h1
  rw [if_pos rfl]
  simp only [List.cons_append, List.nil_append, qF]
  rw [if_neg q1, if_neg (by decide), if_pos trivial, esc_n]
  simp
 ·
  rw [if_neg h1]
  by_cases h2 : c = q ∨ c = 92
  ·
   rw [if_pos h2]
   have hc : c = 39 ∨ c = 34 ∨ c = 92 := by
    rcases h2 with h2 | h2
    ·
     rcases hq with h | h
     ·
      exact .inl (h2.trans h)
     ·
      exact .inr (.inl (h2.trans h))
    ·
     exact .inr (.inr h2)
   simp only [List.cons_append, List.nil_append, qF]
   rw [if_neg q1, if_neg (by decide), if_pos trivial, esc_own c hc]
   simp
  ·
   rw [if_neg h2]
   simp only [not_or] at h2
   by_cases h3 : 32 ≤ c.toNat ∧ c.toNat ≤ 126
   ·
    rw [if_pos h3]
    simp only [List.cons_append, List.nil_append, qF]
    rw [if_neg h2.1, if_neg h1, if_neg h2.2]
    rfl
   ·
    rw [if_neg h3]
    simp only [List.cons_append, List.nil_append, qF]
    rw [if_neg q1, if_neg (by decide), if_pos trivial, esc_oct]
    simp
def insideL (q : UInt8) (s : List UInt8) : List UInt8 := s.flatMap (esc1 q)
theorem esc1_pos (q c : UInt8) : 1 ≤ (esc1 q c).length := by
 unfold esc1
 split
 ·
  simp
 ·
  split
  ·
   simp
  ·
   split <;> simp
theorem inside_len (q : UInt8) (s : List UInt8) : s.length ≤ (insideL q s).length := by
 induction s with
 | nil => simp
 | cons c s ih =>
  have := esc1_pos q c
  simp only [insideL, List.flatMap_cons, List.length_append, List.length_cons] at ih ⊢
  omega
theorem qF_inside (q : UInt8) (hq : q = 39 ∨ q = 34) (s r : List UInt8) : ∀ k, s.length < k → qF k q (insideL q s ++ q :: r) = some (s.map (fun b => (b.toNat : Int)), (insideL q s).length + 1) := by
 induction s with
 | nil =>
  intro k hk
  obtain ⟨k, rfl⟩ : ∃ j, k = j + 1 := ⟨k - 1, by omega⟩
  simp [insideL, qF]
 | cons c s ih =>
  intro k hk
  simp only [List.length_cons] at hk
  obtain ⟨k, rfl⟩ : ∃ j, k = j + 1 := ⟨k - 1, by omega⟩
  have e : insideL q (c :: s) = esc1 q c ++ insideL q s := rfl
  rw [e, List.append_assoc, qF_esc k q c hq, ih k (by omega)]
  simp
  omega
def quotedL (q : UInt8) (s : List UInt8) : List UInt8 := q :: (insideL q s ++ [q])
theorem quoted_len (q : UInt8) (s : List UInt8) : (quotedL q s).length = (insideL q s).length + 2 := by simp [quotedL]
theorem str_tok (s : List UInt8) : IsTok (quotedL 34 s) ⟨5, s, 0, (quotedL 34 s).length, 0⟩ := by
 refine ⟨?_, rfl, rfl, by simp [quotedL], head_sp (by rfl)⟩
 have hq := qF_inside 34 (.inr rfl) s [] ((insideL 34 s ++ [34]).length + 1) (by have := inside_len 34 s; rw [List.length_append]; omega)
 simp only [quotedL, oneF]
 rw [if_neg (by decide), if_neg (by decide), if_neg (by decide), if_pos trivial, hq]
 simp only [strL_nums]
 simp
theorem chr_tok (c : UInt8) : IsTok (quotedL 39 [c]) ⟨4, [], wrap64 (IntKind.i8.wrap (c.toNat : Int)), (quotedL 39 [c]).length, 0⟩ := by
 refine ⟨?_, rfl, rfl, by simp [quotedL], head_sp (by rfl)⟩
 have hq := qF_inside 39 (.inl rfl) [c] [] ((insideL 39 [c] ++ [39]).length + 1) (by have := inside_len 39 [c]; rw [List.length_append]; omega)
 simp only [quotedL, oneF]
 rw [if_neg (by decide), if_neg (by decide), if_pos trivial, hq]
 simp [rd]

/-! numbers -/
theorem valL_app (base : Int) (a b : List UInt8) : ∀ v, valL base (a ++ b) v = (valL base a v).bind (valL base b) := by
 induction a with
 | nil => intro v; rfl
 | cons c a ih =>
  intro v
  simp only [List.cons_append, valL]
  split
  ·
   split
   ·
    rfl
   ·
    exact ih _
  ·
   rfl
theorem dig_val (d : Nat) (h : d < 10) : digU (UInt8.ofNat (48 + d)) = true ∧ hexR (UInt8.ofNat (48 + d)) = ((d : Int), true) := by
 have := List.all_eq_true.1 (show ((List.range 10).all fun d => digU (UInt8.ofNat (48 + d)) && decide (hexR (UInt8.ofNat (48 + d)) = ((d : Int), true))) = true by kernel_rfl) d (List.mem_range.2 h)
 simpa using this
theorem mn_hi (x : Int) (h : x < 8589934592) : mn 8589934592 x = x := by unfold mn; rw [if_pos h]
theorem dec_val : ∀ (n : Nat), n < 8589934592 → valL 10 (Lib.decDigits n) 0 = some (n : Int) := by
 intro n
 induction n using Nat.strongRecOn with
 | ind n ih =>
  intro hn
  rw [Lib.decDigits]
  split
  ·
   rename_i h
   simp only [valL]
   rw [(dig_val n h).2]
   simp only [if_true]
   rw [if_neg (by omega), mn_hi _ (by omega)]
   congr 1
   omega
  ·
   rename_i h
   rw [valL_app, ih (n / 10) (by omega) (by omega), Option.bind_some]
   simp only [valL]
   rw [(dig_val (n % 10) (by omega)).2]
   simp only [if_true]
   rw [if_neg (by omega), mn_hi _ (by omega)]
   congr 1
   omega
theorem dec_dig : ∀ (n : Nat), (Lib.decDigits n).all digU = true := by
 intro n
 induction n using Nat.strongRecOn with
 | ind n ih =>
  rw [Lib.decDigits]
  split
  ·
   rename_i h
   rw [List.all_cons, List.all_nil, (dig_val n h).1]; rfl
  ·
   rename_i h
   rw [List.all_append, ih (n / 10) (by omega)]
   rw [List.all_cons, List.all_nil, (dig_val (n % 10) (by omega)).1]; rfl
theorem dec_ne (n : Nat) : Lib.decDigits n ≠ [] := by
 rw [Lib.decDigits]
 split <;> simp
theorem dec_head : ∀ (n : Nat), 0 < n → (Lib.decDigits n).head? ≠ some 48 := by
 intro n
 induction n using Nat.strongRecOn with
 | ind n ih =>
  intro hn
  rw [Lib.decDigits]
  split
  ·
   rename_i h
   have := List.all_eq_true.1 (show ((List.range 10).all fun d => d == 0 || (UInt8.ofNat (48 + d) != 48)) = true by kernel_rfl) n (List.mem_range.2 h)
   simp at this
   rcases this with h | h
   ·
    omega
   ·
    simpa using h
  ·
   rename_i h
   have := ih (n / 10) (by omega) (by omega)
   rw [List.head?_append]
   cases hd : (Lib.decDigits (n / 10)).head? with
   | none => exact absurd (List.head?_eq_none_iff.1 hd) (dec_ne _)
   | some b =>
    rw [hd] at this
    simpa using this
def sufL (u l : Bool) : List UInt8 := (if u = true then [85] else []) ++ (if l = true then [76] else [])
theorem trim_suf (d s cs : List UInt8) (hs : s.all (fun b => cs.contains b) = true) (hd : d.all (fun b => !cs.contains b) = true) : Lib.trimRightS (d ++ s) cs = d := by
 unfold Lib.trimRightS
 rw [List.reverse_append]
 have h1 : (s.reverse ++ d.reverse).dropWhile (fun x => cs.contains x) = d.reverse.dropWhile (fun x => cs.contains x) := by
  have : ∀ x ∈ s.reverse, cs.contains x = true := fun x hx => List.all_eq_true.1 hs x (List.mem_reverse.1 hx)
  generalize s.reverse = z at this
  induction z with
  | nil => rfl
  | cons b z ih =>
   rw [List.cons_append, List.dropWhile_cons, if_pos (this b (by simp))]
   exact ih (fun x hx => this x (by simp [hx]))
 have h2 : d.reverse.dropWhile (fun x => cs.contains x) = d.reverse := by
  have : ∀ x ∈ d.reverse, cs.contains x = false := fun x hx => by simpa using List.all_eq_true.1 hd x (List.mem_reverse.1 hx)
  cases hr : d.reverse with
  | nil => rfl
  | cons b z => rw [List.dropWhile_cons, if_neg (by rw [this b (by rw [hr]; simp)]; simp)]
 rw [h1, h2, List.reverse_reverse]
theorem dig_cut (c : UInt8) : digU c = true → ([117, 85, 108, 76] : List UInt8).contains c = false := by
 have := allU8 (p := fun c => !digU c || !([117, 85, 108, 76] : List UInt8).contains c) (by kernel_rfl) c
 intro h
 simpa [h] using this
theorem suf_flags (u l : Bool) : flagsF (sufL u l) false false = some (u, l) := by cases u <;> cases l <;> rfl
theorem suf_cut (u l : Bool) : (sufL u l).all (fun b => ([117, 85, 108, 76] : List UInt8).contains b) = true := by cases u <;> cases l <;> rfl
theorem suf_tail (u l : Bool) : (sufL u l).all tailU = true := by cases u <;> cases l <;> rfl
def intL (n : Nat) (u l : Bool) : List UInt8 := Lib.decDigits n ++ sufL u l
theorem int_xq (n : Nat) (u l : Bool) : xq (intL n u l) = false := by
 unfold intL
 rcases Nat.eq_zero_or_pos n with rfl | h
 ·
  rw [show Lib.decDigits 0 = [48] by rw [Lib.decDigits]; rfl]
  cases u <;> cases l <;> rfl
 ·
  have h1 := dec_head n h
  cases hd : Lib.decDigits n with
  | nil => exact absurd hd (dec_ne n)
  | cons b r =>
   rw [hd] at h1
   have hb : b ≠ 48 := by simpa using h1
   cases hr : r ++ sufL u l with
   | nil => rw [List.cons_append, hr]; rfl
   | cons y z => rw [List.cons_append, hr]; simp [xq, hb]
theorem dec_xq (n : Nat) : xq (Lib.decDigits n) = false := by
 have := int_xq n false false
 simpa [intL, sufL] using this
theorem int_body (n : Nat) (u l : Bool) : numBody (intL n u l) = Lib.decDigits n := by
 unfold numBody
 rw [int_xq, Bool.and_false, if_neg (by simp)]
 refine trim_suf _ _ _ (suf_cut u l) ?_
 rw [List.all_eq_true]
 intro b hb
 rw [dig_cut b (List.all_eq_true.1 (dec_dig n) b hb)]; rfl
theorem dec_value (n : Nat) (h : n < 8589934592) : (valueF (Lib.decDigits n)).1 = n ∧ (valueF (Lib.decDigits n)).2.2 = true := by
 unfold valueF
 rw [dec_xq, if_neg (by simp)]
 rcases Nat.eq_zero_or_pos n with rfl | h0
 ·
  rw [show Lib.decDigits 0 = [48] by rw [Lib.decDigits]; rfl]
  exact ⟨rfl, rfl⟩
 ·
  rw [if_neg (dec_head n h0)]
  unfold valEnd
  rw [if_neg (dec_ne n), dec_val n h]
  exact ⟨rfl, rfl⟩
theorem int_num (n : Nat) (u l : Bool) (h : n ≤ 4294967295) (hu : u = false → n ≤ 2147483647) : numF (intL n u l) = (3, number.name u l, (n : Int), 0, 0, 0, true) := by
 unfold numF
 rw [int_body]
 have hd : (intL n u l).drop (Lib.decDigits n).length = sufL u l := by unfold intL; rw [List.drop_left]
 rw [hd, suf_flags]
 obtain ⟨v1, v2⟩ := dec_value n (by omega)
 simp only
 unfold numTl
 rw [v1, v2, if_neg (by simp), if_neg (by omega)]
 cases u
 ·
  have := hu rfl
  rw [if_neg (by omega), decide_eq_false (p := (n : Int) > 2147483647) (by omega)]
  rfl
 ·
  rw [if_neg (by simp)]
  rfl
theorem int_tok (n : Nat) (u l : Bool) (h : n ≤ 4294967295) (hu : u = false → n ≤ 2147483647) : IsTok (intL n u l) ⟨3, (number.name u l).data.toList, (n : Int), (intL n u l).length, 0⟩ := by
 have hall : (intL n u l).all tailU = true := by
  unfold intL
  rw [List.all_append, suf_tail, Bool.and_true, List.all_eq_true]
  exact fun b hb => (digU_head b (List.all_eq_true.1 (dec_dig n) b hb)).2.2.2
 have htw : (intL n u l).takeWhile tailU = intL n u l := by
  have := tw_app (p := tailU) (intL n u l) [] hall
  simpa using this
 have hnum := int_num n u l h hu
 cases hi : intL n u l with
 | nil => exact absurd (List.append_eq_nil_iff.1 hi).1 (dec_ne n)
 | cons c r =>
  have hc : digU c = true := by
   cases hd : Lib.decDigits n with
   | nil => exact absurd hd (dec_ne n)
   | cons b z =>
    unfold intL at hi
    rw [hd, List.cons_append] at hi
    have := List.all_eq_true.1 (dec_dig n) b (by rw [hd]; simp)
    rwa [(List.cons.inj hi).1] at this
  obtain ⟨h1, h2, h3, _⟩ := digU_head c hc
  rw [hi] at htw hnum
  refine ⟨?_, rfl, rfl, by simp, head_sp (head_ne47 h1 h2)⟩
  simp only [oneF]
  rw [h3, if_neg (by simp), if_pos hc, htw, hnum, if_pos rfl]

/-! rows of written tokens -/
structure It where
 w : List UInt8
 g : List UInt8
 t : Tk
def tx : List It → List UInt8 → List UInt8
 | [], e => e
 | i :: is, e => i.w ++ (i.g ++ tx is e)
def Gap (g : List UInt8) : Prop := ∀ r n e, Sp r n e → Sp (g ++ r) (g.length + n) e
def Items : List It → List UInt8 → Prop
 | [], e => Gap e
 | i :: is, e => IsTok i.w i.t ∧ Gap i.g ∧ Follow [] (i.g ++ tx is e) ∧ Items is e
theorem Gap.nil : Gap [] := fun r n e h => by simpa using h
theorem Gap.app {a b : List UInt8} (ha : Gap a) (hb : Gap b) : Gap (a ++ b) := fun r n e h => by
 have := ha _ _ _ (hb r n e h)
 rw [List.append_assoc, List.length_append, Nat.add_assoc]
 exact this
theorem Gap.blank (b : UInt8) (hb : Q.blank b = true) : Gap [b] := fun r n e h => by
 have := Sp.blank b r n e hb h
 rw [show [b].length + n = n + 1 by simp; omega]
 exact this
theorem items_len (is : List It) (e : List UInt8) (h : Items is e) : is.length ≤ (tx is e).length := by
 induction is with
 | nil => simp
 | cons i is ih =>
  have := ih h.2.2.2
  have h1 : 1 ≤ i.w.length := by
   cases hw : i.w with
   | nil => exact absurd hw h.1.ne
   | cons => simp
  simp only [tx, List.length_append, List.length_cons]
  omega
def tkP (t : Tk) : S40 := ⟨t.kind, B t.text, t.num, ⟨0, 0, 0⟩⟩
def endP : S40 := ⟨0, B [], 0, ⟨0, 0, 0⟩⟩
def pl (t : S40) : S40 := ⟨t.f0, t.f1, t.f2, ⟨0, 0, 0⟩⟩
theorem scF_items (l : List UInt8) : ∀ (is : List It) (e g : List UInt8) (a c k : Nat), a ≤ l.length → l.drop a = g ++ tx is e → Gap g → Items is e → is.length < k →
  (c + is.length ≤ 16384 → (scF l k c a).2.1 = 0 ∧ (scF l k c a).1.map pl = is.map (fun i => tkP i.t) ++ [endP]) ∧ (16384 < c + is.length → c ≤ 16384 → (scF l k c a).2.1 = 23)
 | [], e, g, a, c, k, ha, hd, hg, hi, hk => by
  obtain ⟨k, rfl⟩ : ∃ j, k = j + 1 := ⟨k - 1, by omega⟩
  have h1 := (hg _ _ _ (hi [] 0 false .nil)).eq
  rw [List.append_nil] at h1
  have hl : l.length - a = g.length + e.length := by
   have := congrArg List.length hd
   rw [List.length_drop, List.length_append] at this
   exact this
  simp only [tx] at hd
  have hnx : nx l a = l.length := by
   unfold nx
   rw [hd, h1]
   simp only
   omega
  refine ⟨fun _ => ?_, fun h1 h2 => absurd h1 (by simp; omega)⟩
  simp only [scF]
  rw [hnx, hd, h1, if_neg (by simp), if_pos rfl]
  exact ⟨rfl, rfl⟩
 | i :: is, e, g, a, c, k, ha, hd, hg, hi, hk => by
  obtain ⟨k, rfl⟩ : ∃ j, k = j + 1 := ⟨k - 1, by omega⟩
  obtain ⟨ht, hgi, hf, his⟩ := hi
  simp only [tx] at hd
  simp only [List.length_cons] at hk ⊢
  have h1 := (hg _ _ _ (ht.sp _ hf)).eq
  rw [Nat.add_zero] at h1
  have hl : l.length - a = g.length + (i.w.length + (i.g.length + (tx is e).length)) := by
   have := congrArg List.length hd
   rw [List.length_drop, List.length_append, List.length_append, List.length_append] at this
   exact this
  have hw : 1 ≤ i.w.length := by
   cases hw : i.w with
   | nil => exact absurd hw ht.ne
   | cons => simp
  have hnx : nx l a = a + g.length := by
   unfold nx
   rw [hd, h1]
  have hdn : l.drop (a + g.length) = i.w ++ (i.g ++ tx is e) := by
   rw [← List.drop_drop, hd, List.drop_left]
  have hone : oneF (l.drop (nx l a)) = i.t := by
   have h2 := oneF_local i.w [] (i.g ++ tx is e) ht.ne (by rw [List.append_nil, ht.one]; exact ht.err) (by rw [List.append_nil, ht.one]; exact ht.len) hf
   rw [List.append_nil, ht.one] at h2
   rw [hnx, hdn, h2]
  have hdr : l.drop (a + g.length + i.t.len) = i.g ++ tx is e := by
   rw [ht.len, ← List.drop_drop, hdn, List.drop_left]
  have ih := scF_items l is e i.g (a + g.length + i.t.len) (c + 1) k (by rw [ht.len]; omega) hdr hgi his (by omega)
  simp only [scF]
  rw [hone, hd, h1, hnx, if_neg (by simp), if_neg (by omega), if_pos ht.err]
  by_cases hc : c = 16384
  ·
   rw [if_pos hc]
   exact ⟨fun h => absurd h (by omega), fun _ _ => rfl⟩
  ·
   rw [if_neg hc]
   constructor
   ·
    intro h2
    obtain ⟨i1, i2⟩ := ih.1 (by omega)
    rw [if_pos i1]
    refine ⟨rfl, ?_⟩
    simp only [List.map_cons, List.cons_append, i2]
    rfl
   ·
    intro h2 h3
    have i1 := ih.2 (by omega) (by omega)
    rw [if_neg (by rw [i1]; decide)]
    exact i1
theorem scanF_items (is : List It) (e g : List UInt8) (hg : Gap g) (hi : Items is e) :
  (is.length ≤ 16384 → (scanF (g ++ tx is e)).2.1 = 0 ∧ (scanF (g ++ tx is e)).1.map pl = is.map (fun i => tkP i.t) ++ [endP]) ∧ (16384 < is.length → (scanF (g ++ tx is e)).2.1 = 23) := by
 have hl := items_len is e hi
 have := scF_items (g ++ tx is e) is e g 0 0 ((g ++ tx is e).length + 2) (Nat.zero_le _) rfl hg hi (by rw [List.length_append]; omega)
 rw [Nat.zero_add] at this
 exact ⟨this.1, fun h => this.2 h (by omega)⟩
end Go.Proofs.YtpfjkpknljigmaaDoor.Q
