/- What token.Write and token.Join compute, as functions of lists; a token that may be, written, is read as itself. -/
import Derived.Test.YtpfjkpknljigmaaDoorPW
import Derived.Lib.ItoaLen
import Derived.Lib.Join
import Derived.Test.YtpfjkpknljigmaaDoorQx13
import Derived.Test.YtpfjkpknljigmaaDoorQx14
import Derived.Test.YtpfjkpknljigmaaDoorQx15
import Derived.Test.YtpfjkpknljigmaaDoorQx6
import Derived.Test.YtpfjkpknljigmaaDoorQx7
namespace Go.Proofs.YtpfjkpknljigmaaDoor.Q
open Go.RowKit Go.Proofs.YtpfjkpknljigmaaDoorW.PrintWords Go.Proofs.YtpfjkpknljigmaaDoorW.PrintLast Go.Proofs.YtpfjkpknljigmaaDoorW.PrintMore

/-! quote -/
def nm (l : List UInt8) : List Int := l.map (fun b => (b.toNat : Int))
theorem nm_app (a b : List UInt8) : nm (a ++ b) = nm a ++ nm b := List.map_append
theorem nm_len (a : List UInt8) : (nm a).length = a.length := List.length_map ..
theorem str_nm (l : List UInt8) : strOfNums (nm l) = B l := by
 rw [← B_of (strOfNums (nm l))]
 congr 1
 exact strL_nums l
theorem oct_ints (c : UInt8) : ([92, (48 + ((c.toNat : Int) / 64)) % 256, (48 + (Go.bits .and .u8 ((c.toNat : Int) / 8) 7)) % 256, (48 + (Go.bits .and .u8 (c.toNat : Int) 7)) % 256] : List Int) = nm [92, 48 + c / 64, 48 + c / 8 % 8, 48 + c % 8] :=
 of_decide_eq_true (allU8 (p := fun c => decide (([92, (48 + ((c.toNat : Int) / 64)) % 256, (48 + (Go.bits .and .u8 ((c.toNat : Int) / 8) 7)) % 256, (48 + (Go.bits .and .u8 (c.toNat : Int) 7)) % 256] : List Int) = nm [92, 48 + c / 64, 48 + c / 8 % 8, 48 + c % 8])) (by kernel_rfl) c)
theorem esc1_le (q c : UInt8) : (esc1 q c).length ≤ 4 := by
 unfold esc1
 split
 ·
  simp
 ·
  split
  ·
   simp
  ·
   split <;> simp
theorem inside_le (q : UInt8) (s : List UInt8) : (insideL q s).length ≤ 4 * s.length := by
 induction s with
 | nil => simp [insideL]
 | cons c s ih =>
  have := esc1_le q c
  simp only [insideL, List.flatMap_cons, List.length_append, List.length_cons] at ih ⊢
  omega
theorem quote_loop (l : List UInt8) (hl : l.length ≤ 1000000000) (q : UInt8) : ∀ (m i : Nat), l.length = i + m → ∀ acc : List Int, acc.length ≤ 1 + 4 * i → ∀ k, 2 * m < k →
  token_quote.l0 k (B l) q.toNat acc l.length i = some (strOfNums (acc ++ nm (insideL q (l.drop i)) ++ [(q.toNat : Int)]))
 | 0, i, hi, acc, ha, k + 1, _ => by
  simp only [token_quote.l0]
  rw [if_neg (by omega), if_pos (by omega), List.drop_eq_nil_of_le (by omega)]
  simp [insideL, nm]
 | m + 1, i, hi, acc, ha, k + 2, hk => by
  have hlt : i < l.length := by omega
  have fin : ∀ k' e, 2 * m < k' → esc1 q l[i] = e → token_quote.l0 k' (B l) q.toNat (acc ++ nm e) l.length (wrap64 ((i : Int) + 1)) = some (strOfNums (acc ++ nm (insideL q (l.drop i)) ++ [(q.toNat : Int)])) := by
   intro k' e hk' he
   have hel := esc1_le q l[i]
   rw [he] at hel
   rw [w64 _ (by omega)]
   have ih := quote_loop l hl q m (i + 1) (by omega) (acc ++ nm e) (by rw [List.length_append, nm_len]; omega) k' hk'
   simp only [Int.natCast_add, Int.natCast_one] at ih
   rw [ih, List.drop_eq_getElem_cons hlt]
   have h2 : insideL q (l[i] :: l.drop (i + 1)) = e ++ insideL q (l.drop (i + 1)) := by rw [← he]; rfl
   rw [h2, nm_app, List.append_assoc, List.append_assoc, List.append_assoc, List.append_assoc]
  simp only [token_quote.l0, B_size]
  rw [if_pos (by omega), if_pos (by omega), if_pos (by omega), B_bt l i hlt]
  have h7 : acc.length + 4 < 140737488355328 := by omega
  by_cases h1 : l[i] = 10
  ·
   rw [if_pos ((u8_int _ 10 (by decide) (by decide)).2 h1), Option.bind_some]
   rw [if_pos (by simp only [List.length_cons, List.length_nil]; omega)]
   exact fin (k + 1) [92, 110] (by omega) (by unfold esc1; rw [if_pos h1])
  ·
   rw [if_neg (fun h => h1 ((u8_int _ 10 (by decide) (by decide)).1 h))]
   have hj : (if ((l[i].toNat : Nat) : Int) = (q.toNat : Int) then token_quote.j1 (k + 1) (B l) q.toNat acc l[i].toNat l.length i true else token_quote.j1 (k + 1) (B l) q.toNat acc l[i].toNat l.length i (((l[i].toNat : Nat) : Int) == 92)) = token_quote.j1 (k + 1) (B l) q.toNat acc l[i].toNat l.length i (decide (l[i] = q ∨ l[i] = 92)) := by
    by_cases h2 : l[i] = q
    ·
     rw [if_pos (by rw [h2]), decide_eq_true (.inl h2)]
    ·
     rw [if_neg (fun h => h2 (UInt8.toNat_inj.1 (by omega)))]
     congr 1
     rw [Bool.eq_iff_iff, beq_iff_eq, decide_eq_true_iff, u8_int _ 92 (by decide) (by decide)]
     exact ⟨fun h => .inr h, fun h => h.resolve_left h2⟩
   rw [hj]
   simp only [token_quote.j1]
   by_cases h2 : l[i] = q ∨ l[i] = 92
   ·
    rw [decide_eq_true h2, if_pos rfl, Option.bind_some, if_pos (by simp only [List.length_cons, List.length_nil]; omega)]
    exact fin k [92, l[i]] (by omega) (by unfold esc1; rw [if_neg h1, if_pos h2])
   ·
    rw [decide_eq_false h2, if_neg (by simp)]
    by_cases h3 : 32 ≤ l[i].toNat ∧ l[i].toNat ≤ 126
    ·
     rw [if_pos (by omega), if_pos (by omega), if_pos (by omega)]
     exact fin k [l[i]] (by omega) (by unfold esc1; rw [if_neg h1, if_neg h2, if_pos h3])
    ·
     have hf := fin k [92, 48 + l[i] / 64, 48 + l[i] / 8 % 8, 48 + l[i] % 8] (by omega) (by unfold esc1; rw [if_neg h1, if_neg h2, if_neg h3])
     by_cases h4 : (l[i].toNat : Int) ≥ 32
     ·
      rw [if_pos h4, if_neg (by omega), Option.bind_some, oct_ints, if_pos (by rw [nm_len]; simp only [List.length_cons, List.length_nil]; omega)]
      exact hf
     ·
      rw [if_neg h4, Option.bind_some, oct_ints, if_pos (by rw [nm_len]; simp only [List.length_cons, List.length_nil]; omega)]
      exact hf
theorem quote_eq (l : List UInt8) (hl : l.length ≤ 1000000000) (q : UInt8) (k : Nat) (hk : 2 * l.length < k) : token_quote.f k (B l) q.toNat = some (B (quotedL q l)) := by
 unfold token_quote.f
 rw [B_size]
 have := quote_loop l hl q l.length 0 (by omega) [(q.toNat : Int)] (by simp) k hk
 simp only [Int.natCast_zero, List.drop_zero] at this
 rw [this, ← str_nm]
 congr 2
 simp [quotedL, nm]

/-! may -/
def aloneF (l : List UInt8) (kind : Int) : Bool :=
 match l with
 | [] => false
 | c :: r => letU c && (decide ((oneF (c :: r)).err = 0) && (decide ((oneF (c :: r)).len = (c :: r).length) && (oneF (c :: r)).kind == kind))
theorem alone_eq (l : List UInt8) (hl : l.length ≤ 1000000000) (kind : Int) (k : Nat) (hk : 2 * l.length + 20 ≤ k) : token_alone.f k (B l) kind = some (aloneF l kind) := by
 unfold token_alone.f aloneF
 rw [B_toList]
 cases l with
 | nil => rw [if_pos rfl]
 | cons c r =>
  rw [if_neg (by simp), B_size, if_pos (by simp only [List.length_cons]; omega), B_bt0, let_u, Option.bind_some]
  by_cases h : letU c = true
  ·
   rw [if_pos h, one_eq _ (by simp) hl k hk, Option.bind_some]
   simp only [h, Bool.true_and]
   by_cases e : (oneF (c :: r)).err = 0
   ·
    rw [if_pos e, decide_eq_true e]
    simp only [Bool.true_and]
    by_cases g : (oneF (c :: r)).len = (c :: r).length
    ·
     rw [if_pos (by rw [g]), decide_eq_true g, Bool.true_and]
    ·
     rw [if_neg (by omega), decide_eq_false g, Bool.false_and]
   ·
    rw [if_neg e, decide_eq_false e, Bool.false_and]
  ·
   rw [if_neg h]
   have h' : letU c = false := by simpa using h
   simp [h']
def tInt : List UInt8 := [105, 110, 116]
def tLong : List UInt8 := [108, 111, 110, 103]
def tUInt : List UInt8 := [117, 110, 115, 105, 103, 110, 101, 100, 32, 105, 110, 116]
def tULong : List UInt8 := [117, 110, 115, 105, 103, 110, 101, 100, 32, 108, 111, 110, 103]
def may32F (text : List UInt8) (num : Int) : Bool :=
 if text = tInt ∨ text = tLong then decide (0 ≤ num) && decide (num ≤ 2147483647) else if text = tUInt ∨ text = tULong then decide (0 ≤ num) && decide (num ≤ 4294967295) else false
theorem and_if (p q : Prop) [Decidable p] [Decidable q] : (if p then some (decide q) else some false) = some (decide p && decide q) := by
 by_cases h : p
 ·
  rw [if_pos h, decide_eq_true h, Bool.true_and]
 ·
  rw [if_neg h, decide_eq_false h, Bool.false_and]
theorem may32_eq (k : Nat) (hk : 1 ≤ k) (text : List UInt8) (num kind a b c : Int) : token_may32.f k kind (B text) num a b c = some (may32F text num) := by
 obtain ⟨k, rfl⟩ : ∃ j, k = j + 1 := ⟨k - 1, by omega⟩
 have hs : ∀ x : Int, (if num ≥ 0 then some (decide (num ≤ x)) else some false) = some (decide (0 ≤ num) && decide (num ≤ x)) := fun x => and_if _ _
 by_cases h1 : text = tInt
 ·
  subst h1
  unfold token_may32.f
  rw [B_toList, if_pos (show tInt = ([105, 110, 116] : List UInt8) from rfl), show (tInt == ([105, 110, 116] : List UInt8)) = true from rfl]
  simp only [token_may32.j0, if_true]
  exact hs 2147483647
 by_cases h2 : text = tLong
 ·
  subst h2
  unfold token_may32.f
  rw [B_toList, if_neg (show ¬ tLong = ([105, 110, 116] : List UInt8) by decide), show (tLong == ([108, 111, 110, 103] : List UInt8)) = true from rfl]
  simp only [token_may32.j0, if_true]
  exact hs 2147483647
 by_cases h3 : text = tUInt
 ·
  subst h3
  unfold token_may32.f
  rw [B_toList, if_neg (show ¬ tUInt = ([105, 110, 116] : List UInt8) by decide), show (tUInt == ([108, 111, 110, 103] : List UInt8)) = false from rfl]
  simp only [token_may32.j0, B_toList]
  rw [if_neg (by simp), if_pos (show tUInt = ([117, 110, 115, 105, 103, 110, 101, 100, 32, 105, 110, 116] : List UInt8) from rfl)]
  exact hs 4294967295
 by_cases h4 : text = tULong
 ·
  subst h4
  unfold token_may32.f
  rw [B_toList, if_neg (show ¬ tULong = ([105, 110, 116] : List UInt8) by decide), show (tULong == ([108, 111, 110, 103] : List UInt8)) = false from rfl]
  simp only [token_may32.j0, B_toList]
  rw [if_neg (by simp), if_neg (show ¬ tULong = ([117, 110, 115, 105, 103, 110, 101, 100, 32, 105, 110, 116] : List UInt8) by decide), if_pos (show tULong = ([117, 110, 115, 105, 103, 110, 101, 100, 32, 108, 111, 110, 103] : List UInt8) from rfl)]
  exact hs 4294967295
 unfold tInt at h1
 unfold tLong at h2
 unfold tUInt at h3
 unfold tULong at h4
 have e : may32F text num = false := by
  unfold may32F tInt tLong tUInt tULong
  rw [if_neg (fun h => h.elim h1 h2), if_neg (fun h => h.elim h3 h4)]
 rw [e]
 unfold token_may32.f
 rw [B_toList, if_neg h1, beq_eq_false_iff_ne.2 h2]
 simp only [token_may32.j0, B_toList]
 rw [if_neg (by simp), if_neg h3, if_neg h4]
def mayF (kind : Int) (text : List UInt8) (num : Int) : Bool :=
 if kind = 0 then (text == [] && num == 0) else if kind = 1 then (num == 0 && aloneF text 1) else if kind = 2 then (num == 0 && aloneF text 2) else if kind = 3 then may32F text num
 else if kind = 4 then (text == [] && (decide (num ≥ -128) && decide (num ≤ 127))) else if kind = 5 then num == 0 else if kind = 6 then (num == 0 && (!(text == []) && signF text == text)) else false
theorem may_eq (k : Nat) (kind : Int) (text : List UInt8) (ht : text.length ≤ 1000000000) (num : Int) (hk : 2 * text.length + 20 ≤ k) : token_may.f k kind (B text) num 0 0 0 = some (mayF kind text num) := by
 unfold token_may.f mayF
 rw [B_toList]
 by_cases h0 : kind = 0
 ·
  rw [if_pos h0, if_pos h0, h0]
  simp
 rw [if_neg h0, if_neg h0]
 by_cases h1 : kind = 1
 ·
  rw [if_pos h1, if_pos h1]
  unfold token_Name.f
  rw [alone_eq text ht 1 k hk]
  by_cases z : num = 0
  ·
   rw [if_pos z, z]; simp
  ·
   rw [if_neg z]; simp [z]
 rw [if_neg h1, if_neg h1]
 by_cases h2 : kind = 2
 ·
  rw [if_pos h2, if_pos h2]
  unfold token_Word.f
  rw [alone_eq text ht 2 k hk]
  by_cases z : num = 0
  ·
   rw [if_pos z, z]; simp
  ·
   rw [if_neg z]; simp [z]
 rw [if_neg h2, if_neg h2]
 by_cases h3 : kind = 3
 ·
  rw [if_pos h3, if_pos h3, may32_eq k (by omega)]
  rfl
 rw [if_neg h3, if_neg h3]
 by_cases h4 : kind = 4
 ·
  rw [if_pos h4, if_pos h4]
  by_cases z : text = []
  ·
   rw [if_pos z, z]
   simp only [beq_self_eq_true, Bool.true_and]
   exact and_if _ _
  ·
   rw [if_neg z]; simp [z]
 rw [if_neg h4, if_neg h4]
 by_cases h5 : kind = 5
 ·
  rw [if_pos h5, if_pos h5]
 rw [if_neg h5, if_neg h5]
 by_cases h6 : kind = 6
 ·
  rw [if_pos h6, if_pos h6]
  by_cases z : num = 0
  ·
   rw [if_pos z, z]
   by_cases y : text = []
   ·
    rw [if_pos y, y]; simp
   ·
    rw [if_neg y, sign_eq text y, Option.bind_some, B_toList]
    simp [y]
  ·
   rw [if_neg z]; simp [z]
 ·
  rw [if_neg h6, if_neg h6]

/-! written -/
def ulOf (text : List UInt8) : Bool × Bool := if text = tInt then (false, false) else if text = tLong then (false, true) else if text = tUInt then (true, false) else (true, true)
def writtenL (kind : Int) (text : List UInt8) (num : Int) : List UInt8 :=
 if kind = 3 then intL num.toNat (ulOf text).1 (ulOf text).2 else if kind = 4 then quotedL 39 [UInt8.ofNat (num % 256).toNat] else if kind = 5 then quotedL 34 text else text
theorem may32_cases {text : List UInt8} {num : Int} (h : may32F text num = true) : ∃ u l : Bool, ulOf text = (u, l) ∧ (number.name u l).data.toList = text ∧ 0 ≤ num ∧ num ≤ 4294967295 ∧ (u = false → num ≤ 2147483647) ∧
  strings_HasPrefix.f (B text) (⟨#[117, 110, 115, 105, 103, 110, 101, 100]⟩ : ByteArray) = some u ∧ strings_HasSuffix.f (B text) (⟨#[108, 111, 110, 103]⟩ : ByteArray) = some l := by
 unfold may32F at h
 by_cases h1 : text = tInt ∨ text = tLong
 ·
  rw [if_pos h1, Bool.and_eq_true, decide_eq_true_iff, decide_eq_true_iff] at h
  rcases h1 with rfl | rfl
  ·
   exact ⟨false, false, rfl, rfl, h.1, by omega, fun _ => h.2, by kernel_rfl, by kernel_rfl⟩
  ·
   exact ⟨false, true, rfl, rfl, h.1, by omega, fun _ => h.2, by kernel_rfl, by kernel_rfl⟩
 ·
  rw [if_neg h1] at h
  by_cases h2 : text = tUInt ∨ text = tULong
  ·
   rw [if_pos h2, Bool.and_eq_true, decide_eq_true_iff, decide_eq_true_iff] at h
   rcases h2 with rfl | rfl
   ·
    exact ⟨true, false, rfl, rfl, h.1, h.2, fun e => (by cases e), by kernel_rfl, by kernel_rfl⟩
   ·
    exact ⟨true, true, rfl, rfl, h.1, h.2, fun e => (by cases e), by kernel_rfl, by kernel_rfl⟩
  ·
   rw [if_neg h2] at h; cases h
theorem B_app (a b : List UInt8) : B a ++ B b = B (a ++ b) := by
 have h := B_of (B a ++ B b)
 rw [← h]
 congr 1
 first | done | rw [ByteArray.data_append, Array.toList_append, B_data, B_data]
theorem chr_byte (num : Int) (h : num ≥ -128 ∧ num ≤ 127) : wrap64 (IntKind.i8.wrap (((UInt8.ofNat (num % 256).toNat).toNat : Nat) : Int)) = num := by
 have := List.all_eq_true.1 (show ((List.range 256).all fun d => decide (wrap64 (IntKind.i8.wrap (((UInt8.ofNat (((d : Int) - 128) % 256).toNat).toNat : Nat) : Int)) = (d : Int) - 128)) = true by kernel_rfl) (num + 128).toNat (List.mem_range.2 (by omega))
 have h2 := of_decide_eq_true this
 rw [show (((num + 128).toNat : Nat) : Int) - 128 = num by omega] at h2
 exact h2
theorem written_eq (k : Nat) (kind : Int) (text : List UInt8) (ht : text.length ≤ 1000000000) (num : Int) (hk : 2 * text.length + 20 ≤ k) (hm : mayF kind text num = true) :
  token_written.f k kind (B text) num 0 0 0 = some (B (writtenL kind text num)) := by
 unfold token_written.f writtenL
 by_cases h3 : kind = 3
 ·
  rw [if_pos h3, if_pos h3]
  rw [h3] at hm
  have hm' : may32F text num = true := hm
  obtain ⟨u, l, e1, _, n0, n1, _, e2, e3⟩ := may32_cases hm'
  obtain ⟨k, rfl⟩ : ∃ j, k = j + 1 := ⟨k - 1, by omega⟩
  have ei : strconv_Itoa.f num = some (B (Lib.decDigits num.toNat)) := by
   unfold strconv_Itoa.f
   rw [if_pos ⟨by omega, by omega⟩]
   unfold Lib.itoa
   rw [if_neg (by omega)]
   rfl
  have hlen : (Lib.decDigits num.toNat).length ≤ 21 := by
   have := Lib.itoa_length_le num (by omega) (by omega)
   unfold Lib.itoa at this
   rwa [if_neg (by omega)] at this
  rw [e2, Option.bind_some, e1]
  simp only
  have hj : ∀ x : List UInt8, x.length ≤ 1 → token_written.j0 (k + 1) (B x) kind (B text) num 0 0 0 = some (B (Lib.decDigits num.toNat ++ (x ++ (if l = true then [76] else [])))) := by
   intro x hx
   simp only [token_written.j0]
   rw [e3, Option.bind_some, ei, Option.bind_some, Option.bind_some]
   cases l
   ·
    rw [if_neg (by simp), B_size, B_size, if_pos (by omega), B_app]
    simp
   ·
    rw [if_pos rfl, show (⟨#[76]⟩ : ByteArray) = B [76] from rfl, B_app, B_size, B_size, B_size, if_pos (by omega), if_pos (by rw [List.length_append]; simp only [List.length_cons, List.length_nil]; omega), B_app]
    simp
  unfold intL sufL
  cases u
  ·
   rw [if_neg (by simp), show (⟨#[]⟩ : ByteArray) = B [] from rfl, hj [] (by simp)]
   rfl
  ·
   rw [if_pos rfl, show (⟨#[85]⟩ : ByteArray) = B [85] from rfl, hj [85] (by simp)]
   rfl
 ·
  rw [if_neg h3, if_neg h3]
  by_cases h4 : kind = 4
  ·
   rw [if_pos h4, if_pos h4]
   have e : strOfNums ([num % 256] : List Int) = B [UInt8.ofNat (num % 256).toNat] := by
    rw [← str_nm]
    congr 1
    have : (((UInt8.ofNat (num % 256).toNat).toNat : Nat) : Int) = num % 256 := by
     rw [UInt8.toNat_ofNat']
     omega
    simp only [nm, List.map_cons, List.map_nil, this]
   have hq := quote_eq [UInt8.ofNat (num % 256).toNat] (by simp) 39 k (by simp; omega)
   rw [e, show ((39 : Int)) = (((39 : UInt8).toNat : Nat) : Int) from rfl, hq]
   rfl
  ·
   rw [if_neg h4, if_neg h4]
   by_cases h5 : kind = 5
   ·
    rw [if_pos h5, if_pos h5, show ((34 : Int)) = (((34 : UInt8).toNat : Nat) : Int) from rfl, quote_eq text ht 34 k (by omega)]
    rfl
   ·
    rw [if_neg h5, if_neg h5]
theorem write_eq (k : Nat) (kind : Int) (text : List UInt8) (ht : text.length ≤ 1000000000) (num a b c : Int) (hk : 2 * text.length + 20 ≤ k) :
  token_Write.f k kind (B text) num a b c = some (if mayF kind text num = true then (B (writtenL kind text num), 0) else (B [], 2)) := by
 unfold token_Write.f
 rw [may_eq k kind text ht num hk, Option.bind_some]
 by_cases h : mayF kind text num = true
 ·
  rw [if_pos h, if_pos h, written_eq k kind text ht num hk h]
  rfl
 ·
  rw [if_neg h, if_neg h]
  rfl
/-- A token that may be, written, is read as itself. -/
theorem may_tok (kind : Int) (text : List UInt8) (num : Int) (hm : mayF kind text num = true) (h0 : kind ≠ 0) : IsTok (writtenL kind text num) ⟨kind, text, num, (writtenL kind text num).length, 0⟩ := by
 unfold mayF at hm
 rw [if_neg h0] at hm
 have hname : ∀ kd : Int, (num == 0 && aloneF text kd) = true → (kd = 1 ∨ kd = 2) → kind = kd → IsTok (writtenL kind text num) ⟨kind, text, num, (writtenL kind text num).length, 0⟩ := by
  rintro kd h hkd rfl
  rw [Bool.and_eq_true, beq_iff_eq] at h
  obtain ⟨rfl, h⟩ := h
  have hw : writtenL kind text 0 = text := by
   unfold writtenL
   rw [if_neg (by omega), if_neg (by omega), if_neg (by omega)]
  rw [hw]
  cases hx : text with
  | nil => rw [hx] at h; cases h
  | cons c r =>
   rw [hx] at h
   simp only [aloneF, Bool.and_eq_true, decide_eq_true_iff, beq_iff_eq] at h
   obtain ⟨g1, g2, g3, g4⟩ := h
   obtain ⟨t1, t2, t3, _⟩ := name_tok (w := c :: r) rfl g1 g2 g3
   have e : oneF (c :: r) = ⟨kind, c :: r, 0, (c :: r).length, 0⟩ := by
    cases ho : oneF (c :: r) with
    | mk k' t' n' l' e' =>
     rw [ho] at g2 g3 g4 t2 t3
     simp only at g2 g3 g4 t2 t3
     rw [g2, g3, g4, t2, t3]
   rw [e] at t1
   exact t1
 by_cases h1 : kind = 1
 ·
  rw [if_pos h1] at hm
  exact hname 1 hm (.inl rfl) h1
 rw [if_neg h1] at hm
 by_cases h2 : kind = 2
 ·
  rw [if_pos h2] at hm
  exact hname 2 hm (.inr rfl) h2
 rw [if_neg h2] at hm
 by_cases h3 : kind = 3
 ·
  rw [if_pos h3] at hm
  obtain ⟨u, l, e1, e2, n0, n1, nu, _, _⟩ := may32_cases hm
  subst h3
  unfold writtenL
  rw [if_pos rfl, e1]
  have := int_tok num.toNat u l (by omega) (fun h => by have := nu h; omega)
  rw [e2, Int.toNat_of_nonneg n0] at this
  exact this
 rw [if_neg h3] at hm
 unfold writtenL
 rw [if_neg h3]
 by_cases h4 : kind = 4
 ·
  rw [if_pos h4] at hm ⊢
  simp only [Bool.and_eq_true, beq_iff_eq, decide_eq_true_iff] at hm
  obtain ⟨rfl, hm⟩ := hm
  subst h4
  have := chr_tok (UInt8.ofNat (num % 256).toNat)
  rw [chr_byte num hm] at this
  exact this
 rw [if_neg h4] at hm ⊢
 by_cases h5 : kind = 5
 ·
  rw [if_pos h5] at hm ⊢
  subst h5
  rw [beq_iff_eq.1 hm]
  exact str_tok text
 rw [if_neg h5] at hm ⊢
 by_cases h6 : kind = 6
 ·
  rw [if_pos h6] at hm
  simp only [Bool.and_eq_true, beq_iff_eq, Bool.not_eq_true', beq_eq_false_iff_ne] at hm
  obtain ⟨rfl, g1, g2⟩ := hm
  subst h6
  exact sign_tok text g2 g1
 ·
  rw [if_neg h6] at hm; cases hm
theorem may_end (text : List UInt8) (num : Int) (hm : mayF 0 text num = true) : text = [] ∧ num = 0 ∧ writtenL 0 text num = [] := by
 unfold mayF at hm
 rw [if_pos rfl, Bool.and_eq_true, beq_iff_eq, beq_iff_eq] at hm
 obtain ⟨rfl, rfl⟩ := hm
 exact ⟨rfl, rfl, rfl⟩
theorem written_len (kind : Int) (text : List UInt8) (num : Int) (hm : mayF kind text num = true) : (writtenL kind text num).length ≤ 4 * text.length + 30 := by
 unfold writtenL
 by_cases h3 : kind = 3
 ·
  rw [if_pos h3]
  rw [h3] at hm
  obtain ⟨u, l, e1, _, n0, n1, _, _, _⟩ := may32_cases (show may32F text num = true from hm)
  have := Lib.itoa_length_le num (by omega) (by omega)
  unfold Lib.itoa at this
  rw [if_neg (by omega)] at this
  have hs : (sufL (ulOf text).1 (ulOf text).2).length ≤ 2 := by
   cases (ulOf text).1 <;> cases (ulOf text).2 <;> decide
  unfold intL
  rw [List.length_append]
  omega
 ·
  rw [if_neg h3]
  by_cases h4 : kind = 4
  ·
   rw [if_pos h4, quoted_len]
   have := inside_le 39 [UInt8.ofNat (num % 256).toNat]
   simp only [List.length_cons, List.length_nil] at this
   omega
  ·
   rw [if_neg h4]
   by_cases h5 : kind = 5
   ·
    rw [if_pos h5, quoted_len]
    have := inside_le 34 text
    omega
   ·
    rw [if_neg h5]; omega
end Go.Proofs.YtpfjkpknljigmaaDoor.Q
