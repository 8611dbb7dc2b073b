/- The lexer: space, runs, escapes, quoted texts, signs, numbers, one token: what the program computes, as functions of lists of bytes, wherever the text has at most 10^9 bytes. -/
import Derived.Test.YtpfjkpknljigmaaDoorPT
import Derived.Test.YtpfjkpknljigmaaDoorH1b
import Derived.Lib.Index
import Derived.Test.YtpfjkpknljigmaaDoorH0
import Derived.Test.YtpfjkpknljigmaaDoorQx10
import Derived.Test.YtpfjkpknljigmaaDoorQx11
import Derived.Test.YtpfjkpknljigmaaDoorQx4
import Derived.Test.YtpfjkpknljigmaaDoorQx5
import Derived.Test.YtpfjkpknljigmaaDoorQx6
import Derived.Test.YtpfjkpknljigmaaDoorQx7
import Derived.Test.YtpfjkpknljigmaaDoorH2
import Derived.Test.YtpfjkpknljigmaaDoorQx11
import Derived.Test.YtpfjkpknljigmaaDoorQx12
import Derived.Test.YtpfjkpknljigmaaDoorQx4
import Derived.Test.YtpfjkpknljigmaaDoorQx9
import Derived.Test.YtpfjkpknljigmaaDoorQx11
import Derived.Test.YtpfjkpknljigmaaDoorQx12
import Derived.Test.YtpfjkpknljigmaaDoorQx4
import Derived.Test.YtpfjkpknljigmaaDoorQx9
namespace Go.Proofs.YtpfjkpknljigmaaDoor.Q
open Go.RowKit Go.Proofs.YtpfjkpknljigmaaDoorW.PrintWords Go.Proofs.YtpfjkpknljigmaaDoorW.PrintLast Go.Proofs.YtpfjkpknljigmaaDoorW.PrintMore


/-! transports -/
def B (l : List UInt8) : ByteArray := ⟨l.toArray⟩
theorem B_size (l : List UInt8) : (B l).size = l.length := by simp [B, ByteArray.size]
theorem B_data (l : List UInt8) : (B l).data.toList = l := by simp [B]
theorem B_of (s : ByteArray) : B s.data.toList = s := Lib.mk_data s
theorem B_toList (l : List UInt8) : (B l).toList = l := by rw [Lib.toList_data, B_data]
theorem B_inj {a b : List UInt8} (h : B a = B b) : a = b := by rw [← B_data a, h, B_data]
theorem B_bt (l : List UInt8) (i : Nat) (h : i < l.length) : bt (B l) i = (l[i].toNat : Int) := by
 rw [← bt_at (B l) i (by rw [B_size]; simpa using h)]; rfl
theorem B_bt0 (b : UInt8) (r : List UInt8) : bt (B (b :: r)) 0 = (b.toNat : Int) := B_bt (b :: r) 0 (by simp)
theorem B_extract (l : List UInt8) (a b : Nat) : (B l).extract a b = B ((l.drop a).take (b - a)) := by rw [Lib.extract_eq, B_data]; rfl
theorem B_suffix (l : List UInt8) (a : Nat) : (B l).extract a (B l).size = B (l.drop a) := by
 rw [B_extract, B_size, List.take_of_length_le (by rw [List.length_drop]; exact Nat.le_refl _)]
theorem B_prefix (l : List UInt8) (a : Nat) : (B l).extract 0 a = B (l.take a) := by rw [B_extract]; simp
theorem hasPrefix_B (l p : List UInt8) : strings_HasPrefix.f (B l) (B p) = some (p.isPrefixOf l) := by
 unfold strings_HasPrefix.f stringslite_HasPrefix.f
 rw [B_size, B_size]
 by_cases h : p.length ≤ l.length
 ·
  rw [if_pos (by omega), if_pos (by omega), if_pos (by omega)]
  simp only [Option.bind_some, Int.toNat_natCast]
  rw [B_prefix, B_toList, B_toList]
  congr 1
  rw [Bool.eq_iff_iff, List.isPrefixOf_iff_prefix, beq_iff_eq, List.prefix_iff_eq_take]
  exact eq_comm
 ·
  rw [if_neg (by omega)]
  simp only [Option.bind_some]
  congr 1
  symm
  rw [Bool.eq_false_iff, Ne, List.isPrefixOf_iff_prefix]
  exact fun hp => h hp.length_le
theorem indexByte_B (l : List UInt8) (c : Int) : strings_IndexByte.f (B l) c = some (Lib.indexByte l c.toNat.toUInt8) := by
 unfold strings_IndexByte.f; rw [B_data]
theorem index_B (l p : List UInt8) (h : l.length < 4294967281) : strings_Index.f (B l) (B p) = some (Lib.index l p) := by
 unfold strings_Index.f; rw [B_size, if_pos h, B_data, B_data]
theorem u8_nat (b : UInt8) (n : Nat) (h : n < 256) : ((b.toNat : Int) = n) ↔ b = n.toUInt8 := by
 constructor
 ·
  intro e
  have : b.toNat = n := by omega
  apply UInt8.toNat_inj.1
  rw [this]
  simp only [Nat.toUInt8, UInt8.toNat_ofNat']
  omega
 ·
  rintro rfl
  simp only [Nat.toUInt8, UInt8.toNat_ofNat']
  omega

/-! space -/
def blank (b : UInt8) : Bool := b == 32 || (decide (9 ≤ b.toNat) && decide (b.toNat ≤ 13))
def spF : Nat → List UInt8 → Nat × Bool
 | 0, _ => (0, false)
 | _ + 1, [] => (0, false)
 | k + 1, b :: r =>
  if blank b then ((spF k r).1 + 1, (spF k r).2)
  else if [47, 47].isPrefixOf (b :: r) then
   (if Lib.indexByte (b :: r) 10 < 0 then ((b :: r).length, false) else ((Lib.indexByte (b :: r) 10).toNat + (spF k ((b :: r).drop (Lib.indexByte (b :: r) 10).toNat)).1, (spF k ((b :: r).drop (Lib.indexByte (b :: r) 10).toNat)).2))
  else if [47, 42].isPrefixOf (b :: r) then
   (if Lib.index ((b :: r).drop 2) [42, 47] < 0 then (0, true) else ((Lib.index ((b :: r).drop 2) [42, 47]).toNat + 4 + (spF k ((b :: r).drop ((Lib.index ((b :: r).drop 2) [42, 47]).toNat + 4))).1, (spF k ((b :: r).drop ((Lib.index ((b :: r).drop 2) [42, 47]).toNat + 4))).2))
  else (0, false)
theorem indexByte_lt (l : List UInt8) (c : UInt8) : Lib.indexByte l c < l.length := by
 induction l with
 | nil => simp [Lib.indexByte]
 | cons b l ih =>
  unfold Lib.indexByte
  simp only [List.length_cons]
  have := Lib.indexByte_ge l c
  split
  ·
   omega
  ·
   split <;> omega
theorem indexByte_cons_ne (b : UInt8) (l : List UInt8) (c : UInt8) (h : b ≠ c) (h0 : 0 ≤ Lib.indexByte (b :: l) c) : 1 ≤ Lib.indexByte (b :: l) c := by
 have := Lib.indexByte_ge l c
 unfold Lib.indexByte at h0 ⊢
 rw [if_neg (by simpa using h)] at h0 ⊢
 split at h0
 ·
  omega
 ·
  rename_i g
  rw [if_neg g]
  have : Lib.indexByte l c ≠ -1 := by simpa using g
  omega
theorem index_room (l p : List UInt8) (hp : p ≠ []) : Lib.index l p < 0 ∨ Lib.index l p + p.length ≤ l.length := by
 induction l with
 | nil =>
  unfold Lib.index
  cases p with
  | nil => exact absurd rfl hp
  | cons a p => left; simp
 | cons b l ih =>
  unfold Lib.index
  have := Lib.index_ge l p
  split
  ·
   rename_i h
   right
   have := (List.isPrefixOf_iff_prefix.1 h).length_le
   omega
  ·
   split
   ·
    left; decide
   ·
    rename_i g
    simp only [List.length_cons]
    rcases ih with ih | ih
    ·
     have : Lib.index l p ≠ -1 := by simpa using g
     omega
    ·
     right; omega
theorem spF_le : ∀ (k : Nat) (l : List UInt8), (spF k l).1 ≤ l.length
 | 0, _ => Nat.zero_le _
 | _ + 1, [] => Nat.le_refl _
 | k + 1, b :: r => by
  unfold spF
  split
  ·
   have := spF_le k r; simp only [List.length_cons]; omega
  ·
   split
   ·
    split
    ·
     exact Nat.le_refl _
    ·
     have h := spF_le k ((b :: r).drop (Lib.indexByte (b :: r) 10).toNat)
     have := indexByte_lt (b :: r) 10
     rw [List.length_drop] at h
     simp only; omega
   ·
    split
    ·
     split
     ·
      exact Nat.zero_le _
     ·
      have h := spF_le k ((b :: r).drop ((Lib.index ((b :: r).drop 2) [42, 47]).toNat + 4))
      rw [List.length_drop] at h
      have := index_room ((b :: r).drop 2) [42, 47] (by simp)
      rw [List.length_drop] at this
      simp only [List.length_cons, List.length_nil] at this h ⊢; omega
    ·
     exact Nat.zero_le _
theorem blank_code (b : UInt8) : (if (b.toNat : Int) = 32 then true else if (b.toNat : Int) ≥ 9 then decide ((b.toNat : Int) ≤ 13) else false) = blank b := by
 unfold blank
 by_cases h : b = 32
 ·
  subst h; simp
 ·
  have h' : ¬ ((b.toNat : Int) = 32) := fun e => h ((u8_nat b 32 (by decide)).1 e)
  rw [if_neg h', show (b == 32) = false by simpa using h]
  by_cases g : (b.toNat : Int) ≥ 9
  ·
   rw [if_pos g, decide_eq_true (p := 9 ≤ b.toNat) (by omega)]
   simp
   omega
  ·
   rw [if_neg g, decide_eq_false (p := 9 ≤ b.toNat) (by omega)]
   simp
theorem space_eq (l : List UInt8) (hl : l.length ≤ 1000000000) : ∀ (k n at_ : Nat), n = l.length - at_ → at_ ≤ l.length → n < k → ∀ k', 2 * k + 2 ≤ k' →
  token_space.l0 k' (B l) at_ = some (((at_ + (spF k (l.drop at_)).1 : Nat) : Int), if (spF k (l.drop at_)).2 = true then 25 else 0)
 | 0, _, _, _, _, h, _, _ => absurd h (by omega)
 | k + 1, n, at_, hn, ha, hk, k' + 2, hk' => by
  simp only [token_space.l0, B_size]
  by_cases he : at_ = l.length
  ·
   subst he
   rw [if_neg (by omega), List.drop_length]
   simp [spF]
  ·
   have hlt : at_ < l.length := by omega
   rw [if_pos (by omega), if_pos (by omega), B_bt l at_ hlt]
   have hd : l.drop at_ = l[at_] :: l.drop (at_ + 1) := List.drop_eq_getElem_cons hlt
   have hj : (if ((l[at_].toNat : Nat) : Int) = 32 then token_space.j1 (k' + 1) (B l) at_ true else if ((l[at_].toNat : Nat) : Int) ≥ 9 then token_space.j1 (k' + 1) (B l) at_ (decide (((l[at_].toNat : Nat) : Int) ≤ 13)) else token_space.j1 (k' + 1) (B l) at_ false) = token_space.j1 (k' + 1) (B l) at_ (blank l[at_]) := by
    rw [← blank_code]
    split
    ·
     rfl
    ·
     split <;> rfl
   rw [hj]
   simp only [token_space.j1, B_size]
   by_cases hb : blank l[at_] = true
   ·
    have ih := space_eq l hl k (l.length - (at_ + 1)) (at_ + 1) rfl (by omega) (by omega) k' (by omega)
    rw [if_pos hb, w64 _ (by omega)]
    simp only [Int.natCast_add, Int.natCast_one] at ih
    rw [ih, hd]
    simp only [spF, if_pos hb]
    congr 2
    simp only [Int.natCast_add, Int.natCast_one]
    omega
   ·
    rw [if_neg hb, if_pos (by omega), if_pos (by omega), Int.toNat_natCast]
    have ex : (B l).extract at_ l.length = B (l.drop at_) := by rw [← B_suffix, B_size]
    rw [ex, show (⟨#[47, 47]⟩ : ByteArray) = B [47, 47] from rfl, show (⟨#[47, 42]⟩ : ByteArray) = B [47, 42] from rfl, show (⟨#[42, 47]⟩ : ByteArray) = B [42, 47] from rfl, hasPrefix_B, hasPrefix_B, indexByte_B]
    simp only [Option.bind_some]
    rw [hd]
    simp only [spF, if_neg hb]
    rw [← hd]
    have e10 : ((10 : Int).toNat.toUInt8) = 10 := rfl
    rw [e10]
    have hlen : (l.drop at_).length = l.length - at_ := List.length_drop
    by_cases h1 : [47, 47].isPrefixOf (l.drop at_) = true
    ·
     rw [if_pos h1, if_pos h1]
     by_cases h2 : Lib.indexByte (l.drop at_) 10 < 0
     ·
      rw [if_pos h2, if_pos h2]
      simp only [hlen]
      rw [if_neg (by simp)]
      congr 2
      omega
     ·
      rw [if_neg h2, if_neg h2]
      have hi := indexByte_lt (l.drop at_) 10
      have h1' : 1 ≤ Lib.indexByte (l.drop at_) 10 := by
       rw [hd] at h1 h2 ⊢
       apply indexByte_cons_ne _ _ _ _ (by omega)
       rw [List.isPrefixOf_cons_cons] at h1
       intro e
       rw [e] at h1
       exact absurd h1 (by simp)
      obtain ⟨i, hie⟩ : ∃ i : Nat, Lib.indexByte (l.drop at_) 10 = i := ⟨(Lib.indexByte (l.drop at_) 10).toNat, by omega⟩
      rw [hie] at hi h1' h2 ⊢
      rw [w64 _ (by omega)]
      have ih := space_eq l hl k (l.length - (at_ + i)) (at_ + i) rfl (by omega) (by omega) k' (by omega)
      simp only [Int.natCast_add] at ih
      rw [ih]
      simp only [Int.toNat_natCast, List.drop_drop]
      congr 2
      simp only [Int.natCast_add]
      omega
    ·
     rw [if_neg h1, if_neg h1]
     by_cases h3 : [47, 42].isPrefixOf (l.drop at_) = true
     ·
      have hl2 : 2 ≤ l.length - at_ := by
       have := (List.isPrefixOf_iff_prefix.1 h3).length_le
       rw [hlen] at this
       simpa using this
      rw [if_pos h3, if_pos h3, w64 _ (by omega), if_pos (by omega), if_pos (by omega)]
      have ex2 : (B l).extract ((at_ : Int) + 2).toNat l.length = B ((l.drop at_).drop 2) := by
       rw [show ((at_ : Int) + 2).toNat = at_ + 2 by omega, List.drop_drop, ← B_suffix, B_size]
      rw [ex2, index_B _ _ (by rw [List.length_drop, hlen]; omega)]
      simp only [Option.bind_some]
      have hr := index_room ((l.drop at_).drop 2) [42, 47] (by simp)
      rw [List.length_drop, hlen] at hr
      simp only [List.length_cons, List.length_nil] at hr
      by_cases h4 : Lib.index ((l.drop at_).drop 2) [42, 47] < 0
      ·
       rw [if_pos h4, if_pos h4]
       simp
      ·
       rw [if_neg h4, if_neg h4]
       obtain ⟨i, hie⟩ : ∃ i : Nat, Lib.index ((l.drop at_).drop 2) [42, 47] = i := ⟨(Lib.index ((l.drop at_).drop 2) [42, 47]).toNat, by omega⟩
       rw [hie] at hr h4 ⊢
       rw [w64 ((i : Int) + 4) (by omega), w64 _ (by omega)]
       have ih := space_eq l hl k (l.length - (at_ + (i + 4))) (at_ + (i + 4)) rfl (by omega) (by omega) k' (by omega)
       simp only [Int.natCast_add] at ih
       have e4 : ((4 : Nat) : Int) = 4 := rfl
       rw [e4] at ih
       rw [ih]
       simp only [Int.toNat_natCast, List.drop_drop]
       congr 2
       simp only [Int.natCast_add]
       omega
     ·
      rw [if_neg h3, if_neg h3]
      simp

/-! runs -/
def letU (b : UInt8) : Bool := letB b.toNat
def digU (b : UInt8) : Bool := digB b.toNat
def tailU (b : UInt8) : Bool := tailB b.toNat
def hexR (b : UInt8) : Int × Bool := (token_hex.f b.toNat).getD (0, false)
def hexU (b : UInt8) : Bool := (hexR b).2
def octU (b : UInt8) : Bool := decide (48 ≤ b.toNat) && decide (b.toNat ≤ 55)
theorem allU8 {p : UInt8 → Bool} (h : ((List.range 256).all fun n => p n.toUInt8) = true) (b : UInt8) : p b = true := by
 have := List.all_eq_true.1 h b.toNat (List.mem_range.2 b.toNat_lt)
 have e : b.toNat.toUInt8 = b := by apply UInt8.toNat_inj.1; simp [Nat.toUInt8]
 rwa [e] at this
theorem let_u (b : UInt8) : token_letter.f b.toNat = some (letU b) :=
 of_decide_eq_true (allU8 (p := fun b => decide (token_letter.f b.toNat = some (letU b))) (by kernel_rfl) b)
theorem dig_u (b : UInt8) : token_digit.f b.toNat = some (digU b) :=
 of_decide_eq_true (allU8 (p := fun b => decide (token_digit.f b.toNat = some (digU b))) (by kernel_rfl) b)
theorem hex_u (b : UInt8) : token_hex.f b.toNat = some (hexR b) :=
 of_decide_eq_true (allU8 (p := fun b => decide (token_hex.f b.toNat = some (hexR b))) (by kernel_rfl) b)
theorem isF_tail (b : UInt8) : isF 46 b.toNat = some (tailU b) :=
 of_decide_eq_true (allU8 (p := fun b => decide (isF 46 b.toNat = some (tailU b))) (by kernel_rfl) b)
theorem isF_oct (b : UInt8) : isF 79 b.toNat = some (octU b) :=
 of_decide_eq_true (allU8 (p := fun b => decide (isF 79 b.toNat = some (octU b))) (by kernel_rfl) b)
theorem isF_hex1 (b : UInt8) : isF 62 b.toNat = some (hexU b) :=
 of_decide_eq_true (allU8 (p := fun b => decide (isF 62 b.toNat = some (hexU b))) (by kernel_rfl) b)
theorem isF_hex2 (b : UInt8) : isF 78 b.toNat = some (hexU b) :=
 of_decide_eq_true (allU8 (p := fun b => decide (isF 78 b.toNat = some (hexU b))) (by kernel_rfl) b)
theorem runL_loop (n : Nat) (p : UInt8 → Bool) (hF : ∀ b : UInt8, isF n b.toNat = some (p b)) (l : List UInt8) (hl : l.length ≤ 140737488355328) : ∀ m i : Nat, l.length = i + m → ∀ k, m < k →
  token_run.l0 n k (B l) i = some ((i + ((l.drop i).takeWhile p).length : Nat) : Int)
 | 0, i, hi, k + 1, _ => by
  simp only [token_run.l0, B_size]
  rw [if_neg (by omega), List.drop_eq_nil_of_le (by omega)]
  simp
 | m + 1, i, hi, k + 1, hk => by
  have hlt : i < l.length := by omega
  simp only [token_run.l0, B_size]
  rw [if_pos (by omega), if_pos (by omega), B_bt l i hlt, hF, w64 _ (by omega), List.drop_eq_getElem_cons hlt]
  simp only [Option.bind_some, List.takeWhile_cons]
  have ih := runL_loop n p hF l hl m (i + 1) (by omega) k (by omega)
  simp only [Int.natCast_add, Int.natCast_one] at ih
  cases c : p l[i]
  ·
   simp
  ·
   simp only [if_true]
   rw [ih]
   simp only [List.length_cons, Int.natCast_add, Int.natCast_one]
   congr 1
   omega
theorem runL_eq (n : Nat) (p : UInt8 → Bool) (hF : ∀ b : UInt8, isF n b.toNat = some (p b)) (hn : n = 46 ∨ n = 79 ∨ n = 62 ∨ n = 78) (l : List UInt8) (hl : l.length ≤ 140737488355328) :
  token_run.f (B l) n = some ((l.takeWhile p).length : Int) := by
 unfold token_run.f
 rw [if_pos (by omega), B_size]
 have := runL_loop n p hF l hl l.length 0 (by omega) (l.length + 1) (by omega)
 simpa using this

theorem u8_int (b : UInt8) (n : Int) (h0 : 0 ≤ n) (h : n < 256) : ((b.toNat : Int) = n) ↔ b = n.toNat.toUInt8 := by
 obtain ⟨m, rfl⟩ := Int.eq_ofNat_of_zero_le h0
 rw [Int.toNat_natCast]
 exact u8_nat b m (by omega)

/-! escapes -/
def hexval (l : List UInt8) (v : Int) : Int := l.foldl (fun v b => mn 1048576 (16 * v + (hexR b).1)) v
def octval (l : List UInt8) (v : Int) : Int := l.foldl (fun v b => 8 * v + ((b.toNat : Int) - 48) % 256) v
def escN (l : List UInt8) : Nat := min 3 (l.takeWhile octU).length
def escL : List UInt8 → Int × Nat × Bool
 | [] => (0, 0, false)
 | c :: r =>
  if 0 ≤ Lib.indexByte [97, 98, 102, 110, 114, 116, 118, 92, 39, 34, 63] c then (bt (⟨#[7, 8, 12, 10, 13, 9, 11, 92, 39, 34, 63]⟩ : ByteArray) (Lib.indexByte [97, 98, 102, 110, 114, 116, 118, 92, 39, 34, 63] c), 1, true)
  else if c = 120 then (hexval (r.takeWhile hexU) 0 % 256, (r.takeWhile hexU).length + 1, decide (0 < (r.takeWhile hexU).length) && decide (hexval (r.takeWhile hexU) 0 ≤ 255))
  else (octval ((c :: r).take (escN (c :: r))) 0 % 256, escN (c :: r), decide (0 < escN (c :: r)) && decide (octval ((c :: r).take (escN (c :: r))) 0 ≤ 255))
theorem hexR_range (b : UInt8) : 0 ≤ (hexR b).1 ∧ (hexR b).1 ≤ 265 := by
 have := allU8 (p := fun b => decide (0 ≤ (hexR b).1 ∧ (hexR b).1 ≤ 265)) (by kernel_rfl) b
 exact of_decide_eq_true this
theorem esc0_loop (l : List UInt8) (hl : l.length ≤ 1000000000) (n : Nat) (hn : n + 1 ≤ l.length) : ∀ m i : Nat, n = i + m → ∀ (v : Int), 0 ≤ v → v ≤ 1048576 → ∀ k, m < k →
  token_escaped.l0 k (B l) n v n i = some (hexval ((l.drop (1 + i)).take m) v % 256, (n : Int) + 1, decide (0 < n) && decide (hexval ((l.drop (1 + i)).take m) v ≤ 255))
 | 0, i, hi, v, h0, h1, k + 1, _ => by
  simp only [token_escaped.l0]
  rw [if_neg (by omega), w64 _ (by omega)]
  simp only [List.take_zero, hexval, List.foldl_nil]
  by_cases c : (n : Int) > 0
  ·
   rw [if_pos c, decide_eq_true (p := 0 < n) (by omega)]; simp only [Bool.true_and]; rfl
  ·
   rw [if_neg c, decide_eq_false (p := 0 < n) (by omega)]; simp only [Bool.false_and]
 | m + 1, i, hi, v, h0, h1, k + 1, hk => by
  have hlt : 1 + i < l.length := by omega
  simp only [token_escaped.l0, B_size]
  have hr := hexR_range l[1 + i]
  rw [if_pos (by omega), w64 (1 + (i : Int)) (by omega), if_pos (by omega), if_pos (by omega)]
  have e : (1 + (i : Int)) = ((1 + i : Nat) : Int) := by omega
  rw [e, B_bt l (1 + i) hlt, hex_u]
  simp only [Option.bind_some]
  rw [w64 (16 * v) (by omega), w64 _ (by omega), w64 _ (by omega)]
  have ih := esc0_loop l hl n hn m (i + 1) (by omega) (mn 1048576 (16 * v + (hexR l[1 + i]).1)) (by unfold mn; split <;> omega) (by unfold mn; split <;> omega) k (by omega)
  simp only [Int.natCast_add, Int.natCast_one] at ih
  rw [ih, List.drop_eq_getElem_cons hlt]
  simp only [List.take_succ_cons, hexval, List.foldl_cons]
  rfl
theorem octval_le (l : List UInt8) (v : Int) (hv : 0 ≤ v) : 0 ≤ octval l v := by
 induction l generalizing v with
 | nil => exact hv
 | cons b l ih => exact ih _ (by show 0 ≤ 8 * v + ((b.toNat : Int) - 48) % 256; omega)
theorem esc1_loop (l : List UInt8) (n : Nat) (hn : n ≤ l.length) (hn3 : n ≤ 3) : ∀ m i : Nat, n = i + m → ∀ (v : Int), 0 ≤ v → v ≤ (300 : Int) * 9 ^ i → ∀ k, m < k →
  token_escaped.l1 k (B l) n v n i = some (octval ((l.drop i).take m) v % 256, (n : Int), decide (0 < n) && decide (octval ((l.drop i).take m) v ≤ 255))
 | 0, i, hi, v, h0, h1, k + 1, _ => by
  simp only [token_escaped.l1]
  rw [if_neg (by omega)]
  simp only [List.take_zero, octval, List.foldl_nil]
  by_cases c : (n : Int) > 0
  ·
   rw [if_pos c, decide_eq_true (p := 0 < n) (by omega)]; simp only [Bool.true_and]; rfl
  ·
   rw [if_neg c, decide_eq_false (p := 0 < n) (by omega)]; simp only [Bool.false_and]
 | m + 1, i, hi, v, h0, h1, k + 1, hk => by
  have hlt : i < l.length := by omega
  have hb := l[i].toNat_lt
  have hi3 : i = 0 ∨ i = 1 ∨ i = 2 := by omega
  have hv : v ≤ 24300 := by rcases hi3 with rfl | rfl | rfl <;> simp at h1 <;> omega
  simp only [token_escaped.l1, B_size]
  rw [if_pos (by omega), if_pos (by omega), if_pos (by omega), B_bt l i hlt]
  rw [w64 (8 * v) (by omega), w64 _ (by omega), w64 _ (by omega)]
  have ih := esc1_loop l n hn hn3 m (i + 1) (by omega) (8 * v + ((l[i].toNat : Int) - 48) % 256) (by omega) (by
   rcases hi3 with rfl | rfl | rfl <;> simp at h1 ⊢ <;> omega) k (by omega)
  simp only [Int.natCast_add, Int.natCast_one] at ih
  rw [ih, List.drop_eq_getElem_cons hlt]
  simp only [List.take_succ_cons, octval, List.foldl_cons]
  rfl
theorem esc_eq (l : List UInt8) (hl : l.length ≤ 1000000000) (k : Nat) (hk : l.length + 4 ≤ k) : token_escaped.f k (B l) = some ((escL l).1, ((escL l).2.1 : Int), (escL l).2.2) := by
 unfold token_escaped.f
 rw [B_toList, B_size]
 cases l with
 | nil => simp [escL]
 | cons c r =>
  rw [if_neg (by simp), if_pos (by simp only [List.length_cons]; omega), B_bt0]
  rw [show (⟨#[97, 98, 102, 110, 114, 116, 118, 92, 39, 34, 63]⟩ : ByteArray) = B [97, 98, 102, 110, 114, 116, 118, 92, 39, 34, 63] from rfl, indexByte_B]
  simp only [Option.bind_some]
  have ec : ((c.toNat : Int)).toNat.toUInt8 = c := by rw [Int.toNat_natCast]; apply UInt8.toNat_inj.1; simp [Nat.toUInt8]
  rw [ec]
  have hlt := indexByte_lt [97, 98, 102, 110, 114, 116, 118, 92, 39, 34, 63] c
  simp only [List.length_cons, List.length_nil] at hlt hl hk
  simp only [escL]
  by_cases h1 : 0 ≤ Lib.indexByte [97, 98, 102, 110, 114, 116, 118, 92, 39, 34, 63] c
  ·
   rw [if_pos (by omega), if_pos h1, if_pos (by omega), if_pos h1]; simp
  ·
   rw [if_neg (by omega), if_neg h1]
   by_cases h2 : c = 120
   ·
    have h2' : ((c.toNat : Nat) : Int) = 120 := (u8_int c 120 (by decide) (by decide)).2 h2
    rw [if_pos h2', if_pos h2, if_pos (by simp only [List.length_cons]; omega)]
    have ex : (B (c :: r)).extract 1 (c :: r).length = B r := by rw [← B_size, B_suffix]; rfl
    rw [ex, runL_eq _ hexU isF_hex2 (by decide) r (by omega)]
    simp only [Option.bind_some]
    have htw : (r.takeWhile hexU).length ≤ r.length := (List.takeWhile_prefix _).length_le
    have := esc0_loop (c :: r) (by simp only [List.length_cons]; omega) (r.takeWhile hexU).length (by simp only [List.length_cons]; omega) (r.takeWhile hexU).length 0 (by omega) 0 (by omega) (by omega) k (by omega)
    have et : ((c :: r).drop (1 + 0)).take (r.takeWhile hexU).length = r.takeWhile hexU := by
     simp only [Nat.add_zero, List.drop_succ_cons, List.drop_zero]
     exact (List.prefix_iff_eq_take.1 (List.takeWhile_prefix _)).symm
    rw [et] at this
    simp only [Int.natCast_zero] at this
    rw [this]
    simp
   ·
    have h2' : ¬ ((c.toNat : Nat) : Int) = 120 := fun h => h2 ((u8_int c 120 (by decide) (by decide)).1 h)
    rw [if_neg h2', if_neg h2, runL_eq _ octU isF_oct (by decide) (c :: r) (by simp only [List.length_cons]; omega)]
    simp only [Option.bind_some]
    have em : mn 3 (((c :: r).takeWhile octU).length : Int) = (escN (c :: r) : Int) := by unfold mn escN; split <;> omega
    have htw : ((c :: r).takeWhile octU).length ≤ (c :: r).length := (List.takeWhile_prefix _).length_le
    rw [em]
    have := esc1_loop (c :: r) (escN (c :: r)) (by unfold escN; omega) (by unfold escN; omega) (escN (c :: r)) 0 (by omega) 0 (by omega) (by simp) k (by unfold escN; omega)
    simp only [Int.natCast_zero, List.drop_zero] at this
    rw [this]

/-! quoted -/
def qF : Nat → UInt8 → List UInt8 → Option (List Int × Nat)
 | 0, _, _ => none
 | _ + 1, _, [] => none
 | k + 1, q, c :: r =>
  if c = q then some ([], 1) else if c = 10 then none
  else if c = 92 then (if (escL r).2.2 = true then (qF k q (r.drop (escL r).2.1)).map (fun p => ((escL r).1 :: p.1, p.2 + (escL r).2.1 + 1)) else none)
  else (qF k q r).map (fun p => ((c.toNat : Int) :: p.1, p.2 + 1))
theorem escL_le (l : List UInt8) : (escL l).2.1 ≤ l.length := by
 cases l with
 | nil => exact Nat.le_refl _
 | cons c r =>
  have h1 : (r.takeWhile hexU).length ≤ r.length := (List.takeWhile_prefix _).length_le
  have h2 : ((c :: r).takeWhile octU).length ≤ (c :: r).length := (List.takeWhile_prefix _).length_le
  simp only [escL, escN]
  split
  ·
   simp
  ·
   split
   ·
    simp only [List.length_cons]; omega
   ·
    simp only [List.length_cons] at h2 ⊢; omega
theorem quoted_eq (l : List UInt8) (hl : l.length ≤ 1000000000) (q : UInt8) : ∀ (k i : Nat), i ≤ l.length → l.length - i < k → ∀ (acc : List Int), acc.length ≤ i → ∀ k', k + l.length + 6 ≤ k' →
  token_quoted.l0 k' (B l) q.toNat acc i = some (match qF k q (l.drop i) with | some p => (acc ++ p.1, ((i + p.2 : Nat) : Int), true) | none => ([], 0, false))
 | 0, _, _, h, _, _, _, _ => absurd h (by omega)
 | k + 1, i, hi, hk, acc, ha, k' + 1, hk' => by
  simp only [token_quoted.l0, B_size]
  by_cases he : i = l.length
  ·
   subst he
   rw [if_neg (by omega), List.drop_length]
   simp [qF]
  ·
   have hlt : i < l.length := by omega
   rw [if_pos (by omega), if_pos (by omega), B_bt l i hlt, List.drop_eq_getElem_cons hlt]
   simp only [qF]
   by_cases h1 : l[i] = q
   ·
    rw [if_pos (by rw [h1]), if_pos h1, w64 _ (by omega)]
    simp
   ·
    rw [if_neg (fun h => h1 (UInt8.toNat_inj.1 (by omega))), if_neg h1]
    by_cases h2 : l[i] = 10
    ·
     rw [if_pos ((u8_int _ 10 (by decide) (by decide)).2 h2), if_pos h2]
    ·
     rw [if_neg (fun h => h2 ((u8_int _ 10 (by decide) (by decide)).1 h)), if_neg h2]
     by_cases h3 : l[i] = 92
     ·
      rw [if_pos ((u8_int _ 92 (by decide) (by decide)).2 h3), if_pos h3, w64 ((i : Int) + 1) (by omega), if_pos (by omega), if_pos (by omega)]
      have ex : (B l).extract ((i : Int) + 1).toNat l.length = B (l.drop (i + 1)) := by
       rw [show ((i : Int) + 1).toNat = i + 1 by omega, ← B_suffix, B_size]
      have hd : (l.drop (i + 1)).length = l.length - (i + 1) := List.length_drop
      rw [ex, esc_eq (l.drop (i + 1)) (by omega) k' (by omega)]
      simp only [Option.bind_some]
      have hle := escL_le (l.drop (i + 1))
      cases hok : (escL (l.drop (i + 1))).2.2
      ·
       simp
      ·
       simp only [if_true]
       rw [if_pos (by omega), w64 ((i : Int) + _) (by omega), w64 _ (by omega)]
       have ih := quoted_eq l hl q k (i + 1 + (escL (l.drop (i + 1))).2.1) (by omega) (by omega) (acc ++ [(escL (l.drop (i + 1))).1]) (by simp; omega) k' (by omega)
       rw [show ((i : Int) + ((escL (l.drop (i + 1))).2.1 : Int) + 1) = ((i + 1 + (escL (l.drop (i + 1))).2.1 : Nat) : Int) by omega, ih, List.drop_drop]
       cases qF k q (l.drop (i + 1 + (escL (l.drop (i + 1))).2.1)) with
       | none => simp
       | some p => simp; omega
     ·
      rw [if_neg (fun h => h3 ((u8_int _ 92 (by decide) (by decide)).1 h)), if_neg h3, if_pos (by omega), w64 _ (by omega)]
      have ih := quoted_eq l hl q k (i + 1) (by omega) (by omega) (acc ++ [(l[i].toNat : Int)]) (by simp; omega) k' (by omega)
      simp only [Int.natCast_add, Int.natCast_one] at ih
      rw [ih]
      cases qF k q (l.drop (i + 1)) with
      | none => simp
      | some p => simp; omega

/-! signs -/
def marksL : List UInt8 := [91, 93, 40, 41, 123, 125, 46, 38, 42, 43, 45, 126, 33, 47, 37, 60, 62, 94, 124, 63, 58, 59, 61, 44]
def signF (l : List UInt8) : List UInt8 :=
 match signsL.find? (fun x => x.data.toList.isPrefixOf l) with
 | some x => x.data.toList
 | none => if 0 ≤ Lib.indexByte marksL (l.headD 0) then l.take 1 else []
theorem signsL_length : signsL.length = 21 := by kernel_rfl
theorem sign_loop (l : List UInt8) (hl : l ≠ []) : ∀ m i : Nat, 21 = i + m → ∀ k, m < k → token_sign.l0 k (B l) i =
  some (B (match (signsL.drop i).find? (fun x => x.data.toList.isPrefixOf l) with | some x => x.data.toList | none => if 0 ≤ Lib.indexByte marksL (l.headD 0) then l.take 1 else []))
 | 0, i, hi, k + 1, _ => by
  simp only [token_sign.l0]
  rw [if_neg (by omega), List.drop_eq_nil_of_le (by rw [signsL_length]; omega)]
  simp only [List.find?_nil]
  unfold token_sign.tl
  cases l with
  | nil => exact absurd rfl hl
  | cons c r =>
   rw [B_size, if_pos (by simp only [List.length_cons]; omega), B_bt0]
   rw [show (⟨#[91, 93, 40, 41, 123, 125, 46, 38, 42, 43, 45, 126, 33, 47, 37, 60, 62, 94, 124, 63, 58, 59, 61, 44]⟩ : ByteArray) = B marksL from rfl, indexByte_B]
   have ec : ((c.toNat : Int)).toNat.toUInt8 = c := by rw [Int.toNat_natCast]; apply UInt8.toNat_inj.1; simp [Nat.toUInt8]
   rw [ec]
   simp only [Option.bind_some]
   by_cases h : 0 ≤ Lib.indexByte marksL ((c :: r).headD 0)
   ·
    have h' : 0 ≤ Lib.indexByte marksL c := h
    rw [if_pos (by omega), if_pos (by simp only [List.length_cons]; omega), if_pos h, B_prefix]
   ·
    have h' : ¬ 0 ≤ Lib.indexByte marksL c := h
    rw [if_neg (by omega), if_neg h]; rfl
 | m + 1, i, hi, k + 1, hk => by
  have hlt : i < signsL.length := by rw [signsL_length]; omega
  simp only [token_sign.l0]
  rw [if_pos (by omega)]
  have e : signsL.getD i ⟨#[]⟩ = B signsL[i].data.toList := by rw [B_of]; simp [hlt]
  rw [e, hasPrefix_B]
  simp only [Option.bind_some]
  have ih := sign_loop l hl m (i + 1) (by omega) k (by omega)
  rw [ih, List.drop_eq_getElem_cons hlt, List.find?_cons]
  cases signsL[i].data.toList.isPrefixOf l <;> simp
theorem sign_eq (l : List UInt8) (hl : l ≠ []) : token_sign.f (B l) = some (B (signF l)) := by
 unfold token_sign.f signF
 have := sign_loop l hl 21 0 rfl 22 (by omega)
 rw [List.drop_zero] at this
 exact this

/-! numbers -/
def orx (b : UInt8) : Int := Go.bits .or .u8 b.toNat 32
def xq : List UInt8 → Bool
 | a :: b :: _ => decide (a = 48) && (orx b == 120)
 | _ => false
def valL (base : Int) : List UInt8 → Int → Option Int
 | [], v => some v
 | b :: r, v => if (hexR b).2 = true then (if (hexR b).1 ≥ base then none else valL base r (mn 8589934592 (v * base + (hexR b).1))) else none
def valEnd (l : List UInt8) (base : Int) (ten : Bool) : Int × Bool × Bool :=
 if l = [] then (0, false, false) else match valL base l 0 with | some v => (v, ten, true) | none => (0, false, false)
def valueF (l : List UInt8) : Int × Bool × Bool :=
 if xq l = true then valEnd (l.drop 2) 16 false else if l.head? = some 48 then valEnd l 8 false else valEnd l 10 true
theorem val_loop (l : List UInt8) (hl : l.length ≤ 1000000000) (base : Int) (hb : 0 ≤ base) (hb' : base ≤ 16) (ten : Bool) : ∀ m i : Nat, l.length = i + m → ∀ (v : Int), 0 ≤ v → v ≤ 8589934592 → ∀ k, m < k →
  token_value.l0 k (B l) base ten v l.length i = some (match valL base (l.drop i) v with | some v => (v, ten, true) | none => (0, false, false))
 | 0, i, hi, v, _, _, k + 1, _ => by
  simp only [token_value.l0]
  rw [if_neg (by omega), List.drop_eq_nil_of_le (by omega)]
  simp [valL]
 | m + 1, i, hi, v, h0, h1, k + 1, hk => by
  have hlt : i < l.length := by omega
  have hr := hexR_range l[i]
  simp only [token_value.l0, B_size]
  rw [if_pos (by omega), if_pos (by omega), if_pos (by omega), B_bt l i hlt, hex_u, List.drop_eq_getElem_cons hlt]
  simp only [Option.bind_some, valL]
  cases (hexR l[i]).2
  ·
   simp
  ·
   simp only [if_true]
   by_cases c : (hexR l[i]).1 ≥ base
   ·
    rw [if_pos c, if_pos c]
   ·
    rw [if_neg c, if_neg c]
    have hm : 0 ≤ v * base ∧ v * base ≤ 137438953472 := by
     constructor
     ·
      exact Int.mul_nonneg h0 hb
     ·
      calc v * base ≤ 8589934592 * base := Int.mul_le_mul_of_nonneg_right h1 hb
       _ ≤ 8589934592 * 16 := Int.mul_le_mul_of_nonneg_left hb' (by decide)
       _ = 137438953472 := by decide
    rw [w64 (v * base) (by omega), w64 _ (by omega), w64 _ (by omega)]
    have ih := val_loop l hl base hb hb' ten m (i + 1) (by omega) (mn 8589934592 (v * base + (hexR l[i]).1)) (by unfold mn; split <;> omega) (by unfold mn; split <;> omega) k (by omega)
    simp only [Int.natCast_add, Int.natCast_one] at ih
    rw [ih]
theorem val_j1 (l : List UInt8) (hl : l.length ≤ 1000000000) (base : Int) (hb : 0 ≤ base) (hb' : base ≤ 16) (ten : Bool) (k : Nat) (hk : l.length + 2 ≤ k) :
  token_value.j1 k (B l) base ten = some (valEnd l base ten) := by
 obtain ⟨k, rfl⟩ : ∃ j, k = j + 1 := ⟨k - 1, by omega⟩
 simp only [token_value.j1, B_toList, B_size]
 unfold valEnd
 by_cases h : l = []
 ·
  rw [if_pos h, if_pos h]
 ·
  rw [if_neg h, if_neg h]
  have := val_loop l hl base hb hb' ten l.length 0 (by omega) 0 (by omega) (by omega) k (by omega)
  simp only [List.drop_zero, Int.natCast_zero] at this
  exact this
theorem value_eq (l : List UInt8) (hl : l.length ≤ 1000000000) (k : Nat) (hk : l.length + 4 ≤ k) : token_value.f k (B l) = some (valueF l) := by
 obtain ⟨k, rfl⟩ : ∃ j, k = j + 1 := ⟨k - 1, by omega⟩
 have hj : ∀ x : Bool, x = false → token_value.j0 (k + 1) (B l) 10 true x = some (if l.head? = some 48 then valEnd l 8 false else valEnd l 10 true) := by
  rintro _ rfl
  simp only [token_value.j0, B_toList, B_size]
  rw [if_neg (by simp)]
  cases l with
  | nil =>
   rw [if_pos rfl, val_j1 [] hl 10 (by decide) (by decide) true k (by omega)]
   simp
  | cons a r =>
   rw [if_neg (by simp), if_pos (by simp only [List.length_cons]; omega), B_bt0]
   by_cases c : a = 48
   ·
    rw [if_pos ((u8_int a 48 (by decide) (by decide)).2 c), val_j1 _ hl 8 (by decide) (by decide) false k (by omega), c]
    simp
   ·
    rw [if_neg (fun h => c ((u8_int a 48 (by decide) (by decide)).1 h)), val_j1 _ hl 10 (by decide) (by decide) true k (by omega)]
    simp [c]
 unfold token_value.f valueF
 rw [B_size]
 match l, hl, hk, hj with
 | [], _, _, hj => rw [if_neg (by simp), hj _ rfl]; simp [xq]
 | [a], _, _, hj => rw [if_neg (by simp), hj _ rfl]; simp [xq]
 | a :: b :: r, hl, hk, hj =>
  have hL : (a :: b :: r).length = r.length + 2 := by simp
  rw [if_pos (by omega), if_pos (by omega), B_bt0]
  have hb1 : bt (B (a :: b :: r)) 1 = (b.toNat : Int) := B_bt (a :: b :: r) 1 (by simp)
  rw [hb1]
  by_cases c : a = 48
  ·
   rw [if_pos ((u8_int a 48 (by decide) (by decide)).2 c), if_pos (by omega)]
   by_cases d : orx b = 120
   ·
    have hx : xq (a :: b :: r) = true := by simp [xq, c, d]
    rw [if_pos hx]
    have d' : (Go.bits .or .u8 (b.toNat : Int) 32 == 120) = true := by rw [beq_iff_eq]; exact d
    rw [d']
    simp only [token_value.j0, B_size, if_true]
    rw [if_pos (by omega)]
    have ex : (B (a :: b :: r)).extract 2 (a :: b :: r).length = B r := by rw [← B_size, B_suffix]; rfl
    rw [ex, val_j1 r (by omega) 16 (by decide) (by decide) false k (by omega)]
    rfl
   ·
    have hx : xq (a :: b :: r) = false := by simp [xq, d]
    rw [hx]
    have d' : (Go.bits .or .u8 (b.toNat : Int) 32 == 120) = false := by rw [beq_eq_false_iff_ne]; exact d
    rw [hj _ d']
    simp
  ·
   have hx : xq (a :: b :: r) = false := by simp [xq, c]
   rw [if_neg (fun h => c ((u8_int a 48 (by decide) (by decide)).1 h)), hj _ rfl, hx]
   simp
def numBody (l : List UInt8) : List UInt8 :=
 if (decide (2 < l.length) && xq l) = true then l.take (2 + ((l.drop 2).takeWhile hexU).length) else Lib.trimRightS l [117, 85, 108, 76]
def flagsF : List UInt8 → Bool → Bool → Option (Bool × Bool)
 | [], u, f => some (u, f)
 | b :: r, u, f => if orx b = 108 then (if f = true then none else flagsF r u true) else if orx b = 117 then (if u = true then none else flagsF r true f) else none
def numTl (body : List UInt8) (u l : Bool) : Int × ByteArray × Int × Int × Int × Int × Bool :=
 if (valueF body).2.2 = false then number.zero else if (valueF body).1 > 4294967295 then number.zero else
  if u = false ∧ (valueF body).1 > 2147483647 ∧ (valueF body).2.1 = true then number.zero else (3, number.name (u || decide ((valueF body).1 > 2147483647)) l, (valueF body).1, 0, 0, 0, true)
def numF (l : List UInt8) : Int × ByteArray × Int × Int × Int × Int × Bool :=
 match flagsF (l.drop (numBody l).length) false false with
 | none => number.zero
 | some p => numTl (numBody l) p.1 p.2
theorem numBody_le (l : List UInt8) : (numBody l).length ≤ l.length := by
 unfold numBody
 split
 ·
  rw [List.length_take]; omega
 ·
  unfold Lib.trimRightS
  rw [List.length_reverse]
  have := (List.dropWhile_suffix (fun x => ([117, 85, 108, 76] : List UInt8).contains x) (l := l.reverse)).length_le
  rw [List.length_reverse] at this
  exact this
theorem hexq_eq (l : List UInt8) : number.hexq (B l) = (decide (2 < l.length) && xq l) := by
 unfold number.hexq
 rw [B_size]
 match l with
 | [] => simp
 | [a] => simp
 | [a, b] => simp
 | a :: b :: c :: r =>
  rw [B_bt0, show bt (B (a :: b :: c :: r)) 1 = (b.toNat : Int) from B_bt (a :: b :: c :: r) 1 (by simp)]
  rw [decide_eq_true (p := 2 < ((a :: b :: c :: r).length : Int)) (by simp only [List.length_cons]; omega), decide_eq_true (p := 2 < (a :: b :: c :: r).length) (by simp only [List.length_cons]; omega)]
  simp only [Bool.true_and, xq]
  unfold orx
  congr 1
  rw [Bool.eq_iff_iff, beq_iff_eq, decide_eq_true_iff]
  exact u8_int a 48 (by decide) (by decide)
theorem trim_eq (l cs : List UInt8) (hl : l.length ≤ 1000000000) (h1 : cs.length = 4) (h2 : cs.all (fun b => decide (b.toNat < 128)) = true) : strings_TrimRight.f (B l) (B cs) = some (B (Lib.trimRightS l cs)) := by
 unfold strings_TrimRight.f
 rw [B_size, B_size, B_data, B_data, if_pos ⟨by omega, by omega, h2⟩]
 rfl
theorem hex_tail (l : List UInt8) (n : Nat) (hn : 2 + n ≤ l.length ∧ l.length ≤ 1000000000) :
  ((some (n : Int)).bind fun n => if 0 ≤ n then (if wrap64 (2 + n) ≤ (l.length : Int) then (if 0 ≤ wrap64 (2 + n) then some ((B l).extract 0 (wrap64 (2 + n)).toNat) else none) else none) else none) = some (B (l.take (2 + n))) := by
 have e : wrap64 (2 + (n : Int)) = ((2 + n : Nat) : Int) := by rw [w64 _ (by omega)]; omega
 rw [Option.bind_some, e, if_pos (by omega), if_pos (by omega), if_pos (by omega), Int.toNat_natCast, B_prefix]
theorem body_eq (l : List UInt8) (hl : l.length ≤ 1000000000) : number.body (B l) = some (B (numBody l)) := by
 unfold number.body
 rw [show (⟨#[117, 85, 108, 76]⟩ : ByteArray) = B [117, 85, 108, 76] from rfl, trim_eq l _ hl rfl (by decide), hexq_eq]
 rw [Option.bind_some, B_size]
 unfold numBody
 by_cases h : (decide (2 < l.length) && xq l) = true
 ·
  rw [if_pos h, if_pos h]
  have h2 : 2 < l.length := by simp at h; exact h.1
  have ex : (B l).extract 2 l.length = B (l.drop 2) := by rw [← B_size, B_suffix]
  have hle : ((l.drop 2).takeWhile hexU).length ≤ l.length - 2 := by
   have := (List.takeWhile_prefix (p := hexU) (l := l.drop 2)).length_le
   rw [List.length_drop] at this
   exact this
  have hr := runL_eq _ hexU isF_hex1 (by decide) (l.drop 2) (by rw [List.length_drop]; omega)
  generalize ((l.drop 2).takeWhile hexU).length = n at hr hle ⊢
  rw [ex, hr]
  exact hex_tail l n (by omega)
 ·
  rw [if_neg h, if_neg h]
theorem flags_loop (x body : List UInt8) (hx : x.length ≤ 1000000000) (hb : body.length ≤ 1000000000) (K : Nat) (hK : body.length + 4 ≤ K) : ∀ m i : Nat, x.length = i + m → ∀ (u f : Bool) (k : Nat), m < k →
  number.l0 K (B x) (B body) k i u f = some (match flagsF (x.drop i) u f with | none => number.zero | some p => numTl body p.1 p.2)
 | 0, i, hi, u, f, k + 1, _ => by
  simp only [number.l0, B_size]
  rw [if_neg (by omega), List.drop_eq_nil_of_le (by omega)]
  simp only [flagsF, number.tl]
  rw [value_eq body hb K hK]
  simp only [Option.bind_some, numTl]
  split
  ·
   rfl
  ·
   split
   ·
    rfl
   ·
    split <;> rfl
 | m + 1, i, hi, u, f, k + 1, hk => by
  have hlt : i < x.length := by omega
  simp only [number.l0, B_size]
  rw [if_pos (by omega), if_pos (by omega), B_bt x i hlt, List.drop_eq_getElem_cons hlt, w64 _ (by omega)]
  have ih := fun u f => flags_loop x body hx hb K hK m (i + 1) (by omega) u f k (by omega)
  simp only [Int.natCast_add, Int.natCast_one] at ih
  rw [ih, ih]
  simp only [flagsF]
  by_cases c : orx x[i] = 108
  ·
   have c' : Go.bits .or .u8 (x[i].toNat : Int) 32 = 108 := c
   rw [if_pos c', if_pos c]
   cases f <;> simp
  ·
   have c' : ¬ Go.bits .or .u8 (x[i].toNat : Int) 32 = 108 := c
   rw [if_neg c', if_neg c]
   by_cases d : orx x[i] = 117
   ·
    have d' : Go.bits .or .u8 (x[i].toNat : Int) 32 = 117 := d
    rw [if_pos d', if_pos d]
    cases u <;> simp
   ·
    have d' : ¬ Go.bits .or .u8 (x[i].toNat : Int) 32 = 117 := d
    rw [if_neg d', if_neg d]
theorem num_eq (l : List UInt8) (hl : l.length ≤ 1000000000) : token_number.f (B l) = some (numF l) := by
 unfold token_number.f numF
 have hb := numBody_le l
 rw [body_eq l hl]
 simp only [Option.bind_some, B_size]
 rw [if_pos (by omega)]
 have ex : (B l).extract (numBody l).length l.length = B (l.drop (numBody l).length) := by rw [← B_size l, B_suffix]
 have hd : (l.drop (numBody l).length).length = l.length - (numBody l).length := List.length_drop
 rw [ex]
 have := flags_loop (l.drop (numBody l).length) (numBody l) (by omega) (by omega) (l.length + 4) (by omega) (l.length - (numBody l).length) 0 (by omega) false false (l.length + 1) (by omega)
 simp only [List.drop_zero, Int.natCast_zero] at this
 exact this

/-! one token -/
structure Tk where
 kind : Int
 text : List UInt8
 num : Int
 len : Nat
 err : Int
deriving DecidableEq
def tkBad (e : Int) : Tk := ⟨0, [], 0, 0, e⟩
def strL (xs : List Int) : List UInt8 := (strOfNums xs).data.toList
def oneF : List UInt8 → Tk
 | [] => tkBad 20
 | c :: r =>
  if letU c = true then
   (if ((c :: r).takeWhile tailU).length > 63 then tkBad 22 else ⟨if kw (B ((c :: r).takeWhile tailU)) = true then 2 else 1, (c :: r).takeWhile tailU, 0, ((c :: r).takeWhile tailU).length, 0⟩)
  else if digU c = true then
   (if (numF ((c :: r).takeWhile tailU)).2.2.2.2.2.2 = true then ⟨(numF ((c :: r).takeWhile tailU)).1, (numF ((c :: r).takeWhile tailU)).2.1.data.toList, (numF ((c :: r).takeWhile tailU)).2.2.1, ((c :: r).takeWhile tailU).length, 0⟩ else tkBad 21)
  else if c = 39 then
   (match qF (r.length + 1) 39 r with | none => tkBad 26 | some p => if p.1.length = 1 then ⟨4, [], wrap64 (IntKind.i8.wrap (rd p.1 0)), p.2 + 1, 0⟩ else tkBad 26)
  else if c = 34 then
   (match qF (r.length + 1) 34 r with | none => tkBad 26 | some p => ⟨5, strL p.1, 0, p.2 + 1, 0⟩)
  else if signF (c :: r) = [] then tkBad 20 else ⟨6, signF (c :: r), 0, (signF (c :: r)).length, 0⟩
theorem qF_le : ∀ (k : Nat) (q : UInt8) (l : List UInt8) (p : List Int × Nat), qF k q l = some p → p.2 ≤ l.length
 | 0, _, _, _, h => by simp [qF] at h
 | _ + 1, _, [], _, h => by simp [qF] at h
 | k + 1, q, c :: r, p, h => by
  simp only [qF] at h
  simp only [List.length_cons]
  have hle := escL_le r
  split at h
  ·
   cases h; simp
  ·
   split at h
   ·
    cases h
   ·
    split at h
    ·
     split at h
     ·
      obtain ⟨p', h1, rfl⟩ := Option.map_eq_some_iff.1 h
      have := qF_le k q _ p' h1
      rw [List.length_drop] at this
      simp only; omega
     ·
      cases h
    ·
     obtain ⟨p', h1, rfl⟩ := Option.map_eq_some_iff.1 h
     have := qF_le k q _ p' h1
     simp only; omega
theorem numF_zeros (l : List UInt8) : (numF l).2.2.2.1 = 0 ∧ (numF l).2.2.2.2.1 = 0 ∧ (numF l).2.2.2.2.2.1 = 0 := by
 unfold numF
 split
 ·
  exact ⟨rfl, rfl, rfl⟩
 ·
  unfold numTl
  split
  ·
   exact ⟨rfl, rfl, rfl⟩
  ·
   split
   ·
    exact ⟨rfl, rfl, rfl⟩
   ·
    split <;> exact ⟨rfl, rfl, rfl⟩
theorem one_eq (l : List UInt8) (h0 : l ≠ []) (hl : l.length ≤ 1000000000) (k : Nat) (hk : 2 * l.length + 20 ≤ k) :
  token_one.f k (B l) = some ((oneF l).kind, B (oneF l).text, (oneF l).num, 0, 0, 0, ((oneF l).len : Int), (oneF l).err) := by
 cases l with
 | nil => exact absurd rfl h0
 | cons c r =>
  obtain ⟨k, rfl⟩ : ∃ j, k = j + 2 := ⟨k - 2, by omega⟩
  have hlen : (c :: r).length = r.length + 1 := rfl
  unfold token_one.f
  rw [B_size, if_pos (by omega), B_bt0, let_u]
  simp only [Option.bind_some, oneF]
  have htw : ((c :: r).takeWhile tailU).length ≤ (c :: r).length := (List.takeWhile_prefix _).length_le
  have etw : (B (c :: r)).extract 0 ((((c :: r).takeWhile tailU).length : Int)).toNat = B ((c :: r).takeWhile tailU) := by
   rw [Int.toNat_natCast, B_prefix]
   congr 1
   exact (List.prefix_iff_eq_take.1 (List.takeWhile_prefix _)).symm
  by_cases c1 : letU c = true
  ·
   rw [if_pos c1, if_pos c1, runL_eq _ tailU isF_tail (by decide) _ (by omega)]
   simp only [Option.bind_some]
   by_cases d : ((c :: r).takeWhile tailU).length > 63
   ·
    rw [if_pos (by omega), if_pos d]; rfl
   ·
    rw [if_neg (by omega), if_neg d, if_pos (by omega), if_pos (by omega), etw, keyword_eq]
    simp only [Option.bind_some]
    cases kw (B ((c :: r).takeWhile tailU)) <;> simp
  ·
   rw [if_neg c1, if_neg c1, dig_u]
   simp only [Option.bind_some]
   by_cases c2 : digU c = true
   ·
    rw [if_pos c2, if_pos c2, runL_eq _ tailU isF_tail (by decide) _ (by omega)]
    simp only [Option.bind_some]
    rw [if_pos (by omega), if_pos (by omega), etw, num_eq _ (by omega)]
    simp only [Option.bind_some]
    obtain ⟨z1, z2, z3⟩ := numF_zeros ((c :: r).takeWhile tailU)
    cases (numF ((c :: r).takeWhile tailU)).2.2.2.2.2.2
    ·
     simp [tkBad]; rfl
    ·
     simp [z1, z2, z3, B_of]
   ·
    rw [if_neg c2, if_neg c2]
    have ex : (B (c :: r)).extract 1 (c :: r).length = B r := by rw [← B_size, B_suffix]; rfl
    have hq := fun q : UInt8 => quoted_eq r (by omega) q (r.length + 1) 0 (by omega) (by omega) [] (by simp) (k + 1) (by omega)
    simp only [Int.natCast_zero, List.drop_zero, List.nil_append] at hq
    by_cases c3 : c = 39
    ·
     subst c3
     rw [if_pos (by decide), if_pos rfl]
     simp only [token_one.j0, B_size, if_true]
     rw [if_pos (by omega), ex]
     unfold token_quoted.f
     rw [hq]
     simp only [Option.bind_some]
     cases hQ : qF (r.length + 1) 39 r with
     | none => simp [token_one.j1, tkBad]; rfl
     | some p =>
      have hp := qF_le _ _ _ _ hQ
      simp only [if_true]
      by_cases g : p.1.length = 1
      ·
       simp [token_one.j1, g]
       rw [w64 _ (by omega)]
       exact ⟨rfl, by omega⟩
      ·
       have g' : ((p.1.length : Int) != 1) = true := by simp; omega
       simp [token_one.j1, g', g, tkBad]
       rfl
    ·
     rw [if_neg (fun h => c3 ((u8_int c 39 (by decide) (by decide)).1 h)), if_neg c3]
     by_cases c4 : c = 34
     ·
      subst c4
      simp only [token_one.j0, B_size]
      rw [if_pos (by decide), if_pos (by omega), ex]
      unfold token_quoted.f
      rw [hq]
      simp only [Option.bind_some]
      cases hQ : qF (r.length + 1) 34 r with
      | none => simp [token_one.j1, tkBad]; rfl
      | some p =>
       have hp := qF_le _ _ _ _ hQ
       simp [token_one.j1, strL, B_of]
       rw [w64 _ (by omega)]
     ·
      rw [if_neg c4]
      have c4' : ((c.toNat : Int) == 34) = false := by
       rw [beq_eq_false_iff_ne]
       exact fun h => c4 ((u8_int c 34 (by decide) (by decide)).1 h)
      rw [c4']
      simp only [token_one.j0]
      rw [if_neg (by simp), sign_eq _ (by simp)]
      simp only [Option.bind_some, B_toList, B_size]
      by_cases g : signF (c :: r) = []
      ·
       rw [if_pos g, if_pos g]; rfl
      ·
       rw [if_neg g, if_neg g]
end Go.Proofs.YtpfjkpknljigmaaDoor.Q
