/- The printed function of the law TokenBack answers true for every list of at most 2000000 tokens whose texts have at most 2000000 bytes each. -/
import Derived.Test.YtpfjkpknljigmaaDoorPB
import Derived.Test.YtpfjkpknljigmaaDoorPS
import Derived.Test.YtpfjkpknljigmaaDoorPureTokenFirst
import Derived.Test.YtpfjkpknljigmaaDoorQx15
import Derived.Test.YtpfjkpknljigmaaDoorQx16
import Derived.Test.YtpfjkpknljigmaaDoorQx17
import Derived.Test.YtpfjkpknljigmaaDoorQx7
namespace Go.Proofs.YtpfjkpknljigmaaDoor.Q
open Go.RowKit Go.Proofs.YtpfjkpknljigmaaDoorW.PrintWords Go.Proofs.YtpfjkpknljigmaaDoorW.PrintLast Go.Proofs.YtpfjkpknljigmaaDoorW.PrintMore

/-! Join -/
def tokW (t : S40) : List UInt8 := writtenL t.f0 t.f1.data.toList t.f2
def mayS (t : S40) : Bool := mayF t.f0 t.f1.data.toList t.f2
def okAt (t : S40) (r : List S40) : Bool := mayS t && (!(t.f0 == 0) || r.isEmpty)
def wrs : List S40 → Option (List (List UInt8))
 | [] => some []
 | t :: r => if okAt t r = true then (wrs r).map (tokW t :: ·) else none
theorem join_loop (L : List S40) (hL : L.length ≤ 2000000) (hT : ∀ t ∈ L, t.f1.size ≤ 2000000) : ∀ m i, L.length = i + m → ∀ acc : List ByteArray, acc.length = i → ∀ k, m + 4000100 ≤ k →
  token_Join.l0 k L acc L L.length i = match wrs (L.drop i) with
   | none => some (B [], 2)
   | some ws => (strings_Join.f (acc ++ ws.map B) (B [32])).bind (fun t => some (t, 0))
 | 0, i, hi, acc, ha, 0, hk => absurd hk (by omega)
 | 0, i, hi, acc, ha, k + 1, _ => by
  simp only [token_Join.l0]
  rw [if_neg (by omega), List.drop_eq_nil_of_le (by omega)]
  simp only [wrs, List.map_nil, List.append_nil]
  rfl
 | m + 1, i, hi, acc, ha, 0, hk => absurd hk (by omega)
 | m + 1, i, hi, acc, ha, k + 1, hk => by
  have hlt : i < L.length := by omega
  have ht := hT L[i] (List.getElem_mem hlt)
  have hd : L.drop i = L[i] :: L.drop (i + 1) := List.drop_eq_getElem_cons hlt
  have hsz : L[i].f1 = B L[i].f1.data.toList := (B_of _).symm
  have hlen : L[i].f1.data.toList.length ≤ 2000000 := by rw [Array.length_toList]; exact ht
  have hr : (L.drop (i + 1)).isEmpty = decide (L.length ≤ i + 1) := by
   rw [Bool.eq_iff_iff, List.isEmpty_iff, decide_eq_true_iff, List.drop_eq_nil_iff]
  have hwr := write_eq k L[i].f0 L[i].f1.data.toList (by omega) L[i].f2 L[i].f3.f0 L[i].f3.f1 L[i].f3.f2 (by omega)
  rw [← hsz] at hwr
  simp only [token_Join.l0]
  rw [if_pos (by omega), if_pos (by omega), if_pos (by omega), rd_at L i hlt, hwr, Option.bind_some, hd]
  simp only [wrs, okAt, hr]
  by_cases hm : mayS L[i] = true
  ·
   have hm' : mayF L[i].f0 L[i].f1.data.toList L[i].f2 = true := hm
   have ih := join_loop L hL hT m (i + 1) (by omega) (acc ++ [B (tokW L[i])]) (by simp [ha]) k (by omega)
   simp only [Int.natCast_add, Int.natCast_one] at ih
   have fin : (if acc.length < 8796093022208 then token_Join.l0 k L (acc ++ [B (tokW L[i])]) L L.length (wrap64 ((i : Int) + 1)) else none) = match (wrs (L.drop (i + 1))).map (tokW L[i] :: ·) with
     | none => some (B [], 2)
     | some ws => (strings_Join.f (acc ++ ws.map B) (B [32])).bind (fun t => some (t, 0)) := by
    rw [if_pos (by omega), w64 _ (by omega), ih]
    cases wrs (L.drop (i + 1)) with
    | none => rfl
    | some ws => simp only [Option.map_some, List.map_cons]; rw [List.append_assoc]; rfl
   rw [if_pos hm']
   simp only [if_true]
   rw [w64 ((L.length : Int) - 1) (by omega), hm, Bool.true_and]
   by_cases h0 : L[i].f0 = 0
   ·
    rw [if_pos h0]
    have hb : (L[i].f0 == 0) = true := by rw [h0]; rfl
    rw [hb]
    by_cases hl : (i : Int) < (L.length : Int) - 1
    ·
     rw [if_pos hl, decide_eq_false (p := L.length ≤ i + 1) (by omega)]
     rfl
    ·
     rw [if_neg hl, decide_eq_true (p := L.length ≤ i + 1) (by omega)]
     simp only [Bool.not_true, Bool.or_true, if_true]
     exact fin
   ·
    rw [if_neg h0]
    have hb : (L[i].f0 == 0) = false := by rw [beq_eq_false_iff_ne]; exact h0
    rw [hb]
    simp only [Bool.not_false, Bool.true_or, if_true]
    exact fin
  ·
   have hm' : ¬ mayF L[i].f0 L[i].f1.data.toList L[i].f2 = true := hm
   have hm2 : mayS L[i] = false := by simpa using hm
   rw [if_neg hm', hm2, Bool.false_and, if_neg (by simp), if_neg (by simp)]
   rfl
theorem join_len (ws : List (List UInt8)) (n : Nat) (h : ∀ w ∈ ws, w.length ≤ n) : (Lib.join ws [32]).length ≤ ws.length * (n + 1) := by
 cases ws with
 | nil => simp [Lib.join_nil]
 | cons x r =>
  rw [Lib.join_cons, List.length_append, Lib.joinTail_length]
  have h1 := h x (by simp)
  have h2 : Lib.lens r ≤ r.length * n := by
   have hr : ∀ w ∈ r, w.length ≤ n := fun w hw => h w (by simp [hw])
   clear h h1
   induction r with
   | nil => simp [Lib.lens]
   | cons y r ih =>
    have := ih (fun w hw => hr w (by simp [hw]))
    have hy := hr y (by simp)
    simp only [Lib.lens, List.map_cons, List.sum_cons, List.length_cons, Nat.add_mul] at this ⊢
    omega
  simp only [List.length_cons, List.length_nil, Nat.add_mul, Nat.mul_add, Nat.one_mul, Nat.mul_one, Nat.zero_add]
  omega
theorem wrs_spec (L : List S40) : ∀ ws, wrs L = some ws → ws = L.map tokW ∧ (∀ t ∈ L, mayS t = true) ∧ ∀ a t b, L = a ++ t :: b → t.f0 = 0 → b = [] := by
 induction L with
 | nil => intro ws h; cases h; exact ⟨rfl, fun t ht => by simp at ht, fun a t b h _ => by simp at h⟩
 | cons x L ih =>
  intro ws h
  simp only [wrs] at h
  by_cases hx : okAt x L = true
  ·
   rw [if_pos hx] at h
   obtain ⟨ws', h1, rfl⟩ := Option.map_eq_some_iff.1 h
   obtain ⟨i1, i2, i3⟩ := ih ws' h1
   simp only [okAt, Bool.and_eq_true] at hx
   refine ⟨by rw [i1]; rfl, ?_, ?_⟩
   ·
    intro t ht
    rcases List.mem_cons.1 ht with rfl | ht
    ·
     exact hx.1
    ·
     exact i2 t ht
   ·
    intro a t b hab h0
    cases a with
    | nil =>
     simp only [List.nil_append, List.cons.injEq] at hab
     obtain ⟨rfl, rfl⟩ := hab
     have := hx.2
     rw [show (x.f0 == 0) = true by rw [h0]; rfl] at this
     simpa using this
    | cons y a =>
     simp only [List.cons_append, List.cons.injEq] at hab
     exact i3 a t b hab.2 h0
  ·
   rw [if_neg hx] at h; cases h

/-! the items of a joined text -/
def tkOf (t : S40) : Tk := ⟨t.f0, t.f1.data.toList, t.f2, (tokW t).length, 0⟩
def itemsOf : List S40 → List It
 | [] => []
 | [t] => if t.f0 = 0 then [] else [⟨tokW t, [], tkOf t⟩]
 | t :: u :: r => ⟨tokW t, [32], tkOf t⟩ :: itemsOf (u :: r)
theorem gap32 : Gap [32] := Gap.blank 32 rfl
theorem tkP_of (t : S40) : tkP (tkOf t) = pl t := by
 simp only [tkP, tkOf, pl, B_of]
theorem items_of (L : List S40) : L ≠ [] → (∀ t ∈ L, mayS t = true) → (∀ a t b, L = a ++ t :: b → t.f0 = 0 → b = []) →
  Items (itemsOf L) [] ∧ tx (itemsOf L) [] = Lib.join (L.map tokW) [32] ∧ (itemsOf L).length ≤ L.length ∧
  ∀ l, L.getLast? = some l → (l.f0 ≠ 0 → (itemsOf L).map (fun i => tkP i.t) = L.map pl) ∧ (l.f0 = 0 → (itemsOf L).map (fun i => tkP i.t) ++ [endP] = L.map pl) := by
 induction L with
 | nil => intro h; exact absurd rfl h
 | cons t L ih =>
  intro _ hm hl
  cases L with
  | nil =>
   have hmt := hm t (by simp)
   by_cases h0 : t.f0 = 0
   ·
    have hm0 : mayF 0 t.f1.data.toList t.f2 = true := by rw [← h0]; exact hmt
    obtain ⟨e1, e2, e3⟩ := may_end _ _ hm0
    have hw : tokW t = [] := by unfold tokW; rw [h0]; exact e3
    have hi : itemsOf [t] = [] := by simp only [itemsOf]; rw [if_pos h0]
    rw [hi]
    refine ⟨Gap.nil, ?_, by simp, ?_⟩
    ·
     simp only [List.map_cons, List.map_nil, Lib.join_one, tx, hw]
    ·
     intro l hl'
     simp only [List.getLast?_singleton, Option.some.injEq] at hl'
     subst hl'
     refine ⟨fun h => absurd h0 h, fun _ => ?_⟩
     have : pl t = endP := by
      have e4 : t.f1 = B [] := by rw [← B_of t.f1, e1]
      simp only [pl, endP, h0, e2, e4]
     simp [this]
   ·
    have hi : itemsOf [t] = [⟨tokW t, [], tkOf t⟩] := by simp only [itemsOf]; rw [if_neg h0]
    rw [hi]
    refine ⟨⟨may_tok _ _ _ hmt h0, Gap.nil, follow_of (.inl rfl), Gap.nil⟩, ?_, by simp, ?_⟩
    ·
     simp only [List.map_cons, List.map_nil, Lib.join_one, tx, List.append_nil]
    ·
     intro l hl'
     simp only [List.getLast?_singleton, Option.some.injEq] at hl'
     subst hl'
     refine ⟨fun _ => ?_, fun h => absurd h h0⟩
     simp only [List.map_cons, List.map_nil, tkP_of]
  | cons u r =>
   have h0 : t.f0 ≠ 0 := fun h => by have := hl [] t (u :: r) rfl h; cases this
   obtain ⟨i1, i2, i3, i4⟩ := ih (by simp) (fun x hx => hm x (List.mem_cons_of_mem _ hx)) (fun a x b hab hx => hl (t :: a) x b (by rw [hab]; rfl) hx)
   have hi : itemsOf (t :: u :: r) = ⟨tokW t, [32], tkOf t⟩ :: itemsOf (u :: r) := rfl
   rw [hi]
   refine ⟨⟨may_tok _ _ _ (hm t (by simp)) h0, gap32, follow_of (.inr ⟨32, _, rfl, .inr rfl⟩), i1⟩, ?_, ?_, ?_⟩
   ·
    simp only [tx, i2, List.map_cons, Lib.join_cons]
    simp [Lib.joinTail]
   ·
    simp only [List.length_cons] at i3 ⊢; omega
   ·
    intro l hl'
    rw [List.getLast?_cons_cons] at hl'
    obtain ⟨j1, j2⟩ := i4 l hl'
    constructor
    ·
     intro h
     have := j1 h
     simp only [List.map_cons, tkP_of] at this ⊢
     rw [this]
    ·
     intro h
     have := j2 h
     simp only [List.map_cons, List.cons_append, tkP_of] at this ⊢
     rw [this]

/-! the law -/
theorem back_heads (k : Nat) (hk : 200 ≤ k) : ((mortiselaw02_heads.f k).bind fun t => some t) = some true := by
 rw [heads_from k hk]; rfl
theorem mortiselaw02_TokenBack.pure (L : List S40) (hL : L.length ≤ 2000000) (hT : ∀ t ∈ L, t.f1.size ≤ 2000000) : ∃ k, mortiselaw02_TokenBack.f k L = some true := by
 refine ⟨10000002, ?_⟩
 have hj := join_loop L hL hT L.length 0 (by omega) [] rfl 10000002 (by omega)
 simp only [Int.natCast_zero, List.drop_zero, List.nil_append] at hj
 unfold mortiselaw02_TokenBack.f token_Join.f
 rw [hj]
 cases hw : wrs L with
 | none =>
  simp only [Option.bind_some]
  rw [show mortiselaw02_num.f 2 = some 2 from rfl, Option.bind_some, if_neg (by decide), if_pos (by rw [B_toList]), back_heads _ (by decide)]
 | some ws =>
  obtain ⟨e1, e2, e3⟩ := wrs_spec L ws hw
  have hlen : ∀ w ∈ ws, w.length ≤ 8000030 := by
   intro w hwm
   rw [e1] at hwm
   obtain ⟨t, ht, rfl⟩ := List.mem_map.1 hwm
   have := written_len _ _ _ (e2 t ht)
   have h2 := hT t ht
   have h3 : t.f1.data.toList.length ≤ 2000000 := by rw [Array.length_toList]; exact h2
   unfold tokW
   omega
  have hjl := join_len ws 8000030 hlen
  have hwl : ws.length ≤ 2000000 := by rw [e1, List.length_map]; exact hL
  have hjb : (Lib.join ws [32]).length ≤ 140737488355328 := by
   have : ws.length * (8000030 + 1) ≤ 2000000 * (8000030 + 1) := Nat.mul_le_mul_right _ hwl
   omega
  have hJ : strings_Join.f (ws.map B) (B [32]) = some (B (Lib.join ws [32])) := by
   unfold strings_Join.f
   have hm : (ws.map B).map (·.data.toList) = ws := by
    rw [List.map_map]
    have : ((fun x : ByteArray => x.data.toList) ∘ B) = id := funext fun l => B_data l
    rw [this, List.map_id]
   rw [hm, B_data, if_pos ⟨by rw [List.length_map]; omega, hjb⟩]
   rfl
  simp only
  rw [hJ, Option.bind_some, Option.bind_some]
  simp only
  rw [show mortiselaw02_num.f 0 = some 0 from rfl, Option.bind_some, if_pos rfl, scan_eq]
  have hplain := plain_eq L (by omega) 10000001 (by omega)
  by_cases hl : (Lib.join ws [32]).length > 65536
  ·
   rw [if_pos hl, Option.bind_some]
   simp only
   rw [show mortiselaw02_num.f 24 = some 24 from rfl, Option.bind_some, if_neg (by decide), Option.bind_some]
   simp only [mortiselaw02_TokenBack.j0]
   rw [if_pos (by decide), B_size]
   by_cases g : (L.length : Int) > 16384
   ·
    rw [if_pos g, back_heads _ (by decide)]
   ·
    rw [if_neg g, if_pos (by omega), back_heads _ (by decide)]
  ·
   rw [if_neg hl]
   cases hL0 : L with
   | nil =>
    subst hL0
    have : ws = [] := by rw [e1]; rfl
    subst this
    obtain ⟨s1, s2⟩ := (scanF_items [] [] [] Gap.nil Gap.nil).1 (by decide)
    simp only [List.nil_append, tx, List.map_nil] at s1 s2
    have hMl : (scanF []).1.length = 1 := by
     have := congrArg List.length s2
     rwa [List.length_map] at this
    rw [Lib.join_nil, scanOut_ok _ s1, Option.bind_some]
    simp only
    rw [show mortiselaw02_num.f 0 = some 0 from rfl, Option.bind_some, if_neg (by decide), Option.bind_some]
    simp only [mortiselaw02_TokenBack.j0]
    rw [if_neg (by decide), hplain, Option.bind_some, List.map_nil, if_pos (by decide)]
    simp only [mortiselaw02_TokenBack.j1]
    rw [if_pos (by decide), if_pos (by decide), if_pos (by decide), plain_eq _ (by omega) _ (by omega), Option.bind_some, s2]
    have he : ([] ++ [(⟨0, (⟨#[]⟩ : ByteArray), 0, (⟨0, 0, 0⟩ : S23)⟩ : S40)] : List S40) = [endP] := rfl
    rw [he, Same_eq _ (by simp) _ (by simp), Option.bind_some, if_pos rfl, back_heads _ (by decide)]
   | cons t0 r0 =>
    have hne : L ≠ [] := by rw [hL0]; simp
    obtain ⟨g1, g2, g3, g4⟩ := items_of L hne e2 e3
    rw [← hL0]
    rw [← e1] at g2
    obtain ⟨f1, f2⟩ := scanF_items (itemsOf L) [] [] Gap.nil g1
    rw [List.nil_append, g2] at f1 f2
    by_cases hc : (itemsOf L).length ≤ 16384
    ·
     obtain ⟨s1, s2⟩ := f1 hc
     rw [scanOut_ok _ s1, Option.bind_some]
     simp only
     have hMl : (scanF (Lib.join ws [32])).1.length = (itemsOf L).length + 1 := by
      have := congrArg List.length s2
      rwa [List.length_map, List.length_append, List.length_map] at this
     rw [show mortiselaw02_num.f 0 = some 0 from rfl, Option.bind_some, if_neg (by decide), Option.bind_some]
     simp only [mortiselaw02_TokenBack.j0]
     rw [if_neg (by decide), hplain, Option.bind_some, List.length_map]
     have hpos : 0 < L.length := List.length_pos_iff.2 hne
     rw [if_neg (by omega), w64 _ (by omega), if_pos (by omega), if_pos (by omega)]
     have hlast : L.getLast? = some (L[L.length - 1]'(by omega)) := by
      rw [List.getLast?_eq_getElem?, List.getElem?_eq_getElem (by omega)]
     obtain ⟨k1, k2⟩ := g4 _ hlast
     have hrd : rd_T40 (L.map pl) ((L.length : Int) - 1) = pl (L[L.length - 1]'(by omega)) := by
      have := rd_at (L.map pl) (L.length - 1) (by rw [List.length_map]; omega)
      rw [show ((L.length - 1 : Nat) : Int) = (L.length : Int) - 1 by omega] at this
      rw [this, List.getElem_map]
     rw [hrd]
     have hf0 : (pl (L[L.length - 1]'(by omega))).f0 = (L[L.length - 1]'(by omega)).f0 := rfl
     rw [hf0]
     have hpM := plain_eq (scanF (Lib.join ws [32])).1 (by omega) 10000000 (by omega)
     by_cases h0 : (L[L.length - 1]'(by omega)).f0 = 0
     ·
      have := k2 h0
      have hb : ((L[L.length - 1]'(by omega)).f0 != 0) = false := by rw [h0]; rfl
      rw [hb]
      simp only [mortiselaw02_TokenBack.j1]
      rw [if_neg (by decide), if_pos (by decide), hpM, Option.bind_some, s2, this, Same_eq _ (by rw [List.length_map]; omega) _ (by rw [List.length_map]; omega), Option.bind_some, if_pos rfl, back_heads _ (by decide)]
     ·
      have := k1 h0
      have hb : ((L[L.length - 1]'(by omega)).f0 != 0) = true := by rw [bne_iff_ne]; exact h0
      rw [hb]
      simp only [mortiselaw02_TokenBack.j1]
      rw [if_pos (by decide), if_pos (by rw [List.length_map]; omega), if_pos (by decide), hpM, Option.bind_some, s2, this]
      have he : ([(⟨0, (⟨#[]⟩ : ByteArray), 0, (⟨0, 0, 0⟩ : S23)⟩ : S40)] : List S40) = [endP] := rfl
      rw [he, Same_eq _ (by simp; omega) _ (by simp; omega), Option.bind_some, if_pos rfl, back_heads _ (by decide)]
    ·
     have s1 := f2 (by omega)
     rw [scanOut_err _ (by rw [s1]; decide), s1, Option.bind_some]
     simp only
     rw [show mortiselaw02_num.f 23 = some 23 from rfl, Option.bind_some, if_pos rfl]
     simp only [mortiselaw02_TokenBack.j0]
     rw [if_pos (by decide), if_pos (by omega), back_heads _ (by decide)]
end Go.Proofs.YtpfjkpknljigmaaDoor.Q
