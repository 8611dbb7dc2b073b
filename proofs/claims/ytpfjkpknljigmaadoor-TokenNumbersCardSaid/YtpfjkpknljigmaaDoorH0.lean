/- The library's contracts in the printed texts' form, and what the walks lean on of the package variables. -/
import Derived.Test.YtpfjkpknljigmaaDoorQx0
import Derived.Test.YtpfjkpknljigmaaDoorShelf
import Derived.WalkSmall
import Derived.Laws.CopyOwn
import Derived.Lib.ConvBytes
namespace Go.Proofs.YtpfjkpknljigmaaDoor.Q
open Go.RowKit Go.Proofs.YtpfjkpknljigmaaDoorW.PrintWords Go.Proofs.YtpfjkpknljigmaaDoorW.PrintLast Go.Proofs.YtpfjkpknljigmaaDoorW.PrintMore
set_option linter.unusedVariables false

/-- What the walks lean on of the package variables: bytealg.MaxLen is some number, strconv's table of tens is laid. -/
structure GInv (w : World) : Prop where
 max : ∃ m : Int, w.cell? ⟨0, 0, none⟩ = some (.int .i64 m)
 tab : Lib.TabIs Tryd.prog w "internal/strconv.uint64pow10" .u64 Lib.pow10Tab
theorem pow10_at : Tryd.prog.globalNamed "internal/strconv.uint64pow10" = some 1 := by kernel_rfl
theorem GInv.lt {w : World} (h : GInv w) : 1 < w.heap.size := by
 have h1 := h.tab
 unfold Lib.TabIs World.var? at h1
 rw [pow10_at] at h1
 simp only [Option.bind_some] at h1
 by_cases hlt : 1 < w.heap.size
 ·
  exact hlt
 ·
  rw [Array.getElem?_eq_none (by omega)] at h1
  simp at h1
theorem GInv.below {w w' : World} (h : GInv w) (hb : Below w.heap.size w w') : GInv w' := by
 refine ⟨?_, ?_⟩
 ·
  obtain ⟨m, hm⟩ := h.max
  exact ⟨m, pw_cell_below hb hm⟩
 ·
  exact var?_below hb pow10_at h.lt h.tab
theorem GInv.drawn {w w' : World} (h : GInv w) (hd : Drawn0 w w') : GInv w' := h.below hd.below
theorem below_grow (w : World) (k : Nat) (os : Array Obj) : Below w.heap.size w (Sort.grow (w.drewN k) os) := by
 refine ⟨rfl, rfl, rfl, ?_, ?_⟩
 ·
  simp [Sort.grow]
 ·
  intro i hi
  show ((w.drewN k).heap ++ os)[i]? = _
  rw [Array.getElem?_append_left (by simpa using hi)]
  rfl
theorem drawn_refl' {w w' : World} (h : w' = w) : Drawn0 w w' := by subst h; exact Drawn0.refl _

theorem spot_none {w : World} {a : Addr} {v : Value} (h : w.cell? a = some v) : a.spot = none := by
 unfold World.cell? at h
 split at h
 ·
  split at h
  ·
   cases h
  ·
   rename_i hs; simpa using hs
 ·
  cases h
/-- A whole variable of several cells is written: the world gets a new letter. -/
theorem store_row_event {P : Program} {ops : Array Oper} {rest : List Oper} {o : Oper} {a : Act} {W : World} {Q : Exit → Act → World → Prop} (hgd : o.guard = none) (ty : TypeId) (x y : Operand) (ho : o.op = .store ty x y)
  (g : Nat) (cells : Array Value) (hx : a.eval x = .pointer (some ⟨g, 0, none⟩)) (hy : a.eval y = .agg cells)
  (t : TypeId) (old : Array Value) (hg : W.heap[g]? = some (.cells old t (0, 0))) (hi : (P.info? ty).map (·.size) = some cells.size)
  (hold : old.size = cells.size) (h1 : cells.all (·.oneCell') = true)
  (h : ∀ w1, w1.heap[g]? = some (.cells cells t (0, 0)) → (∀ k, k ≠ g → w1.heap[k]? = W.heap[k]?) → (∀ w0 : World, Below w0.heap.size w0 W → w0.heap.size ≤ g → Below w0.heap.size w0 w1) → wpList P ops Q rest (a.put o.dst undef) w1) :
  wpList P ops Q (o :: rest) a W :=
 wpList_store_row hgd ty x y ho g cells hx hy t old hg hi hold h1 (h _ (setRow_heap W g _ _ _ _ hg) (fun k hk => setRow_other W g k _ hk) (fun w0 hb hB => below_setRow hb hB _))
theorem below_bytesW (w : World) (e : TypeId) (s : ByteArray) : Below w.heap.size w (Lib.bytesWorld w e s) :=
 ⟨rfl, rfl, rfl, by rw [Lib.bytesWorld_size]; omega, fun k hk => Lib.bytesWorld_at_old w e s k hk⟩
theorem cell_bytesW (w : World) (e : TypeId) (s : ByteArray) (hs : s.size ≤ 9223372036854775807) (j : Nat) (hj : j < s.size) : (Lib.bytesWorld w e s).cell? ⟨w.heap.size, j, none⟩ = some (.int .u8 (bt s j)) := by
 obtain ⟨ad, h1, h2⟩ := (bytes_reads w e s hs).2.2 (by omega)
 cases h1
 have h3 := h2 j hj
 rw [add_plain] at h3
 rw [h3]
 have h4 := rd_bytesOf s (j : Int)
 simp only [rd, Int.toNat_natCast] at h4
 rw [h4]
/-! ### the library's functions -/
def strings_LastIndexByte.f (a0 : ByteArray) (a1 : Int) : Option Int := if a0.size ≤ 140737488355328 then some (Lib.lastIndexByte a0 a1) else none
theorem strings_LastIndexByte.calls (a0 : ByteArray) (a1 : Int) (r : Int) (w : World) (h : strings_LastIndexByte.f a0 a1 = some r) :
  Calls Tryd.prog 22 #[.string a0, .int .u8 a1] w fun e w' => e = .returned (.int .i64 r) ∧ Drawn0 w w' := by
 unfold strings_LastIndexByte.f at h
 split at h
 ·
  obtain rfl := Option.some.inj h
  exact (Tryd.strings_LastIndexByte a0 a1 (by omega) w).mono fun e w' ⟨he, hw⟩ => ⟨he, drawn_refl' hw⟩
 ·
  cases h
def strings_Count.f (a0 a1 : ByteArray) : Option Int := if h : a1.size = 1 then some (Lib.countByte a0.data.toList (a1[0]'(by omega))) else none
theorem one_byte (s : ByteArray) (h : s.size = 1) : s = ⟨#[s[0]'(by omega)]⟩ := by
 cases s with
 | mk d =>
  congr 1
  have h' : d.size = 1 := h
  apply Array.ext
  ·
   simp [h']
  ·
   intro i h1 h2
   obtain rfl : i = 0 := by omega
   rfl
theorem strings_Count.calls (a0 a1 : ByteArray) (r : Int) (w : World) (hG : GInv w) (h : strings_Count.f a0 a1 = some r) :
  Calls Tryd.prog 23 #[.string a0, .string a1] w fun e w' => e = .returned (.int .i64 r) ∧ Drawn0 w w' := by
 unfold strings_Count.f at h
 split at h
 ·
  rename_i h1
  obtain rfl := Option.some.inj h
  have := Tryd.strings_Count_one a0 (a1[0]'(by omega)) w
  rw [← one_byte a1 h1] at this
  exact this.mono fun e w' ⟨he, hw⟩ => ⟨he, drawn_refl' hw⟩
 ·
  cases h
def strings_Index.f (a0 a1 : ByteArray) : Option Int := if a0.size < 4294967281 then some (Lib.index a0.data.toList a1.data.toList) else none
theorem strings_Index.calls (a0 a1 : ByteArray) (r : Int) (w : World) (hG : GInv w) (h : strings_Index.f a0 a1 = some r) :
  Calls Tryd.prog 37 #[.string a0, .string a1] w fun e w' => e = .returned (.int .i64 r) ∧ Drawn0 w w' := by
 unfold strings_Index.f at h
 split at h
 ·
  rename_i h1
  obtain rfl := Option.some.inj h
  obtain ⟨m, hm⟩ := hG.max
  exact (Tryd.strings_Index a0 a1 m w h1 hm).mono fun e w' ⟨he, hw⟩ => ⟨he, drawn_refl' hw⟩
 ·
  cases h
def strings_IndexByte.f (a0 : ByteArray) (a1 : Int) : Option Int := some (Lib.indexByte a0.data.toList a1.toNat.toUInt8)
theorem strings_IndexByte.calls (a0 : ByteArray) (a1 : Int) (r : Int) (w : World) (h : strings_IndexByte.f a0 a1 = some r) :
  Calls Tryd.prog 44 #[.string a0, .int .u8 a1] w fun e w' => e = .returned (.int .i64 r) ∧ Drawn0 w w' := by
 obtain rfl := Option.some.inj h
 exact (Tryd.strings_IndexByte a0 a1 w).mono fun e w' ⟨he, hw⟩ => ⟨he, drawn_refl' hw⟩
def strings_TrimRight.f (a0 a1 : ByteArray) : Option ByteArray :=
 if a0.size ≤ 140737488355328 ∧ a1.size < 4294967281 ∧ a1.data.toList.all (fun b => decide (b.toNat < 128)) = true then some ⟨(Lib.trimRightS a0.data.toList a1.data.toList).toArray⟩ else none
theorem strings_TrimRight.calls (a0 a1 r : ByteArray) (w : World) (h : strings_TrimRight.f a0 a1 = some r) :
  Calls Tryd.prog 61 #[.string a0, .string a1] w fun e w' => e = .returned (.string r) ∧ Below w.heap.size w w' := by
 unfold strings_TrimRight.f at h
 split at h
 ·
  rename_i h1
  obtain rfl := Option.some.inj h
  refine Any.strings_TrimRight_laid Tryd.lays162 (by kernel_rfl) a0 a1 w (by omega) h1.2.1 ?_
  intro j b hb
  have := List.all_eq_true.1 h1.2.2 b (List.mem_of_getElem? hb)
  simpa using this
 ·
  cases h
def strconv_Itoa.f (a0 : Int) : Option ByteArray := if -9223372036854775808 ≤ a0 ∧ a0 ≤ 9223372036854775807 then some ⟨(Lib.itoa a0).toArray⟩ else none
theorem strconv_Itoa.calls (a0 : Int) (r : ByteArray) (w : World) (hG : GInv w) (h : strconv_Itoa.f a0 = some r) :
  Calls Tryd.prog 54 #[.int .i64 a0] w fun e w' => e = .returned (.string r) ∧ Below w.heap.size w w' := by
 unfold strconv_Itoa.f at h
 split at h
 ·
  rename_i h1
  obtain rfl := Option.some.inj h
  refine (Tryd.strconv_Itoa a0 h1.1 h1.2 w hG.tab).mono fun e w' ⟨he, k, os, hw⟩ => ⟨he, ?_⟩
  subst hw
  exact below_grow w k os
 ·
  cases h
def strings_Join.f (l0 : List ByteArray) (a1 : ByteArray) : Option ByteArray :=
 if l0.length ≤ 140737488355328 ∧ (Lib.join (l0.map (·.data.toList)) a1.data.toList).length ≤ 140737488355328 then some ⟨(Lib.join (l0.map (·.data.toList)) a1.data.toList).toArray⟩ else none
theorem strings_Join.calls (A0 : Option Addr) (c0 : Nat) (l0 : List ByteArray) (a1 r : ByteArray) (w : World) (hr0 : Kd.C Kd.string w A0 l0.length l0) (hc0 : l0.length ≤ c0) (h : strings_Join.f l0 a1 = some r) :
  Calls Tryd.prog 28 #[.slice A0 l0.length c0, .string a1] w fun e w' => e = .returned (.string r) ∧ Below w.heap.size w w' := by
 unfold strings_Join.f at h
 split at h
 ·
  rename_i h1
  obtain rfl := Option.some.inj h
  by_cases h0 : l0 = []
  ·
   subst h0
   exact (Tryd.strings_Join_none A0 c0 a1 w).mono fun e w' ⟨he, hw⟩ => ⟨he, by subst hw; exact Below.refl _ _⟩
  ·
   have hp : 0 < l0.length := List.length_pos_iff.2 h0
   obtain ⟨ad, rfl, hc⟩ := hr0.2.2 hp
   have hcell : ∀ (j : Nat) x, l0[j]? = some x → w.cell? (ad.add j) = some (.string x) := by
    intro j x hx
    obtain ⟨c, hs, hR, hcc⟩ := hc j x hx
    obtain rfl : c = [.string x] := hR
    have := hcc 0 (.string x) rfl
    rwa [Nat.add_zero, show (Kd.string).sz = 1 from rfl, Nat.mul_one] at this
   have h00 := hcell 0 (l0[0]) (List.getElem?_eq_getElem hp)
   have hsp := spot_none h00
   have had : ∀ j, ad.add j = ⟨ad.block, ad.off + j, none⟩ := by
    intro j
    have hs0 : ad.spot = none := by simpa [Addr.add] using hsp
    unfold Addr.add
    split
    ·
     rename_i hz; subst hz; cases ad; simp at hs0; subst hs0; rfl
    ·
     rfl
   have hb : ad.block < w.heap.size := by
    have := World.block_lt_of_cell? w _ h00
    rwa [had] at this
   have ha : ad = ⟨ad.block, ad.off, none⟩ := by have := had 0; simpa [Addr.add] using this
   rw [ha]
   exact (Tryd.strings_Join ad.block ad.off c0 l0 a1 w (fun j x hx => by have := hcell j x hx; rwa [had] at this) hb h1.1 hc0 h1.2).mono fun e w' ⟨he, hw⟩ => ⟨he, hw⟩
 ·
  cases h
end Go.Proofs.YtpfjkpknljigmaaDoor.Q
