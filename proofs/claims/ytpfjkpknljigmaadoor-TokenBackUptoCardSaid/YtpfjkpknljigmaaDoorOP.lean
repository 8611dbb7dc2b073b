/- Opening what a row hands in, whatever its type: a reading gives a value of the printed texts' own kinds, what is known of it, and its bulk. -/
import Derived.Test.YtpfjkpknljigmaaDoorQx0
import Derived.Test.YtpfjkpknljigmaaDoorRows
import Derived.ChangeArms
import Derived.Deep.Slices
namespace Go.Proofs.YtpfjkpknljigmaaDoor.Q
open Go.RowKit Go.Proofs.YtpfjkpknljigmaaDoorW.PrintWords Go.Proofs.YtpfjkpknljigmaaDoorW.PrintLast Go.Proofs.YtpfjkpknljigmaaDoorW.PrintMore
set_option linter.unusedVariables false

section
variable {H : Type} {enc : TypeId × Value → H} {P : Program} {w : World} {base : Nat} {spare : Nat → Bool} {held : Bool}

/-- What is read at a type is a value of a kind, with a property, of a measure that the reading's bulk bounds. -/
def Op (enc : TypeId × Value → H) (P : Program) (w : World) (base : Nat) (spare : Nat → Bool) (held : Bool) (t : TypeId) {α : Type} (d : Kd α) (q : α → Prop) (m : α → Nat) : Prop :=
 ∀ (fuel : Nat) (cs : List Value) (x : DataW H × List MemPlace), DataW.trod enc P w base spare held fuel t cs = some x → ∃ a, d.K w a cs ∧ q a ∧ m a ≤ Rows.uptoBulk x.1
theorem op_int {t : TypeId} {k : IntKind} (ht : P.underlying t = some (.int k)) : Op enc P w base spare held t (Kd.int k) (fun n => (Lit.int k n).wf = true) (fun _ => 1) := by
 intro fuel cs x h
 obtain ⟨n, rfl, rfl, hw⟩ := DataW.trod_int ht h
 exact ⟨n, rfl, hw, Nat.le_refl _⟩
theorem op_bool {t : TypeId} (ht : P.underlying t = some .bool) : Op enc P w base spare held t Kd.bool (fun _ => True) (fun _ => 1) := by
 intro fuel cs x h
 obtain ⟨n, rfl, rfl⟩ := DataW.trod_bool ht h
 exact ⟨n, rfl, trivial, Nat.le_refl _⟩
theorem op_string {t : TypeId} (ht : P.underlying t = some .string) : Op enc P w base spare held t Kd.string (fun s => s.size ≤ maxLen) (fun s => s.size + 1) := by
 intro fuel cs x h
 obtain ⟨s, rfl, rfl, hw⟩ := DataW.trod_string ht h
 refine ⟨s, rfl, hw, ?_⟩
 show s.size + 1 ≤ s.data.toList.length + 1
 rw [Array.length_toList]
 exact Nat.le_refl _
theorem pick {α : Type} (n : Nat) (R : Nat → α → Prop) (h : ∀ i, i < n → ∃ a, R i a) : ∃ L : List α, L.length = n ∧ ∀ i (hi : i < L.length), R i L[i] := by
 induction n with
 | zero => exact ⟨[], rfl, fun i hi => absurd hi (by simp)⟩
 | succ n ih =>
  obtain ⟨L, h1, h2⟩ := ih (fun i hi => h i (by omega))
  obtain ⟨a, ha⟩ := h n (by omega)
  refine ⟨L ++ [a], by simp [h1], fun i hi => ?_⟩
  by_cases hl : i < L.length
  ·
   rw [List.getElem_append_left hl]; exact h2 i hl
  ·
   have : i = n := by simp at hi; omega
   subst this
   rw [List.getElem_append_right (by omega)]
   simpa [h1] using ha
theorem bulk_all {α : Type} (m : α → Nat) : ∀ (L : List α) (D : List (DataW H)), L.length = D.length → (∀ i (h1 : i < L.length) (h2 : i < D.length), m L[i] ≤ Rows.uptoBulk D[i]) → (L.map m).sum ≤ Rows.uptoBulkAll D
 | [], _, _, _ => Nat.zero_le _
 | a :: L, [], h, _ => by simp at h
 | a :: L, d :: D, h, hm => by
  have h0 := hm 0 (by simp) (by simp)
  have ih := bulk_all m L D (by simpa using h) (fun i h1 h2 => by have := hm (i + 1) (by simpa using h1) (by simpa using h2); simpa using this)
  simp only [List.getElem_cons_zero] at h0
  simp only [List.map_cons, List.sum_cons, Rows.uptoBulkAll]
  omega
theorem op_slice {t e e' : TypeId} {α : Type} {d : Kd α} {q : α → Prop} {m : α → Nat} (ht : P.underlying t = some (.slice e)) (hC : P.cellsOf e = d.sz) (he : Op enc P w base spare held e d q m) :
  Op enc P w base spare held t (Kd.slice e' d) (fun L => (L.length ≤ maxLen) ∧ ∀ a ∈ L, q a) (fun L => (L.map m).sum + 1) := by
 intro fuel cs x h
 rcases Go.Deep.open_slice ht h with ⟨rfl, rfl⟩ | ⟨a, len, cap, mm, n, D, Pl, rfl, hb, hl, hm, hmm, rfl, hi⟩
 ·
  refine ⟨[], ⟨none, 0, rfl, Nat.le_refl _, rfl, Nat.zero_le _, fun h => absurd h (Nat.lt_irrefl 0)⟩, ⟨Nat.zero_le _, fun a ha => by simp at ha⟩, Nat.le_refl _⟩
 ·
  have hlm : len ≤ mm := by rw [hmm]; split <;> omega
  obtain ⟨L, hL, hR⟩ := pick len (fun i a' => (∃ cs', w.cells? base (a.add (i * P.cellsOf e)) (P.cellsOf e) = some cs' ∧ d.K w a' cs') ∧ q a' ∧ m a' ≤ Rows.uptoBulk (D i)) (fun i hil => by
   obtain ⟨cs', h1, h2⟩ := hi i (by omega)
   obtain ⟨a', k1, k2, k3⟩ := he _ _ _ h2
   exact ⟨a', ⟨cs', h1, k1⟩, k2, k3⟩)
  refine ⟨L, ⟨some a, cap, by rw [hL], by omega, rfl, by unfold maxLen at hm; omega, fun _ => ⟨a, rfl, fun j p hj => ?_⟩⟩, ⟨by omega, ?_⟩, ?_⟩
  ·
   obtain ⟨hjl, rfl⟩ := List.getElem?_eq_some_iff.1 hj
   obtain ⟨⟨cs', h1, h2⟩, _, _⟩ := hR j hjl
   obtain ⟨_, hlen, hcell⟩ := World.cells?_some h1
   refine ⟨cs', d.K_len h2, h2, fun i u hu => ?_⟩
   have hil : i < P.cellsOf e := by rw [← hlen]; exact (List.getElem?_eq_some_iff.1 hu).1
   have := hcell i hil
   rw [Go.Deep.add_add, hC] at this
   rw [this, hu]
  ·
   intro a' ha'
   obtain ⟨i, hil, rfl⟩ := List.getElem_of_mem ha'
   exact (hR i hil).2.1
  ·
   have := bulk_all m L ((List.range len).map D) (by simp [hL]) (fun i h1 h2 => by
    have := (hR i h1).2.2
    simpa using this)
   simp only [Rows.uptoBulk]
   omega
theorem sum_mem {α : Type} (m : α → Nat) : ∀ (L : List α) (a : α), a ∈ L → m a ≤ (L.map m).sum
 | [], _, h => by simp at h
 | b :: L, a, h => by
  simp only [List.map_cons, List.sum_cons]
  rcases List.mem_cons.1 h with rfl | h
  ·
   omega
  ·
   have := sum_mem m L a h; omega
theorem sum_len {α : Type} (m : α → Nat) (h : ∀ a, 1 ≤ m a) : ∀ (L : List α), L.length ≤ (L.map m).sum
 | [] => Nat.le_refl _
 | b :: L => by
  have := sum_len m h L
  have := h b
  simp only [List.map_cons, List.sum_cons, List.length_cons]; omega
end

section
variable {H : Type} {enc : TypeId × Value → H} {w : World} {base : Nat} {spare : Nat → Bool} {held : Bool}
def spotQ (x : S23) : Prop := (Lit.int .i64 x.f0).wf = true ∧ (Lit.int .i64 x.f1).wf = true ∧ (Lit.int .i64 x.f2).wf = true
theorem len3 {α : Type} : ∀ l : List α, l.length = 3 → ∃ a b c, l = [a, b, c]
 | [a, b, c], _ => ⟨a, b, c, rfl⟩
theorem len6 {α : Type} : ∀ l : List α, l.length = 6 → ∃ a b c d e f, l = [a, b, c, d, e, f]
 | [a, b, c, d, e, f], _ => ⟨a, b, c, d, e, f, rfl⟩
theorem c_int : Tryd.prog.cellsOf 3 = 1 := by kernel_rfl
theorem c_str : Tryd.prog.cellsOf 9 = 1 := by kernel_rfl
theorem c_kind : Tryd.prog.cellsOf 38 = 1 := by kernel_rfl
theorem c_spot : Tryd.prog.cellsOf 23 = 3 := by kernel_rfl
theorem op_spot : Op enc Tryd.prog w base spare held 23 k23 spotQ (fun _ => 4) := by
 intro fuel cs x h
 obtain ⟨xs, n, _, rfl, hl, hlen, hf⟩ := DataW.trod_struct Tryd.underlying23 h
 match xs, hlen with
 | [y0, y1, y2], _ =>
  obtain ⟨a0, e0, rfl, w0⟩ := DataW.trod_int Tryd.underlying3 (hf 0 _ rfl)
  obtain ⟨a1, e1, rfl, w1⟩ := DataW.trod_int Tryd.underlying3 (hf 1 _ rfl)
  obtain ⟨a2, e2, rfl, w2⟩ := DataW.trod_int Tryd.underlying3 (hf 2 _ rfl)
  have hl' : cs.length = 3 := hl.trans (by kernel_rfl)
  clear hl
  obtain ⟨c0, c1, c2, rfl⟩ := len3 cs hl'
  have i0 : ([c0, c1, c2].drop 0).take (Tryd.prog.cellsOf 3) = [Value.int .i64 a0] := e0
  rw [c_int] at i0
  have i1 : ([c0, c1, c2].drop 1).take (Tryd.prog.cellsOf 3) = [Value.int .i64 a1] := e1
  rw [c_int] at i1
  have i2 : ([c0, c1, c2].drop 2).take (Tryd.prog.cellsOf 3) = [Value.int .i64 a2] := e2
  rw [c_int] at i2
  cases i0; cases i1; cases i2
  exact ⟨⟨a0, a1, a2⟩, k23_mk w ⟨a0, a1, a2⟩, ⟨w0, w1, w2⟩, Nat.le_refl _⟩
def tokQ (x : S40) : Prop := (Lit.int .i64 x.f0).wf = true ∧ x.f1.size ≤ maxLen ∧ (Lit.int .i64 x.f2).wf = true ∧ spotQ x.f3
theorem op_token : Op enc Tryd.prog w base spare held 40 k40 tokQ (fun x => x.f1.size + 1) := by
 intro fuel cs x h
 obtain ⟨xs, n, _, rfl, hl, hlen, hf⟩ := DataW.trod_struct Tryd.underlying40 h
 match xs, hlen with
 | [y0, y1, y2, y3], _ =>
  obtain ⟨a0, e0, rfl, w0⟩ := DataW.trod_int Tryd.underlying38 (hf 0 _ rfl)
  obtain ⟨a1, e1, rfl, w1⟩ := DataW.trod_string Tryd.underlying9 (hf 1 _ rfl)
  obtain ⟨a2, e2, rfl, w2⟩ := DataW.trod_int Tryd.underlying3 (hf 2 _ rfl)
  obtain ⟨a3, e3, w3, _⟩ := op_spot (enc := enc) (w := w) (base := base) (spare := spare) (held := held) _ _ _ (hf 3 _ rfl)
  have hl' : cs.length = 6 := hl.trans (by kernel_rfl)
  clear hl
  obtain ⟨c0, c1, c2, c3, c4, c5, rfl⟩ := len6 cs hl'
  have i0 : ([c0, c1, c2, c3, c4, c5].drop 0).take (Tryd.prog.cellsOf 38) = [Value.int .i64 a0] := e0
  rw [c_kind] at i0
  have i1 : ([c0, c1, c2, c3, c4, c5].drop 1).take (Tryd.prog.cellsOf 9) = [Value.string a1] := e1
  rw [c_str] at i1
  have i2 : ([c0, c1, c2, c3, c4, c5].drop 2).take (Tryd.prog.cellsOf 3) = [Value.int .i64 a2] := e2
  rw [c_int] at i2
  have i3 : k23.K w a3 (([c0, c1, c2, c3, c4, c5].drop 3).take (Tryd.prog.cellsOf 23)) := e3
  rw [c_spot] at i3
  cases i0; cases i1; cases i2
  refine ⟨⟨a0, a1, a2, a3⟩, ⟨_, _, rfl, rfl, _, _, rfl, rfl, _, _, rfl, rfl, i3⟩, ⟨w0, w1, w2, w3⟩, ?_⟩
  show a1.size + 1 ≤ _
  simp only [List.map_cons, List.map_nil, Rows.uptoBulk, Rows.uptoBulkAll]
  have : a1.data.toList.length = a1.size := by rw [Array.length_toList]; rfl
  omega
end
end Go.Proofs.YtpfjkpknljigmaaDoor.Q
