/- Plain laws on worlds, over any program: a region that draws its order and whose calls make memory, walked once in the order of the text. Plain: numbers as lists of digits. Plain laws on memory, over any program: blocks that are known whole, slices whose cells read as a list. Plain laws on append, over any program: from a slice that reads as a list, nil and empty ones too; as one step of a region that draws. -/
import Derived.WalkKit
import Derived.ProofKit
import Derived.OpenShut
import Derived.Handy
import Derived.BigQuiet
import Derived.Lib.Hide
import Derived.Laws.OwnMore
import Derived.Laws.Rows
import Derived.Deep.Draws
import Derived.ArgAppend
namespace Go.Proofs.YtfopmaeaclbknaaDoor
open Go.ChangeShapes Go.WideShapes Go.ChangeAt Go.RowKit

theorem bcell {W w1 : World} (hb : Below W.heap.size W w1) : (∀ b o, b < W.heap.size → w1.cell? ⟨b, o, none⟩ = W.cell? ⟨b, o, none⟩) ∧ (∀ b o, b < W.heap.size → w1.frozen? ⟨b, o, none⟩ = W.frozen? ⟨b, o, none⟩) :=
  ⟨fun b o h => hb.cell (p := ⟨b, o, none⟩) h, fun b o h => hb.frozen (p := ⟨b, o, none⟩) h⟩

/-- some world that is as w below w's end -/
noncomputable def later (w x : World) : World := @ite _ (Below w.heap.size w x) (Classical.propDecidable _) x w
theorem later_below (w x : World) : Below w.heap.size w (later w x) := by
  unfold later
  split
  · assumption
  · exact Below.refl _ _
theorem later_of {w x : World} (h : Below w.heap.size w x) : later w x = x := by
  unfold later
  rw [if_pos h]
theorem later_cell {w x : World} {a : Addr} {v : Value} (h : w.cell? a = some v) : (later w x).cell? a = some v :=
  ((later_below w x).cell (p := a) (block_lt_of_cell h)).trans h
theorem later_iff (w : World) (C : World → Prop) : (∀ w', (∃ x, w' = later w x) → C w') ↔ ∀ x, C (later w x) :=
  ⟨fun h x => h _ ⟨x, rfl⟩, fun h _ ⟨x, e⟩ => by rw [e]; exact h x⟩

theorem chain0 {w a c : World} (h : Below w.heap.size w a) (k : Below a.heap.size a c) : Below w.heap.size w c := h.trans (k.mono h.size)
theorem chain1 {w a c : World} {o : Obj} (h : Below w.heap.size w a) (k : Below (a.alloc o).heap.size (a.alloc o) c) : Below w.heap.size w c :=
  chain0 (h.alloc h.size o) k
theorem chain2 {w a c : World} {o o' : Obj} (h : Below w.heap.size w a) (k : Below ((a.alloc o).alloc o').heap.size ((a.alloc o).alloc o') c) : Below w.heap.size w c :=
  chain1 (h.alloc h.size o) k
theorem below_new (w : World) (o : Obj) : Below w.heap.size w (w.alloc o) := (Below.refl _ _).alloc (Nat.le_refl _) o

section
variable {P : Program}
theorem wp_region_later {id : Nat} {Q : Exit → Act → World → Prop} {a : Act} {w : World} {l : List Oper} (hm : P.follows .mixedOrders = true) (hB : Region.lexB .any l.toArray = true)
    (h : wpQuiet P l.toArray (fun w' => ∃ x, w' = later w x) (fun a' => ∀ w', (∃ x, w' = later w x) → Q .normal a' w') l a) : (Code.region id l.toArray true).wp P Q a w :=
  wp_region_quiet (C := fun w' => ∃ x, w' = later w x) hm hB ⟨w.drew, (later_of ((Below.refl _ _).drew)).symm⟩ (by simpa using h)
theorem calls_later {f : FuncId} {args : Array Value} {w x : World} {v : Value}
    (h : Calls P f args (later w x) fun e w' => e = .returned v ∧ Below (later w x).heap.size (later w x) w') :
    Calls P f args (later w x) fun e w'' => e = .returned v ∧ ∃ y, w'' = later w y :=
  h.mono fun _ w' ⟨he, hb⟩ => ⟨he, w', (later_of ((later_below w x).trans (hb.mono (later_below w x).size))).symm⟩
end
end Go.Proofs.YtfopmaeaclbknaaDoor
namespace Go.Proofs.YtfopmaeaclbknaaDoor
namespace Fr
/-- the base of the digits -/
def B : Nat := 4294967296
theorem B_pos : 0 < B := by decide
theorem B_two : 1 < B := by decide
/-- the value of a list of digits, the least significant first -/
def nat : List Nat → Nat
  | [] => 0
  | d :: l => d + B * nat l
def digsF : Nat → Nat → List Nat
  | 0, _ => []
  | f + 1, n => if n = 0 then [] else (n % B) :: digsF f (n / B)
/-- the digits of a number, without leading zeros -/
def digs (n : Nat) : List Nat := digsF n n
theorem digsF_more : ∀ (f g n : Nat), n ≤ f → n ≤ g → digsF f n = digsF g n
  | 0, 0, _, _, _ => rfl
  | 0, g + 1, n, h, _ => by
    obtain rfl : n = 0 := by omega
    simp [digsF]
  | f + 1, 0, n, _, h => by
    obtain rfl : n = 0 := by omega
    simp [digsF]
  | f + 1, g + 1, n, h1, h2 => by
    unfold digsF
    by_cases e : n = 0
    · rw [if_pos e, if_pos e]
    · rw [if_neg e, if_neg e]
      have : n / B < n := Nat.div_lt_self (by omega) B_two
      rw [digsF_more f g (n / B) (by omega) (by omega)]
theorem digs_zero : digs 0 = [] := rfl
theorem digs_pos {n : Nat} (h : n ≠ 0) : digs n = (n % B) :: digs (n / B) := by
  unfold digs
  obtain ⟨m, rfl⟩ : ∃ m, n = m + 1 := ⟨n - 1, by omega⟩
  have : (m + 1) / B < m + 1 := Nat.div_lt_self (by omega) B_two
  conv => lhs; unfold digsF
  rw [if_neg h, digsF_more m ((m + 1) / B) _ (by omega) (Nat.le_refl _)]
theorem nat_digsF : ∀ (f n : Nat), n ≤ f → nat (digsF f n) = n
  | 0, n, h => by
    obtain rfl : n = 0 := by omega
    rfl
  | f + 1, n, h => by
    unfold digsF
    by_cases e : n = 0
    · rw [if_pos e, e]; rfl
    · rw [if_neg e]
      have : n / B < n := Nat.div_lt_self (by omega) B_two
      unfold nat
      rw [nat_digsF f (n / B) (by omega)]
      exact Nat.mod_add_div n B
theorem nat_digs (n : Nat) : nat (digs n) = n := nat_digsF n n (Nat.le_refl _)
theorem digsF_lt : ∀ (f n : Nat), ∀ d ∈ digsF f n, d < B
  | 0, _, d, h => by cases h
  | f + 1, n, d, h => by
    unfold digsF at h
    split at h
    · cases h
    · rcases List.mem_cons.1 h with rfl | h
      · exact Nat.mod_lt _ B_pos
      · exact digsF_lt f _ d h
theorem digs_lt (n : Nat) : ∀ d ∈ digs n, d < B := digsF_lt n n
/-- all are digits -/
def Dg (l : List Nat) : Prop := ∀ d ∈ l, d < B
theorem Dg.digs (n : Nat) : Dg (digs n) := digs_lt n
theorem Dg.nil : Dg [] := fun d h => by cases h
theorem Dg.cons {d : Nat} {l : List Nat} (h : d < B) (k : Dg l) : Dg (d :: l) := fun x hx => by
  rcases List.mem_cons.1 hx with rfl | hx
  · exact h
  · exact k x hx
theorem Dg.head {d : Nat} {l : List Nat} (h : Dg (d :: l)) : d < B := h d (by simp)
theorem Dg.tail {d : Nat} {l : List Nat} (h : Dg (d :: l)) : Dg l := fun x hx => h x (by simp [hx])
theorem Dg.append {l k : List Nat} (h : Dg l) (h' : Dg k) : Dg (l ++ k) := fun x hx => by
  rcases List.mem_append.1 hx with hx | hx
  · exact h x hx
  · exact h' x hx
theorem Dg.take {l : List Nat} (h : Dg l) (n : Nat) : Dg (l.take n) := fun x hx => h x (List.mem_of_mem_take hx)
theorem Dg.drop {l : List Nat} (h : Dg l) (n : Nat) : Dg (l.drop n) := fun x hx => h x (List.mem_of_mem_drop hx)
theorem Dg.at_ {l : List Nat} (h : Dg l) (i : Nat) (hi : i < l.length) : l[i] < B := h _ (List.getElem_mem hi)
theorem nat_append : ∀ (l k : List Nat), nat (l ++ k) = nat l + B ^ l.length * nat k
  | [], k => by simp [nat]
  | d :: l, k => by
    simp only [List.cons_append, nat, nat_append l k, List.length_cons, Nat.pow_succ, Nat.mul_add]
    rw [Nat.mul_comm (B ^ l.length) B, Nat.mul_assoc, Nat.add_assoc]
theorem nat_lt : ∀ {l : List Nat}, Dg l → nat l < B ^ l.length
  | [], _ => by simp [nat]
  | d :: l, h => by
    have h1 := nat_lt h.tail
    have h2 := h.head
    simp only [nat, List.length_cons, Nat.pow_succ]
    have h3 : B * nat l + B ≤ B ^ l.length * B := by
      rw [← Nat.mul_succ, Nat.mul_comm B]
      exact Nat.mul_le_mul_right B h1
    omega
theorem nat_zeros : ∀ (m : Nat), nat (List.replicate m 0) = 0
  | 0 => rfl
  | m + 1 => by simp [List.replicate_succ, nat, nat_zeros m]
theorem nat_eq_zero : ∀ {l : List Nat}, nat l = 0 → l = List.replicate l.length 0
  | [], _ => rfl
  | d :: l, h => by
    unfold nat at h
    have hb := B_pos
    have h2 : nat l = 0 := by
      rcases Nat.eq_zero_or_pos (nat l) with e | e
      · exact e
      · have := Nat.mul_pos hb e
        omega
    have h1 : d = 0 := by omega
    subst h1
    rw [List.length_cons, List.replicate_succ, ← nat_eq_zero h2]
/-- the digits come first, then zeros -/
theorem digs_split : ∀ {l : List Nat}, Dg l → l = digs (nat l) ++ List.replicate (l.length - (digs (nat l)).length) 0 ∧ (digs (nat l)).length ≤ l.length
  | [], _ => by simp [nat, digs_zero]
  | d :: l, h => by
    by_cases e : nat (d :: l) = 0
    · rw [e, digs_zero]
      exact ⟨by simpa using nat_eq_zero e, by simp⟩
    · obtain ⟨h1, h2⟩ := digs_split h.tail
      have hb := B_pos
      have e1 : nat (d :: l) % B = d := by
        show (d + B * nat l) % B = d
        rw [Nat.add_mul_mod_self_left]
        exact Nat.mod_eq_of_lt h.head
      have e2 : nat (d :: l) / B = nat l := by
        show (d + B * nat l) / B = nat l
        rw [Nat.add_mul_div_left _ _ hb, Nat.div_eq_of_lt h.head, Nat.zero_add]
      rw [digs_pos e, e1, e2]
      refine ⟨?_, by simpa using h2⟩
      rw [List.cons_append, List.length_cons, List.length_cons, Nat.add_sub_add_right, ← h1]
theorem digs_take {l : List Nat} (h : Dg l) : l.take (digs (nat l)).length = digs (nat l) := by
  have h1 := (digs_split h).1
  generalize digs (nat l) = D at *
  generalize l.length - D.length = m at h1
  subst h1
  simp
/-- a list without a leading zero is the list of its number's digits -/
theorem digs_of {l : List Nat} (h : Dg l) (hl : l.getLastD 1 ≠ 0) : digs (nat l) = l := by
  obtain ⟨h1, h2⟩ := digs_split h
  generalize hk : l.length - (digs (nat l)).length = k at h1
  cases k with
  | zero => simpa using h1.symm
  | succ k =>
    exfalso
    apply hl
    rw [h1, List.replicate_succ', ← List.append_assoc]
    simp
theorem digsF_last : ∀ (f n : Nat), (digsF f n).getLastD 1 ≠ 0 ∨ f < n
  | 0, n => by
    by_cases h : n = 0
    · left; subst h; simp [digsF]
    · right; omega
  | f + 1, n => by
    by_cases h : f + 1 < n
    · exact .inr h
    · left
      unfold digsF
      by_cases e : n = 0
      · rw [if_pos e]; simp
      · rw [if_neg e]
        have hlt : n / B < n := Nat.div_lt_self (by omega) B_two
        rcases digsF_last f (n / B) with h1 | h1
        · generalize hL : digsF f (n / B) = L at *
          cases L with
          | nil =>
            have hz : nat (digsF f (n / B)) = n / B := nat_digsF f _ (by omega)
            rw [hL] at hz
            have hz : n / B = 0 := hz.symm
            have : n % B = n := by
              have := Nat.mod_add_div n B
              rw [hz] at this
              simpa using this
            simp [this, e]
          | cons x L => simpa using h1
        · omega
theorem digs_last (n : Nat) : (digs n).getLastD 1 ≠ 0 := (digsF_last n n).resolve_right (by omega)
theorem digs_inj {l k : List Nat} (h : nat l = nat k) (hl : Dg l) (hk : Dg k) (h1 : l.getLastD 1 ≠ 0) (h2 : k.getLastD 1 ≠ 0) : l = k := by
  rw [← digs_of hl h1, ← digs_of hk h2, h]
theorem digs_len_le {n m : Nat} (h : n < B ^ m) : (digs n).length ≤ m := by
  induction m generalizing n with
  | zero =>
    obtain rfl : n = 0 := by simpa using h
    simp [digs_zero]
  | succ m ih =>
    by_cases e : n = 0
    · subst e; simp [digs_zero]
    · rw [digs_pos e, List.length_cons]
      have : n / B < B ^ m := by
        rw [Nat.pow_succ] at h
        exact Nat.div_lt_of_lt_mul (by rw [Nat.mul_comm]; exact h)
      have := ih this
      omega
theorem lt_digs_len (n : Nat) : n < B ^ (digs n).length := by
  have := nat_lt (Dg.digs n)
  rwa [nat_digs] at this
/-- as many digits as a number has, it is at least -/
theorem digs_len_ge {n m : Nat} (h : B ^ m ≤ n) : m < (digs n).length := by
  have h1 := lt_digs_len n
  have h2 : B ^ m < B ^ (digs n).length := Nat.lt_of_le_of_lt h h1
  exact (Nat.pow_lt_pow_iff_right B_two).1 h2
theorem digs_len_mono {a b : Nat} (h : a ≤ b) : (digs a).length ≤ (digs b).length := digs_len_le (Nat.lt_of_le_of_lt h (lt_digs_len b))
theorem digs_ge {n m : Nat} (h : m < (digs n).length) : B ^ m ≤ n := by
  rcases Nat.lt_or_ge n (B ^ m) with h1 | h1
  · have := digs_len_le h1; omega
  · exact h1
theorem digs_nil_iff {n : Nat} : digs n = [] ↔ n = 0 := by
  constructor
  · intro h
    have := nat_digs n
    rw [h] at this
    exact this.symm
  · rintro rfl; rfl
end Fr
end Go.Proofs.YtfopmaeaclbknaaDoor
namespace Go.Proofs.YtfopmaeaclbknaaDoor
open Go.ChangeShapes Go.WideShapes Go.ChangeAt Go.RowKit

namespace OpenAdd
theorem add_at (b o k : Nat) : (⟨b, o, none⟩ : Addr).add k = ⟨b, o + k, none⟩ := by
  unfold Addr.add
  split
  · rename_i e; subst e; rfl
  · rfl
end OpenAdd
/-- block g is just the cells cs of the type t -/
def Blk (w : World) (g : Nat) (t : TypeId) (cs : Array Value) : Prop := w.heap[g]? = some (.cells cs t (0, 0))
section
variable {w w' : World} {g : Nat} {t : TypeId} {cs : Array Value}
theorem Blk.lt (h : Blk w g t cs) : g < w.heap.size := by
  rcases Nat.lt_or_ge g w.heap.size with hlt | hge
  · exact hlt
  · unfold Blk at h
    rw [Array.getElem?_eq_none hge] at h
    cases h
theorem Blk.cell (h : Blk w g t cs) (i : Nat) : w.cell? ⟨g, i, none⟩ = cs[i]? := cell_of_row w g i cs t (0, 0) h
theorem Blk.free (h : Blk w g t cs) (i : Nat) : w.frozen? ⟨g, i, none⟩ = false := by
  unfold Blk at h
  simp [World.frozen?, h]
theorem Blk.new (w : World) (t : TypeId) (cs : Array Value) : Blk (w.alloc (.cells cs t)) w.heap.size t cs := heap_alloc_new w _
theorem Blk.drew (h : Blk w g t cs) : Blk w.drew g t cs := h
theorem Blk.drewN (h : Blk w g t cs) (n : Nat) : Blk (w.drewN n) g t cs := h
theorem Blk.alloc (h : Blk w g t cs) (o : Obj) : Blk (w.alloc o) g t cs := (Below.heap_alloc w o g h.lt).trans h
theorem Blk.put (h : Blk w g t cs) (i : Nat) (u : Value) : Blk (w.setCell ⟨g, i, none⟩ u) g t (cs.setIfInBounds i u) := by
  unfold Blk at h ⊢
  simp [World.setCell, Array.getElem?_modify, h]
theorem Blk.far (h : Blk w g t cs) {p : Addr} (hp : g ≠ p.block) (u : Value) : Blk (w.setCell p u) g t cs := (Below.heap_setCell w p u g hp).trans h
theorem Blk.below {B : Nat} (h : Blk w g t cs) (hb : Below B w w') (hg : g < B) : Blk w' g t cs := (hb.block g hg).trans h
theorem Blk.below' (h : Blk w g t cs) (hb : Below w.heap.size w w') : Blk w' g t cs := h.below hb h.lt
theorem Blk.grown {row : Option Nat} (h : Blk w g t cs) (hb : w.grownBy w' row) (hg : some g ≠ row) : Blk w' g t cs := (hb.block g h.lt hg).trans h
theorem Blk.apart {g' : Nat} {t' : TypeId} {cs' : Array Value} (h : Blk w g t cs) (h' : Blk w g' t' cs') (hne : t ≠ t') : g ≠ g' := by
  rintro rfl
  unfold Blk at h h'
  rw [h] at h'
  injection h' with h'
  injection h' with _ ht
  exact hne ht
theorem own_apart {base : Nat} {e : TypeId} {size n : Nat} {v : Value} {xs : List Value} (h : w.ownsRow base e size v n xs) (hg : Blk w g t cs) (hne : e ≠ t) : v.ownBlock ≠ some g := by
  rcases h.2 with ⟨rfl, _⟩ | ⟨g', cap, cur, rfl, _, hh, _⟩
  · simp [Value.ownBlock]
  · intro he
    have : g' = g := by simpa [Value.ownBlock] using he
    subst this
    exact Blk.apart (t := e) hh hg hne rfl
end
theorem own_below {w w' : World} {base : Nat} {e : TypeId} {size n : Nat} {v : Value} {xs : List Value} (h : w.ownsRow base e size v n xs) (b : Below w.heap.size w w') : w'.ownsRow base e size v n xs :=
  h.kept (row := none) ⟨b.os, b.tape, b.output, b.size, fun k hk _ => b.block k hk⟩ (by cases v.ownBlock <;> simp)
/-- what the cells of a block of one to six cells are: facts for a walk -/
theorem Blk.c1 {w : World} {g : Nat} {t : TypeId} {a : Value} (h : Blk w g t #[a]) : w.cell? ⟨g, 0, none⟩ = some a ∧ w.frozen? ⟨g, 0, none⟩ = false := ⟨h.cell 0, h.free 0⟩
theorem Blk.c2 {w : World} {g : Nat} {t : TypeId} {a b : Value} (h : Blk w g t #[a, b]) :
    (w.cell? ⟨g, 0, none⟩ = some a ∧ w.frozen? ⟨g, 0, none⟩ = false) ∧ w.cell? ⟨g, 1, none⟩ = some b ∧ w.frozen? ⟨g, 1, none⟩ = false := ⟨⟨h.cell 0, h.free 0⟩, h.cell 1, h.free 1⟩
theorem Blk.c3 {w : World} {g : Nat} {t : TypeId} {a b c : Value} (h : Blk w g t #[a, b, c]) :
    (w.cell? ⟨g, 0, none⟩ = some a ∧ w.frozen? ⟨g, 0, none⟩ = false) ∧ (w.cell? ⟨g, 1, none⟩ = some b ∧ w.frozen? ⟨g, 1, none⟩ = false) ∧ w.cell? ⟨g, 2, none⟩ = some c ∧ w.frozen? ⟨g, 2, none⟩ = false :=
  ⟨⟨h.cell 0, h.free 0⟩, ⟨h.cell 1, h.free 1⟩, h.cell 2, h.free 2⟩
theorem Blk.c4 {w : World} {g : Nat} {t : TypeId} {a b c d : Value} (h : Blk w g t #[a, b, c, d]) :
    (w.cell? ⟨g, 0, none⟩ = some a ∧ w.frozen? ⟨g, 0, none⟩ = false) ∧ (w.cell? ⟨g, 1, none⟩ = some b ∧ w.frozen? ⟨g, 1, none⟩ = false) ∧ (w.cell? ⟨g, 2, none⟩ = some c ∧ w.frozen? ⟨g, 2, none⟩ = false) ∧ w.cell? ⟨g, 3, none⟩ = some d ∧ w.frozen? ⟨g, 3, none⟩ = false :=
  ⟨⟨h.cell 0, h.free 0⟩, ⟨h.cell 1, h.free 1⟩, ⟨h.cell 2, h.free 2⟩, h.cell 3, h.free 3⟩
theorem Blk.c5 {w : World} {g : Nat} {t : TypeId} {a b c d e : Value} (h : Blk w g t #[a, b, c, d, e]) :
    (w.cell? ⟨g, 0, none⟩ = some a ∧ w.frozen? ⟨g, 0, none⟩ = false) ∧ (w.cell? ⟨g, 1, none⟩ = some b ∧ w.frozen? ⟨g, 1, none⟩ = false) ∧ (w.cell? ⟨g, 2, none⟩ = some c ∧ w.frozen? ⟨g, 2, none⟩ = false) ∧ (w.cell? ⟨g, 3, none⟩ = some d ∧ w.frozen? ⟨g, 3, none⟩ = false) ∧ w.cell? ⟨g, 4, none⟩ = some e ∧ w.frozen? ⟨g, 4, none⟩ = false :=
  ⟨⟨h.cell 0, h.free 0⟩, ⟨h.cell 1, h.free 1⟩, ⟨h.cell 2, h.free 2⟩, ⟨h.cell 3, h.free 3⟩, h.cell 4, h.free 4⟩
theorem Blk.c6 {w : World} {g : Nat} {t : TypeId} {a b c d e f : Value} (h : Blk w g t #[a, b, c, d, e, f]) :
    (w.cell? ⟨g, 0, none⟩ = some a ∧ w.frozen? ⟨g, 0, none⟩ = false) ∧ (w.cell? ⟨g, 1, none⟩ = some b ∧ w.frozen? ⟨g, 1, none⟩ = false) ∧ (w.cell? ⟨g, 2, none⟩ = some c ∧ w.frozen? ⟨g, 2, none⟩ = false) ∧ (w.cell? ⟨g, 3, none⟩ = some d ∧ w.frozen? ⟨g, 3, none⟩ = false) ∧ (w.cell? ⟨g, 4, none⟩ = some e ∧ w.frozen? ⟨g, 4, none⟩ = false) ∧ w.cell? ⟨g, 5, none⟩ = some f ∧ w.frozen? ⟨g, 5, none⟩ = false :=
  ⟨⟨h.cell 0, h.free 0⟩, ⟨h.cell 1, h.free 1⟩, ⟨h.cell 2, h.free 2⟩, ⟨h.cell 3, h.free 3⟩, ⟨h.cell 4, h.free 4⟩, h.cell 5, h.free 5⟩

/-- a first result that lies in a cell, a second one in a slot -/
theorem results_blk_tmp {P : Program} {fn : Func} {p u : Tmp} {ty : TypeId} (h : fn.results = #[.cell p ty, .tmp u]) {tmps : Array Value} {w : World} {g : Nat} {t : TypeId} {cs : Array Value} {d : TypeDesc}
    (hp : tmps.getD p undef = .pointer (some ⟨g, 0, none⟩)) (hg : Blk w g t cs)
    (hu : P.underlying ty = some d) (hd : (match d with | .struct _ | .array _ _ => true | _ => false) = true) (hi : (P.info? ty).map (·.size) = some cs.size) {x : Value} (hx : tmps.getD u undef = x) :
    (results fn tmps).run P w = .ok (.tuple #[.agg cs, x]) w := by
  subst hx
  have hp' : tmps[p]?.getD undef = .pointer (some ⟨g, 0, none⟩) := by simpa using hp
  simp [results, h, hp', asAddr, run_loadVar_row w g t ty cs (0, 0) d hg hu hd hi]
/-- a single result that lies in a cell -/
theorem results_blk {P : Program} {fn : Func} {p : Tmp} {ty : TypeId} (h : fn.results = #[.cell p ty]) {tmps : Array Value} {w : World} {g : Nat} {t : TypeId} {cs : Array Value} {d : TypeDesc}
    (hp : tmps.getD p undef = .pointer (some ⟨g, 0, none⟩)) (hg : Blk w g t cs)
    (hu : P.underlying ty = some d) (hd : (match d with | .struct _ | .array _ _ => true | _ => false) = true) (hi : (P.info? ty).map (·.size) = some cs.size) :
    (results fn tmps).run P w = .ok (.agg cs) w := by
  have hp' : tmps[p]?.getD undef = .pointer (some ⟨g, 0, none⟩) := by simpa using hp
  simp [results, h, hp', asAddr, run_loadVar_row w g t ty cs (0, 0) d hg hu hd hi]

/-- a slice value whose elements' cells (size cells each) read as xs -/
def Sl (w : World) (size : Nat) (v : Value) (n : Nat) (xs : List Value) : Prop :=
  xs.length = n * size ∧ ∃ A c, v = .slice A n c ∧ n ≤ c ∧ c ≤ maxLen ∧ (0 < n → ∃ b off, A = some ⟨b, off, none⟩ ∧ b < w.heap.size ∧ ∀ j u, xs[j]? = some u → w.cell? ⟨b, off + j, none⟩ = some u)
section
variable {w w' : World} {size n : Nat} {v : Value} {xs : List Value}
theorem Sl.nil (w : World) (size : Nat) : Sl w size (.slice none 0 0) 0 [] := ⟨by simp, none, 0, rfl, Nat.le_refl _, by unfold maxLen; omega, fun h => absurd h (by omega)⟩
theorem Sl.keep (h : Sl w size v n xs) (hb : Below w.heap.size w w') : Sl w' size v n xs := by
  obtain ⟨h0, A, c, h1, h2, h3, h4⟩ := h
  refine ⟨h0, A, c, h1, h2, h3, fun hn => ?_⟩
  obtain ⟨b, off, e, hlt, hc⟩ := h4 hn
  exact ⟨b, off, e, Nat.lt_of_lt_of_le hlt hb.size, fun j u hu => (hb.cell (p := ⟨b, off + j, none⟩) hlt).trans (hc j u hu)⟩
theorem Sl.of_own {base : Nat} {e : TypeId} (h : w.ownsRow base e size v n xs) : Sl w size v n xs := by
  refine ⟨h.1, ?_⟩
  rcases h.2 with ⟨rfl, rfl⟩ | ⟨g, cap, cur, rfl, _, hh, hn, hc, hs, ht⟩
  · exact ⟨none, 0, rfl, Nat.le_refl _, by unfold maxLen; omega, fun h => absurd h (by omega)⟩
  · refine ⟨_, cap, rfl, hn, hc, fun _ => ⟨g, 0, rfl, (Array.getElem?_eq_some_iff.1 hh).1, fun j u hu => ?_⟩⟩
    have := h.cells (g := g) rfl j u hu
    rw [← this]
    congr 1
    unfold Addr.add
    split
    · rename_i e; subst e; rfl
    · rfl
end
end Go.Proofs.YtfopmaeaclbknaaDoor
namespace Go.Proofs.YtfopmaeaclbknaaDoor
open Go.ChangeShapes Go.WideShapes Go.ChangeAt Go.RowKit
section
variable {P : Program} (w : World)
/-- append of no elements onto a row of the call's own -/
theorem run_append_zero (base : Nat) (t ty e : TypeId) (i : TypeInfo) (size : Nat) (ht : P.underlying t = some (.slice e)) (hi : P.info? e = some i)
    (v : Value) (n : Nat) (xs : List Value) (hown : w.ownsRow base e size v n xs) (A : Option Addr) (c : Nat) : (Builtin.append_ #[t, t] ty #[v, .slice A 0 c]).run P w = .ok v w := by
  rcases hown.2 with ⟨rfl, rfl⟩ | ⟨g, cap, cur, rfl, _, _, hnc, _⟩
  · cases A with
    | none => simp [Builtin.append_, run_underlying ht, sizeOf, typeInfo, hi, Builtin.lenOf, Builtin.firstCells]
    | some a => simp [Builtin.append_, run_underlying ht, sizeOf, typeInfo, hi, Builtin.lenOf, Builtin.firstCells, loadCells, loadCellsFrom]
  · cases A with
    | none => simp [Builtin.append_, run_underlying ht, sizeOf, typeInfo, hi, Builtin.lenOf, Builtin.firstCells, hnc, storeCells]
    | some a => simp [Builtin.append_, run_underlying ht, sizeOf, typeInfo, hi, Builtin.lenOf, Builtin.firstCells, loadCells, loadCellsFrom, hnc, storeCells]
/-- append of a slice that reads as a list onto a row of the call's own -/
theorem run_append_sl (base : Nat) (t ty e : TypeId) (i : TypeInfo) (z : Value) (size bytes : Nat) (ht : P.underlying t = some (.slice e)) (hi : P.info? e = some i) (hz : i.zero = some z)
    (hsize : i.size = size) (hby : i.bytes = bytes) (hzs : z.cells.size = size) (hsz : 0 < size)
    (v : Value) (n : Nat) (xs : List Value) (hown : w.ownsRow base e size v n xs) (u : Value) (m : Nat) (news : List Value) (hu : Sl w size u m news) (h1 : ∀ u ∈ news, u.oneCell' = true)
    (h63 : n + m ≤ maxLen) (hbytes : (n + m) * bytes ≤ 140737488355328) (hbase : base ≤ w.heap.size) :
    ∃ v' w', (Builtin.append_ #[t, t] ty #[v, u]).run P w = .ok v' w' ∧ w'.ownsRow base e size v' (n + m) (xs ++ news) ∧ w.grownBy w' v.ownBlock := by
  obtain ⟨hl, A, c, rfl, _, _, hr⟩ := hu
  rcases Nat.eq_zero_or_pos m with h0 | h0
  · subst h0
    have hn : news = [] := List.eq_nil_of_length_eq_zero (by simpa using hl)
    subst hn
    exact ⟨v, w, run_append_zero w base t ty e i size ht hi v n xs hown A c, by simpa using hown, World.grownBy.refl w _⟩
  · obtain ⟨b, o, rfl, _, hc⟩ := hr h0
    obtain ⟨v', w', h2, h3, h4, _⟩ := run_append_own (P := P) w base t ty e i z size bytes ht hi hz hsize hby hzs hsz v n xs hown ⟨b, o, none⟩ m c news hl (fun j u hj => by rw [OpenAdd.add_at]; exact hc j u hj) h1 h63 hbytes hbase
    exact ⟨v', w', h2, h3, h4⟩
theorem wp_append_run {o : Oper} {a : Act} {K : Act → World → Prop} {Q : Exit → Act → World → Prop} (s x : Operand) (t t2 : TypeId)
    (ho : o.op = .call { callee := .builtin .append, args := #[s, x], argTypes := #[t, t2] }) (v u : Value) (hs : a.eval s = v) (hx : a.eval x = u) (r : Value) (w' : World)
    (hr : (Builtin.append_ #[t, t2] o.type #[v, u]).run P w = .ok r w') (h : K (a.put o.dst r) w') : o.wp P a w K Q := by
  unfold Oper.wp execOp
  simp only [ho, resolve, invoke, builtin, Sem.run_bind, Sem.run_pure, Result.andThen_ok, List.map_toArray, List.map_cons, List.map_nil, hs, hx, hr]
  exact h
/-- an append whose run is known -/
theorem wpList_append_run {ops : Array Oper} {rest : List Oper} {o : Oper} {a : Act} {Q : Exit → Act → World → Prop} (hgd : o.guard = none) (s x : Operand) (t t2 : TypeId)
    (ho : o.op = .call { callee := .builtin .append, args := #[s, x], argTypes := #[t, t2] }) (v u : Value) (hs : a.eval s = v) (hx : a.eval x = u) (r : Value) (w' : World)
    (hr : (Builtin.append_ #[t, t2] o.type #[v, u]).run P w = .ok r w') (h : wpList P ops Q rest (a.put o.dst r) w') : wpList P ops Q (o :: rest) a w :=
  wpList_plain hgd fun _ hK => wp_append_run w s x t t2 ho v u hs hx r w' hr (hK _ _ h)
theorem wpList_append_sl {ops : Array Oper} {rest : List Oper} {o : Oper} {a : Act} {Q : Exit → Act → World → Prop} (hgd : o.guard = none) (s x : Operand) (t : TypeId)
    (ho : o.op = .call { callee := .builtin .append, args := #[s, x], argTypes := #[t, t] })
    (base : Nat) (e : TypeId) (i : TypeInfo) (z : Value) (size bytes : Nat) (ht : P.underlying t = some (.slice e)) (hi : P.info? e = some i) (hz : i.zero = some z)
    (hsize : i.size = size) (hby : i.bytes = bytes) (hzs : z.cells.size = size) (hsz : 0 < size)
    (v : Value) (n : Nat) (xs : List Value) (hs : a.eval s = v) (hown : w.ownsRow base e size v n xs) (u : Value) (m : Nat) (news : List Value) (hx : a.eval x = u) (hu : Sl w size u m news) (h1 : ∀ u ∈ news, u.oneCell' = true)
    (h63 : n + m ≤ maxLen) (hbytes : (n + m) * bytes ≤ 140737488355328) (hbase : base ≤ w.heap.size)
    (h : ∀ v' w', w'.ownsRow base e size v' (n + m) (xs ++ news) → w.grownBy w' v.ownBlock → wpList P ops Q rest (a.put o.dst v') w') : wpList P ops Q (o :: rest) a w := by
  obtain ⟨v', w', h2, h3, h4⟩ := run_append_sl (P := P) w base t o.type e i z size bytes ht hi hz hsize hby hzs hsz v n xs hown u m news hu h1 h63 hbytes hbase
  exact wpList_append_run w hgd s x t t ho v u hs hx v' w' h2 (h v' w' h3 h4)
/-- append onto a row of the call's own, as one step of a region that draws -/
theorem step_append_own {ops : Array Oper} {o : Oper} {a : Act} {K : Act → World → Prop} {Q : Exit → Act → World → Prop} {E : Prop} (hgd : o.guard = none) (s x : Operand) (t : TypeId)
    (ho : o.op = .call { callee := .builtin .append, args := #[s, x], argTypes := #[t, t] })
    (base : Nat) (e : TypeId) (i : TypeInfo) (z : Value) (size bytes : Nat) (ht : P.underlying t = some (.slice e)) (hi : P.info? e = some i) (hz : i.zero = some z)
    (hsize : i.size = size) (hby : i.bytes = bytes) (hzs : z.cells.size = size) (hsz : 0 < size)
    (v : Value) (n : Nat) (xs : List Value) (hs : a.eval s = v) (hown : w.ownsRow base e size v n xs)
    (ad : Addr) (m c : Nat) (news : List Value) (hx : a.eval x = .slice (some ad) m c) (hl : news.length = m * size) (hnews : ∀ j u, news[j]? = some u → w.cell? (ad.add j) = some u) (h1 : ∀ u ∈ news, u.oneCell' = true)
    (h63 : n + m ≤ maxLen) (hbytes : (n + m) * bytes ≤ 140737488355328) (hbase : base ≤ w.heap.size)
    (h : ∀ v' w', w'.ownsRow base e size v' (n + m) (xs ++ news) → w.grownBy w' v.ownBlock → (v' = .slice none 0 0 ↔ v = .slice none 0 0 ∧ m = 0) → K (a.put o.dst v') w') :
    if Region.wanted o (yielded ops a.tmps) = true then Oper.wp P o a w K Q else E := by
  have hw : Region.wanted o (yielded ops a.tmps) = true := by simp [Region.wanted, hgd]
  rw [if_pos hw]
  exact wp_append_own w s x t ho base e i z size bytes ht hi hz hsize hby hzs hsz v n xs hs hown ad m c news hx hl hnews h1 h63 hbytes hbase h
end
end Go.Proofs.YtfopmaeaclbknaaDoor
