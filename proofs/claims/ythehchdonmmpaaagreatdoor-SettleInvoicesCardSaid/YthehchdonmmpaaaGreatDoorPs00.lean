/- Plain laws on worlds, over any program: a region that draws its order and whose calls make memory, walked once in the order of the text. Plain: numbers as lists of digits. Plain laws on memory, over any program: blocks that are known whole, slices whose cells read as a list. Plain laws on append, over any program: from a slice that reads as a list, nil and empty ones too; as one step of a region that draws. Numbers in memory; contracts of the reference's digit, trim and FromUint. Printed by gen_nat1.py. Plain: sums of digits by places; what the digit loops compute. -/
import Derived.WalkKit
import Derived.ProofKit
import Derived.OpenShut
import Derived.Handy
import Derived.BigQuiet
import Derived.Lib.Hide
import Derived.Laws.OwnMore
import Derived.Laws.Rows
import Derived.Deep.Draws
import Derived.ArgAppend
import Derived.Test.YthehchdonmmpaaaGreatDoorProg
import Derived.IntWalk
namespace Go.Proofs.YthehchdonmmpaaaGreatDoor
open Go.ChangeShapes Go.WideShapes Go.ChangeAt Go.RowKit

theorem bcell {W w1 : World} (hb : Below W.heap.size W w1) : (∀ b o, b < W.heap.size → w1.cell? ⟨b, o, none⟩ = W.cell? ⟨b, o, none⟩) ∧ (∀ b o, b < W.heap.size → w1.frozen? ⟨b, o, none⟩ = W.frozen? ⟨b, o, none⟩) :=
  ⟨fun b o h => hb.cell (p := ⟨b, o, none⟩) h, fun b o h => hb.frozen (p := ⟨b, o, none⟩) h⟩

/-- some world that is as w below w's end -/
noncomputable def later (w x : World) : World := @ite _ (Below w.heap.size w x) (Classical.propDecidable _) x w
theorem later_below (w x : World) : Below w.heap.size w (later w x) := by
  unfold later
  split
  · assumption
  · exact Below.refl _ _
theorem later_of {w x : World} (h : Below w.heap.size w x) : later w x = x := by
  unfold later
  rw [if_pos h]
theorem later_cell {w x : World} {a : Addr} {v : Value} (h : w.cell? a = some v) : (later w x).cell? a = some v :=
  ((later_below w x).cell (p := a) (block_lt_of_cell h)).trans h
theorem later_iff (w : World) (C : World → Prop) : (∀ w', (∃ x, w' = later w x) → C w') ↔ ∀ x, C (later w x) :=
  ⟨fun h x => h _ ⟨x, rfl⟩, fun h _ ⟨x, e⟩ => by rw [e]; exact h x⟩

theorem chain0 {w a c : World} (h : Below w.heap.size w a) (k : Below a.heap.size a c) : Below w.heap.size w c := h.trans (k.mono h.size)
theorem chain1 {w a c : World} {o : Obj} (h : Below w.heap.size w a) (k : Below (a.alloc o).heap.size (a.alloc o) c) : Below w.heap.size w c :=
  chain0 (h.alloc h.size o) k
theorem chain2 {w a c : World} {o o' : Obj} (h : Below w.heap.size w a) (k : Below ((a.alloc o).alloc o').heap.size ((a.alloc o).alloc o') c) : Below w.heap.size w c :=
  chain1 (h.alloc h.size o) k
theorem below_new (w : World) (o : Obj) : Below w.heap.size w (w.alloc o) := (Below.refl _ _).alloc (Nat.le_refl _) o

section
variable {P : Program}
theorem wp_region_later {id : Nat} {Q : Exit → Act → World → Prop} {a : Act} {w : World} {l : List Oper} (hm : P.follows .mixedOrders = true) (hB : Region.lexB .any l.toArray = true)
    (h : wpQuiet P l.toArray (fun w' => ∃ x, w' = later w x) (fun a' => ∀ w', (∃ x, w' = later w x) → Q .normal a' w') l a) : (Code.region id l.toArray true).wp P Q a w :=
  wp_region_quiet (C := fun w' => ∃ x, w' = later w x) hm hB ⟨w.drew, (later_of ((Below.refl _ _).drew)).symm⟩ (by simpa using h)
theorem calls_later {f : FuncId} {args : Array Value} {w x : World} {v : Value}
    (h : Calls P f args (later w x) fun e w' => e = .returned v ∧ Below (later w x).heap.size (later w x) w') :
    Calls P f args (later w x) fun e w'' => e = .returned v ∧ ∃ y, w'' = later w y :=
  h.mono fun _ w' ⟨he, hb⟩ => ⟨he, w', (later_of ((later_below w x).trans (hb.mono (later_below w x).size))).symm⟩
end
end Go.Proofs.YthehchdonmmpaaaGreatDoor
namespace Go.Proofs.YthehchdonmmpaaaGreatDoor
namespace Fr
/-- the base of the digits -/
def B : Nat := 4294967296
theorem B_pos : 0 < B := by decide
theorem B_two : 1 < B := by decide
/-- the value of a list of digits, the least significant first -/
def nat : List Nat → Nat
  | [] => 0
  | d :: l => d + B * nat l
def digsF : Nat → Nat → List Nat
  | 0, _ => []
  | f + 1, n => if n = 0 then [] else (n % B) :: digsF f (n / B)
/-- the digits of a number, without leading zeros -/
def digs (n : Nat) : List Nat := digsF n n
theorem digsF_more : ∀ (f g n : Nat), n ≤ f → n ≤ g → digsF f n = digsF g n
  | 0, 0, _, _, _ => rfl
  | 0, g + 1, n, h, _ => by
    obtain rfl : n = 0 := by omega
    simp [digsF]
  | f + 1, 0, n, _, h => by
    obtain rfl : n = 0 := by omega
    simp [digsF]
  | f + 1, g + 1, n, h1, h2 => by
    unfold digsF
    by_cases e : n = 0
    · rw [if_pos e, if_pos e]
    · rw [if_neg e, if_neg e]
      have : n / B < n := Nat.div_lt_self (by omega) B_two
      rw [digsF_more f g (n / B) (by omega) (by omega)]
theorem digs_zero : digs 0 = [] := rfl
theorem digs_pos {n : Nat} (h : n ≠ 0) : digs n = (n % B) :: digs (n / B) := by
  unfold digs
  obtain ⟨m, rfl⟩ : ∃ m, n = m + 1 := ⟨n - 1, by omega⟩
  have : (m + 1) / B < m + 1 := Nat.div_lt_self (by omega) B_two
  conv => lhs; unfold digsF
  rw [if_neg h, digsF_more m ((m + 1) / B) _ (by omega) (Nat.le_refl _)]
theorem nat_digsF : ∀ (f n : Nat), n ≤ f → nat (digsF f n) = n
  | 0, n, h => by
    obtain rfl : n = 0 := by omega
    rfl
  | f + 1, n, h => by
    unfold digsF
    by_cases e : n = 0
    · rw [if_pos e, e]; rfl
    · rw [if_neg e]
      have : n / B < n := Nat.div_lt_self (by omega) B_two
      unfold nat
      rw [nat_digsF f (n / B) (by omega)]
      exact Nat.mod_add_div n B
theorem nat_digs (n : Nat) : nat (digs n) = n := nat_digsF n n (Nat.le_refl _)
theorem digsF_lt : ∀ (f n : Nat), ∀ d ∈ digsF f n, d < B
  | 0, _, d, h => by cases h
  | f + 1, n, d, h => by
    unfold digsF at h
    split at h
    · cases h
    · rcases List.mem_cons.1 h with rfl | h
      · exact Nat.mod_lt _ B_pos
      · exact digsF_lt f _ d h
theorem digs_lt (n : Nat) : ∀ d ∈ digs n, d < B := digsF_lt n n
/-- all are digits -/
def Dg (l : List Nat) : Prop := ∀ d ∈ l, d < B
theorem Dg.digs (n : Nat) : Dg (digs n) := digs_lt n
theorem Dg.nil : Dg [] := fun d h => by cases h
theorem Dg.cons {d : Nat} {l : List Nat} (h : d < B) (k : Dg l) : Dg (d :: l) := fun x hx => by
  rcases List.mem_cons.1 hx with rfl | hx
  · exact h
  · exact k x hx
theorem Dg.head {d : Nat} {l : List Nat} (h : Dg (d :: l)) : d < B := h d (by simp)
theorem Dg.tail {d : Nat} {l : List Nat} (h : Dg (d :: l)) : Dg l := fun x hx => h x (by simp [hx])
theorem Dg.append {l k : List Nat} (h : Dg l) (h' : Dg k) : Dg (l ++ k) := fun x hx => by
  rcases List.mem_append.1 hx with hx | hx
  · exact h x hx
  · exact h' x hx
theorem Dg.take {l : List Nat} (h : Dg l) (n : Nat) : Dg (l.take n) := fun x hx => h x (List.mem_of_mem_take hx)
theorem Dg.drop {l : List Nat} (h : Dg l) (n : Nat) : Dg (l.drop n) := fun x hx => h x (List.mem_of_mem_drop hx)
theorem Dg.at_ {l : List Nat} (h : Dg l) (i : Nat) (hi : i < l.length) : l[i] < B := h _ (List.getElem_mem hi)
theorem nat_append : ∀ (l k : List Nat), nat (l ++ k) = nat l + B ^ l.length * nat k
  | [], k => by simp [nat]
  | d :: l, k => by
    simp only [List.cons_append, nat, nat_append l k, List.length_cons, Nat.pow_succ, Nat.mul_add]
    rw [Nat.mul_comm (B ^ l.length) B, Nat.mul_assoc, Nat.add_assoc]
theorem nat_lt : ∀ {l : List Nat}, Dg l → nat l < B ^ l.length
  | [], _ => by simp [nat]
  | d :: l, h => by
    have h1 := nat_lt h.tail
    have h2 := h.head
    simp only [nat, List.length_cons, Nat.pow_succ]
    have h3 : B * nat l + B ≤ B ^ l.length * B := by
      rw [← Nat.mul_succ, Nat.mul_comm B]
      exact Nat.mul_le_mul_right B h1
    omega
theorem nat_zeros : ∀ (m : Nat), nat (List.replicate m 0) = 0
  | 0 => rfl
  | m + 1 => by simp [List.replicate_succ, nat, nat_zeros m]
theorem nat_eq_zero : ∀ {l : List Nat}, nat l = 0 → l = List.replicate l.length 0
  | [], _ => rfl
  | d :: l, h => by
    unfold nat at h
    have hb := B_pos
    have h2 : nat l = 0 := by
      rcases Nat.eq_zero_or_pos (nat l) with e | e
      · exact e
      · have := Nat.mul_pos hb e
        omega
    have h1 : d = 0 := by omega
    subst h1
    rw [List.length_cons, List.replicate_succ, ← nat_eq_zero h2]
/-- the digits come first, then zeros -/
theorem digs_split : ∀ {l : List Nat}, Dg l → l = digs (nat l) ++ List.replicate (l.length - (digs (nat l)).length) 0 ∧ (digs (nat l)).length ≤ l.length
  | [], _ => by simp [nat, digs_zero]
  | d :: l, h => by
    by_cases e : nat (d :: l) = 0
    · rw [e, digs_zero]
      exact ⟨by simpa using nat_eq_zero e, by simp⟩
    · obtain ⟨h1, h2⟩ := digs_split h.tail
      have hb := B_pos
      have e1 : nat (d :: l) % B = d := by
        show (d + B * nat l) % B = d
        rw [Nat.add_mul_mod_self_left]
        exact Nat.mod_eq_of_lt h.head
      have e2 : nat (d :: l) / B = nat l := by
        show (d + B * nat l) / B = nat l
        rw [Nat.add_mul_div_left _ _ hb, Nat.div_eq_of_lt h.head, Nat.zero_add]
      rw [digs_pos e, e1, e2]
      refine ⟨?_, by simpa using h2⟩
      rw [List.cons_append, List.length_cons, List.length_cons, Nat.add_sub_add_right, ← h1]
theorem digs_take {l : List Nat} (h : Dg l) : l.take (digs (nat l)).length = digs (nat l) := by
  have h1 := (digs_split h).1
  generalize digs (nat l) = D at *
  generalize l.length - D.length = m at h1
  subst h1
  simp
/-- a list without a leading zero is the list of its number's digits -/
theorem digs_of {l : List Nat} (h : Dg l) (hl : l.getLastD 1 ≠ 0) : digs (nat l) = l := by
  obtain ⟨h1, h2⟩ := digs_split h
  generalize hk : l.length - (digs (nat l)).length = k at h1
  cases k with
  | zero => simpa using h1.symm
  | succ k =>
    exfalso
    apply hl
    rw [h1, List.replicate_succ', ← List.append_assoc]
    simp
theorem digsF_last : ∀ (f n : Nat), (digsF f n).getLastD 1 ≠ 0 ∨ f < n
  | 0, n => by
    by_cases h : n = 0
    · left; subst h; simp [digsF]
    · right; omega
  | f + 1, n => by
    by_cases h : f + 1 < n
    · exact .inr h
    · left
      unfold digsF
      by_cases e : n = 0
      · rw [if_pos e]; simp
      · rw [if_neg e]
        have hlt : n / B < n := Nat.div_lt_self (by omega) B_two
        rcases digsF_last f (n / B) with h1 | h1
        · generalize hL : digsF f (n / B) = L at *
          cases L with
          | nil =>
            have hz : nat (digsF f (n / B)) = n / B := nat_digsF f _ (by omega)
            rw [hL] at hz
            have hz : n / B = 0 := hz.symm
            have : n % B = n := by
              have := Nat.mod_add_div n B
              rw [hz] at this
              simpa using this
            simp [this, e]
          | cons x L => simpa using h1
        · omega
theorem digs_last (n : Nat) : (digs n).getLastD 1 ≠ 0 := (digsF_last n n).resolve_right (by omega)
theorem digs_inj {l k : List Nat} (h : nat l = nat k) (hl : Dg l) (hk : Dg k) (h1 : l.getLastD 1 ≠ 0) (h2 : k.getLastD 1 ≠ 0) : l = k := by
  rw [← digs_of hl h1, ← digs_of hk h2, h]
theorem digs_len_le {n m : Nat} (h : n < B ^ m) : (digs n).length ≤ m := by
  induction m generalizing n with
  | zero =>
    obtain rfl : n = 0 := by simpa using h
    simp [digs_zero]
  | succ m ih =>
    by_cases e : n = 0
    · subst e; simp [digs_zero]
    · rw [digs_pos e, List.length_cons]
      have : n / B < B ^ m := by
        rw [Nat.pow_succ] at h
        exact Nat.div_lt_of_lt_mul (by rw [Nat.mul_comm]; exact h)
      have := ih this
      omega
theorem lt_digs_len (n : Nat) : n < B ^ (digs n).length := by
  have := nat_lt (Dg.digs n)
  rwa [nat_digs] at this
/-- as many digits as a number has, it is at least -/
theorem digs_len_ge {n m : Nat} (h : B ^ m ≤ n) : m < (digs n).length := by
  have h1 := lt_digs_len n
  have h2 : B ^ m < B ^ (digs n).length := Nat.lt_of_le_of_lt h h1
  exact (Nat.pow_lt_pow_iff_right B_two).1 h2
theorem digs_len_mono {a b : Nat} (h : a ≤ b) : (digs a).length ≤ (digs b).length := digs_len_le (Nat.lt_of_le_of_lt h (lt_digs_len b))
theorem digs_ge {n m : Nat} (h : m < (digs n).length) : B ^ m ≤ n := by
  rcases Nat.lt_or_ge n (B ^ m) with h1 | h1
  · have := digs_len_le h1; omega
  · exact h1
theorem digs_nil_iff {n : Nat} : digs n = [] ↔ n = 0 := by
  constructor
  · intro h
    have := nat_digs n
    rw [h] at this
    exact this.symm
  · rintro rfl; rfl
end Fr
end Go.Proofs.YthehchdonmmpaaaGreatDoor
namespace Go.Proofs.YthehchdonmmpaaaGreatDoor
open Go.ChangeShapes Go.WideShapes Go.ChangeAt Go.RowKit

namespace OpenAdd
theorem add_at (b o k : Nat) : (⟨b, o, none⟩ : Addr).add k = ⟨b, o + k, none⟩ := by
  unfold Addr.add
  split
  · rename_i e; subst e; rfl
  · rfl
end OpenAdd
/-- block g is just the cells cs of the type t -/
def Blk (w : World) (g : Nat) (t : TypeId) (cs : Array Value) : Prop := w.heap[g]? = some (.cells cs t (0, 0))
section
variable {w w' : World} {g : Nat} {t : TypeId} {cs : Array Value}
theorem Blk.lt (h : Blk w g t cs) : g < w.heap.size := by
  rcases Nat.lt_or_ge g w.heap.size with hlt | hge
  · exact hlt
  · unfold Blk at h
    rw [Array.getElem?_eq_none hge] at h
    cases h
theorem Blk.cell (h : Blk w g t cs) (i : Nat) : w.cell? ⟨g, i, none⟩ = cs[i]? := cell_of_row w g i cs t (0, 0) h
theorem Blk.free (h : Blk w g t cs) (i : Nat) : w.frozen? ⟨g, i, none⟩ = false := by
  unfold Blk at h
  simp [World.frozen?, h]
theorem Blk.new (w : World) (t : TypeId) (cs : Array Value) : Blk (w.alloc (.cells cs t)) w.heap.size t cs := heap_alloc_new w _
theorem Blk.drew (h : Blk w g t cs) : Blk w.drew g t cs := h
theorem Blk.drewN (h : Blk w g t cs) (n : Nat) : Blk (w.drewN n) g t cs := h
theorem Blk.alloc (h : Blk w g t cs) (o : Obj) : Blk (w.alloc o) g t cs := (Below.heap_alloc w o g h.lt).trans h
theorem Blk.put (h : Blk w g t cs) (i : Nat) (u : Value) : Blk (w.setCell ⟨g, i, none⟩ u) g t (cs.setIfInBounds i u) := by
  unfold Blk at h ⊢
  simp [World.setCell, Array.getElem?_modify, h]
theorem Blk.far (h : Blk w g t cs) {p : Addr} (hp : g ≠ p.block) (u : Value) : Blk (w.setCell p u) g t cs := (Below.heap_setCell w p u g hp).trans h
theorem Blk.below {B : Nat} (h : Blk w g t cs) (hb : Below B w w') (hg : g < B) : Blk w' g t cs := (hb.block g hg).trans h
theorem Blk.below' (h : Blk w g t cs) (hb : Below w.heap.size w w') : Blk w' g t cs := h.below hb h.lt
theorem Blk.grown {row : Option Nat} (h : Blk w g t cs) (hb : w.grownBy w' row) (hg : some g ≠ row) : Blk w' g t cs := (hb.block g h.lt hg).trans h
theorem Blk.apart {g' : Nat} {t' : TypeId} {cs' : Array Value} (h : Blk w g t cs) (h' : Blk w g' t' cs') (hne : t ≠ t') : g ≠ g' := by
  rintro rfl
  unfold Blk at h h'
  rw [h] at h'
  injection h' with h'
  injection h' with _ ht
  exact hne ht
theorem own_apart {base : Nat} {e : TypeId} {size n : Nat} {v : Value} {xs : List Value} (h : w.ownsRow base e size v n xs) (hg : Blk w g t cs) (hne : e ≠ t) : v.ownBlock ≠ some g := by
  rcases h.2 with ⟨rfl, _⟩ | ⟨g', cap, cur, rfl, _, hh, _⟩
  · simp [Value.ownBlock]
  · intro he
    have : g' = g := by simpa [Value.ownBlock] using he
    subst this
    exact Blk.apart (t := e) hh hg hne rfl
end
theorem own_below {w w' : World} {base : Nat} {e : TypeId} {size n : Nat} {v : Value} {xs : List Value} (h : w.ownsRow base e size v n xs) (b : Below w.heap.size w w') : w'.ownsRow base e size v n xs :=
  h.kept (row := none) ⟨b.os, b.tape, b.output, b.size, fun k hk _ => b.block k hk⟩ (by cases v.ownBlock <;> simp)
/-- what the cells of a block of one to six cells are: facts for a walk -/
theorem Blk.c1 {w : World} {g : Nat} {t : TypeId} {a : Value} (h : Blk w g t #[a]) : w.cell? ⟨g, 0, none⟩ = some a ∧ w.frozen? ⟨g, 0, none⟩ = false := ⟨h.cell 0, h.free 0⟩
theorem Blk.c2 {w : World} {g : Nat} {t : TypeId} {a b : Value} (h : Blk w g t #[a, b]) :
    (w.cell? ⟨g, 0, none⟩ = some a ∧ w.frozen? ⟨g, 0, none⟩ = false) ∧ w.cell? ⟨g, 1, none⟩ = some b ∧ w.frozen? ⟨g, 1, none⟩ = false := ⟨⟨h.cell 0, h.free 0⟩, h.cell 1, h.free 1⟩
theorem Blk.c3 {w : World} {g : Nat} {t : TypeId} {a b c : Value} (h : Blk w g t #[a, b, c]) :
    (w.cell? ⟨g, 0, none⟩ = some a ∧ w.frozen? ⟨g, 0, none⟩ = false) ∧ (w.cell? ⟨g, 1, none⟩ = some b ∧ w.frozen? ⟨g, 1, none⟩ = false) ∧ w.cell? ⟨g, 2, none⟩ = some c ∧ w.frozen? ⟨g, 2, none⟩ = false :=
  ⟨⟨h.cell 0, h.free 0⟩, ⟨h.cell 1, h.free 1⟩, h.cell 2, h.free 2⟩
theorem Blk.c4 {w : World} {g : Nat} {t : TypeId} {a b c d : Value} (h : Blk w g t #[a, b, c, d]) :
    (w.cell? ⟨g, 0, none⟩ = some a ∧ w.frozen? ⟨g, 0, none⟩ = false) ∧ (w.cell? ⟨g, 1, none⟩ = some b ∧ w.frozen? ⟨g, 1, none⟩ = false) ∧ (w.cell? ⟨g, 2, none⟩ = some c ∧ w.frozen? ⟨g, 2, none⟩ = false) ∧ w.cell? ⟨g, 3, none⟩ = some d ∧ w.frozen? ⟨g, 3, none⟩ = false :=
  ⟨⟨h.cell 0, h.free 0⟩, ⟨h.cell 1, h.free 1⟩, ⟨h.cell 2, h.free 2⟩, h.cell 3, h.free 3⟩
theorem Blk.c5 {w : World} {g : Nat} {t : TypeId} {a b c d e : Value} (h : Blk w g t #[a, b, c, d, e]) :
    (w.cell? ⟨g, 0, none⟩ = some a ∧ w.frozen? ⟨g, 0, none⟩ = false) ∧ (w.cell? ⟨g, 1, none⟩ = some b ∧ w.frozen? ⟨g, 1, none⟩ = false) ∧ (w.cell? ⟨g, 2, none⟩ = some c ∧ w.frozen? ⟨g, 2, none⟩ = false) ∧ (w.cell? ⟨g, 3, none⟩ = some d ∧ w.frozen? ⟨g, 3, none⟩ = false) ∧ w.cell? ⟨g, 4, none⟩ = some e ∧ w.frozen? ⟨g, 4, none⟩ = false :=
  ⟨⟨h.cell 0, h.free 0⟩, ⟨h.cell 1, h.free 1⟩, ⟨h.cell 2, h.free 2⟩, ⟨h.cell 3, h.free 3⟩, h.cell 4, h.free 4⟩
theorem Blk.c6 {w : World} {g : Nat} {t : TypeId} {a b c d e f : Value} (h : Blk w g t #[a, b, c, d, e, f]) :
    (w.cell? ⟨g, 0, none⟩ = some a ∧ w.frozen? ⟨g, 0, none⟩ = false) ∧ (w.cell? ⟨g, 1, none⟩ = some b ∧ w.frozen? ⟨g, 1, none⟩ = false) ∧ (w.cell? ⟨g, 2, none⟩ = some c ∧ w.frozen? ⟨g, 2, none⟩ = false) ∧ (w.cell? ⟨g, 3, none⟩ = some d ∧ w.frozen? ⟨g, 3, none⟩ = false) ∧ (w.cell? ⟨g, 4, none⟩ = some e ∧ w.frozen? ⟨g, 4, none⟩ = false) ∧ w.cell? ⟨g, 5, none⟩ = some f ∧ w.frozen? ⟨g, 5, none⟩ = false :=
  ⟨⟨h.cell 0, h.free 0⟩, ⟨h.cell 1, h.free 1⟩, ⟨h.cell 2, h.free 2⟩, ⟨h.cell 3, h.free 3⟩, ⟨h.cell 4, h.free 4⟩, h.cell 5, h.free 5⟩

/-- a first result that lies in a cell, a second one in a slot -/
theorem results_blk_tmp {P : Program} {fn : Func} {p u : Tmp} {ty : TypeId} (h : fn.results = #[.cell p ty, .tmp u]) {tmps : Array Value} {w : World} {g : Nat} {t : TypeId} {cs : Array Value} {d : TypeDesc}
    (hp : tmps.getD p undef = .pointer (some ⟨g, 0, none⟩)) (hg : Blk w g t cs)
    (hu : P.underlying ty = some d) (hd : (match d with | .struct _ | .array _ _ => true | _ => false) = true) (hi : (P.info? ty).map (·.size) = some cs.size) {x : Value} (hx : tmps.getD u undef = x) :
    (results fn tmps).run P w = .ok (.tuple #[.agg cs, x]) w := by
  subst hx
  have hp' : tmps[p]?.getD undef = .pointer (some ⟨g, 0, none⟩) := by simpa using hp
  simp [results, h, hp', asAddr, run_loadVar_row w g t ty cs (0, 0) d hg hu hd hi]
/-- a single result that lies in a cell -/
theorem results_blk {P : Program} {fn : Func} {p : Tmp} {ty : TypeId} (h : fn.results = #[.cell p ty]) {tmps : Array Value} {w : World} {g : Nat} {t : TypeId} {cs : Array Value} {d : TypeDesc}
    (hp : tmps.getD p undef = .pointer (some ⟨g, 0, none⟩)) (hg : Blk w g t cs)
    (hu : P.underlying ty = some d) (hd : (match d with | .struct _ | .array _ _ => true | _ => false) = true) (hi : (P.info? ty).map (·.size) = some cs.size) :
    (results fn tmps).run P w = .ok (.agg cs) w := by
  have hp' : tmps[p]?.getD undef = .pointer (some ⟨g, 0, none⟩) := by simpa using hp
  simp [results, h, hp', asAddr, run_loadVar_row w g t ty cs (0, 0) d hg hu hd hi]

/-- a slice value whose elements' cells (size cells each) read as xs -/
def Sl (w : World) (size : Nat) (v : Value) (n : Nat) (xs : List Value) : Prop :=
  xs.length = n * size ∧ ∃ A c, v = .slice A n c ∧ n ≤ c ∧ c ≤ maxLen ∧ (0 < n → ∃ b off, A = some ⟨b, off, none⟩ ∧ b < w.heap.size ∧ ∀ j u, xs[j]? = some u → w.cell? ⟨b, off + j, none⟩ = some u)
section
variable {w w' : World} {size n : Nat} {v : Value} {xs : List Value}
theorem Sl.nil (w : World) (size : Nat) : Sl w size (.slice none 0 0) 0 [] := ⟨by simp, none, 0, rfl, Nat.le_refl _, by unfold maxLen; omega, fun h => absurd h (by omega)⟩
theorem Sl.keep (h : Sl w size v n xs) (hb : Below w.heap.size w w') : Sl w' size v n xs := by
  obtain ⟨h0, A, c, h1, h2, h3, h4⟩ := h
  refine ⟨h0, A, c, h1, h2, h3, fun hn => ?_⟩
  obtain ⟨b, off, e, hlt, hc⟩ := h4 hn
  exact ⟨b, off, e, Nat.lt_of_lt_of_le hlt hb.size, fun j u hu => (hb.cell (p := ⟨b, off + j, none⟩) hlt).trans (hc j u hu)⟩
theorem Sl.of_own {base : Nat} {e : TypeId} (h : w.ownsRow base e size v n xs) : Sl w size v n xs := by
  refine ⟨h.1, ?_⟩
  rcases h.2 with ⟨rfl, rfl⟩ | ⟨g, cap, cur, rfl, _, hh, hn, hc, hs, ht⟩
  · exact ⟨none, 0, rfl, Nat.le_refl _, by unfold maxLen; omega, fun h => absurd h (by omega)⟩
  · refine ⟨_, cap, rfl, hn, hc, fun _ => ⟨g, 0, rfl, (Array.getElem?_eq_some_iff.1 hh).1, fun j u hu => ?_⟩⟩
    have := h.cells (g := g) rfl j u hu
    rw [← this]
    congr 1
    unfold Addr.add
    split
    · rename_i e; subst e; rfl
    · rfl
end
end Go.Proofs.YthehchdonmmpaaaGreatDoor
namespace Go.Proofs.YthehchdonmmpaaaGreatDoor
open Go.ChangeShapes Go.WideShapes Go.ChangeAt Go.RowKit
section
variable {P : Program} (w : World)
/-- append of no elements onto a row of the call's own -/
theorem run_append_zero (base : Nat) (t ty e : TypeId) (i : TypeInfo) (size : Nat) (ht : P.underlying t = some (.slice e)) (hi : P.info? e = some i)
    (v : Value) (n : Nat) (xs : List Value) (hown : w.ownsRow base e size v n xs) (A : Option Addr) (c : Nat) : (Builtin.append_ #[t, t] ty #[v, .slice A 0 c]).run P w = .ok v w := by
  rcases hown.2 with ⟨rfl, rfl⟩ | ⟨g, cap, cur, rfl, _, _, hnc, _⟩
  · cases A with
    | none => simp [Builtin.append_, run_underlying ht, sizeOf, typeInfo, hi, Builtin.lenOf, Builtin.firstCells]
    | some a => simp [Builtin.append_, run_underlying ht, sizeOf, typeInfo, hi, Builtin.lenOf, Builtin.firstCells, loadCells, loadCellsFrom]
  · cases A with
    | none => simp [Builtin.append_, run_underlying ht, sizeOf, typeInfo, hi, Builtin.lenOf, Builtin.firstCells, hnc, storeCells]
    | some a => simp [Builtin.append_, run_underlying ht, sizeOf, typeInfo, hi, Builtin.lenOf, Builtin.firstCells, loadCells, loadCellsFrom, hnc, storeCells]
/-- append of a slice that reads as a list onto a row of the call's own -/
theorem run_append_sl (base : Nat) (t ty e : TypeId) (i : TypeInfo) (z : Value) (size bytes : Nat) (ht : P.underlying t = some (.slice e)) (hi : P.info? e = some i) (hz : i.zero = some z)
    (hsize : i.size = size) (hby : i.bytes = bytes) (hzs : z.cells.size = size) (hsz : 0 < size)
    (v : Value) (n : Nat) (xs : List Value) (hown : w.ownsRow base e size v n xs) (u : Value) (m : Nat) (news : List Value) (hu : Sl w size u m news) (h1 : ∀ u ∈ news, u.oneCell' = true)
    (h63 : n + m ≤ maxLen) (hbytes : (n + m) * bytes ≤ 140737488355328) (hbase : base ≤ w.heap.size) :
    ∃ v' w', (Builtin.append_ #[t, t] ty #[v, u]).run P w = .ok v' w' ∧ w'.ownsRow base e size v' (n + m) (xs ++ news) ∧ w.grownBy w' v.ownBlock := by
  obtain ⟨hl, A, c, rfl, _, _, hr⟩ := hu
  rcases Nat.eq_zero_or_pos m with h0 | h0
  · subst h0
    have hn : news = [] := List.eq_nil_of_length_eq_zero (by simpa using hl)
    subst hn
    exact ⟨v, w, run_append_zero w base t ty e i size ht hi v n xs hown A c, by simpa using hown, World.grownBy.refl w _⟩
  · obtain ⟨b, o, rfl, _, hc⟩ := hr h0
    obtain ⟨v', w', h2, h3, h4, _⟩ := run_append_own (P := P) w base t ty e i z size bytes ht hi hz hsize hby hzs hsz v n xs hown ⟨b, o, none⟩ m c news hl (fun j u hj => by rw [OpenAdd.add_at]; exact hc j u hj) h1 h63 hbytes hbase
    exact ⟨v', w', h2, h3, h4⟩
theorem wp_append_run {o : Oper} {a : Act} {K : Act → World → Prop} {Q : Exit → Act → World → Prop} (s x : Operand) (t t2 : TypeId)
    (ho : o.op = .call { callee := .builtin .append, args := #[s, x], argTypes := #[t, t2] }) (v u : Value) (hs : a.eval s = v) (hx : a.eval x = u) (r : Value) (w' : World)
    (hr : (Builtin.append_ #[t, t2] o.type #[v, u]).run P w = .ok r w') (h : K (a.put o.dst r) w') : o.wp P a w K Q := by
  unfold Oper.wp execOp
  simp only [ho, resolve, invoke, builtin, Sem.run_bind, Sem.run_pure, Result.andThen_ok, List.map_toArray, List.map_cons, List.map_nil, hs, hx, hr]
  exact h
/-- an append whose run is known -/
theorem wpList_append_run {ops : Array Oper} {rest : List Oper} {o : Oper} {a : Act} {Q : Exit → Act → World → Prop} (hgd : o.guard = none) (s x : Operand) (t t2 : TypeId)
    (ho : o.op = .call { callee := .builtin .append, args := #[s, x], argTypes := #[t, t2] }) (v u : Value) (hs : a.eval s = v) (hx : a.eval x = u) (r : Value) (w' : World)
    (hr : (Builtin.append_ #[t, t2] o.type #[v, u]).run P w = .ok r w') (h : wpList P ops Q rest (a.put o.dst r) w') : wpList P ops Q (o :: rest) a w :=
  wpList_plain hgd fun _ hK => wp_append_run w s x t t2 ho v u hs hx r w' hr (hK _ _ h)
theorem wpList_append_sl {ops : Array Oper} {rest : List Oper} {o : Oper} {a : Act} {Q : Exit → Act → World → Prop} (hgd : o.guard = none) (s x : Operand) (t : TypeId)
    (ho : o.op = .call { callee := .builtin .append, args := #[s, x], argTypes := #[t, t] })
    (base : Nat) (e : TypeId) (i : TypeInfo) (z : Value) (size bytes : Nat) (ht : P.underlying t = some (.slice e)) (hi : P.info? e = some i) (hz : i.zero = some z)
    (hsize : i.size = size) (hby : i.bytes = bytes) (hzs : z.cells.size = size) (hsz : 0 < size)
    (v : Value) (n : Nat) (xs : List Value) (hs : a.eval s = v) (hown : w.ownsRow base e size v n xs) (u : Value) (m : Nat) (news : List Value) (hx : a.eval x = u) (hu : Sl w size u m news) (h1 : ∀ u ∈ news, u.oneCell' = true)
    (h63 : n + m ≤ maxLen) (hbytes : (n + m) * bytes ≤ 140737488355328) (hbase : base ≤ w.heap.size)
    (h : ∀ v' w', w'.ownsRow base e size v' (n + m) (xs ++ news) → w.grownBy w' v.ownBlock → wpList P ops Q rest (a.put o.dst v') w') : wpList P ops Q (o :: rest) a w := by
  obtain ⟨v', w', h2, h3, h4⟩ := run_append_sl (P := P) w base t o.type e i z size bytes ht hi hz hsize hby hzs hsz v n xs hown u m news hu h1 h63 hbytes hbase
  exact wpList_append_run w hgd s x t t ho v u hs hx v' w' h2 (h v' w' h3 h4)
/-- append onto a row of the call's own, as one step of a region that draws -/
theorem step_append_own {ops : Array Oper} {o : Oper} {a : Act} {K : Act → World → Prop} {Q : Exit → Act → World → Prop} {E : Prop} (hgd : o.guard = none) (s x : Operand) (t : TypeId)
    (ho : o.op = .call { callee := .builtin .append, args := #[s, x], argTypes := #[t, t] })
    (base : Nat) (e : TypeId) (i : TypeInfo) (z : Value) (size bytes : Nat) (ht : P.underlying t = some (.slice e)) (hi : P.info? e = some i) (hz : i.zero = some z)
    (hsize : i.size = size) (hby : i.bytes = bytes) (hzs : z.cells.size = size) (hsz : 0 < size)
    (v : Value) (n : Nat) (xs : List Value) (hs : a.eval s = v) (hown : w.ownsRow base e size v n xs)
    (ad : Addr) (m c : Nat) (news : List Value) (hx : a.eval x = .slice (some ad) m c) (hl : news.length = m * size) (hnews : ∀ j u, news[j]? = some u → w.cell? (ad.add j) = some u) (h1 : ∀ u ∈ news, u.oneCell' = true)
    (h63 : n + m ≤ maxLen) (hbytes : (n + m) * bytes ≤ 140737488355328) (hbase : base ≤ w.heap.size)
    (h : ∀ v' w', w'.ownsRow base e size v' (n + m) (xs ++ news) → w.grownBy w' v.ownBlock → (v' = .slice none 0 0 ↔ v = .slice none 0 0 ∧ m = 0) → K (a.put o.dst v') w') :
    if Region.wanted o (yielded ops a.tmps) = true then Oper.wp P o a w K Q else E := by
  have hw : Region.wanted o (yielded ops a.tmps) = true := by simp [Region.wanted, hgd]
  rw [if_pos hw]
  exact wp_append_own w s x t ho base e i z size bytes ht hi hz hsize hby hzs hsz v n xs hs hown ad m c news hx hl hnews h1 h63 hbytes hbase h
end
end Go.Proofs.YthehchdonmmpaaaGreatDoor
namespace Go.Proofs.YthehchdonmmpaaaGreatDoor
open Go.ChangeShapes Go.WideShapes Go.ChangeAt Go.RowKit
namespace Fr
def u32s (l : List Nat) : List Value := l.map fun (d : Nat) => Value.int .u32 (d : Int)
theorem u32s_len (l : List Nat) : (u32s l).length = l.length := by simp [u32s]
theorem u32s_append (l k : List Nat) : u32s (l ++ k) = u32s l ++ u32s k := by simp [u32s]
theorem u32s_one (l : List Nat) : ∀ u ∈ u32s l, u.oneCell' = true := by
  intro u hu
  simp only [u32s, List.mem_map] at hu
  obtain ⟨d, _, rfl⟩ := hu
  rfl
/-- a digit, 0 behind the last -/
def dg (l : List Nat) (i : Nat) : Nat := l.getD i 0
theorem dg_in {l : List Nat} {i : Nat} (h : i < l.length) : dg l i = l[i] := by simp [dg, List.getD, h]
theorem dg_out {l : List Nat} {i : Nat} (h : l.length ≤ i) : dg l i = 0 := by simp [dg, List.getD, h]
theorem dg_lt {l : List Nat} (h : Dg l) (i : Nat) : dg l i < B := by
  by_cases hi : i < l.length
  · rw [dg_in hi]
    exact h.at_ i hi
  · rw [dg_out (by omega)]
    exact B_pos
theorem take_dg {l : List Nat} {k : Nat} (hk : k < l.length) : l.take (k + 1) = l.take k ++ [dg l k] := by rw [List.take_succ_eq_append_getElem hk, dg_in hk]
theorem u32_bd {x : Nat} (h : x < B) : (0 : Int) ≤ (x : Int) ∧ (x : Int) < 4294967296 := by unfold B at h; omega
theorem u64w {x : Nat} (h : x < B) : IntKind.u64.wrap ((x : Nat) : Int) = ((x : Nat) : Int) := IntWalk.u64_in _ (by unfold B at h; omega)
/-- a number in memory: a slice that reads as its digits -/
abbrev NS (w : World) (v : Value) (l : List Nat) : Prop := Sl w 1 v l.length (u32s l)
theorem ns_cases {w : World} {v : Value} {l : List Nat} (h : NS w v l) : ∃ A c, v = .slice A l.length c ∧ l.length ≤ c ∧ c ≤ maxLen ∧ (0 < l.length → ∃ b o, A = some ⟨b, o, none⟩ ∧ b < w.heap.size ∧ ∀ i, i < l.length → w.cell? ⟨b, o + i, none⟩ = some (.int .u32 ((dg l i : Nat) : Int))) := by
  obtain ⟨_, A, c, h1, h2, h3, h4⟩ := h
  refine ⟨A, c, h1, h2, h3, fun hn => ?_⟩
  obtain ⟨b, o, e1, e2, e3⟩ := h4 hn
  exact ⟨b, o, e1, e2, fun i hi => e3 i _ (by simp [u32s, hi, dg_in])⟩
theorem ns_mk {w : World} {l : List Nat} {b o c : Nat} (hb : b < w.heap.size) (h1 : l.length ≤ c) (h2 : c ≤ maxLen) (h : ∀ i, i < l.length → w.cell? ⟨b, o + i, none⟩ = some (.int .u32 ((dg l i : Nat) : Int))) : NS w (.slice (some ⟨b, o, none⟩) l.length c) l := by
  refine ⟨by simp [u32s_len], _, _, rfl, h1, h2, fun _ => ⟨b, o, rfl, hb, fun j u hu => ?_⟩⟩
  obtain ⟨hj, rfl⟩ := List.getElem?_eq_some_iff.1 hu
  have hj' : j < l.length := by simpa [u32s_len] using hj
  rw [h j hj', dg_in hj']
  simp [u32s]
/-- the front of a number -/
theorem ns_take {w : World} {A : Option Addr} {l : List Nat} {n c : Nat} (h : NS w (.slice A l.length c) l) (hn : n ≤ l.length) {c' : Nat} (h1 : n ≤ c') (h2 : c' ≤ maxLen) : Sl w 1 (.slice A n c') n (u32s (l.take n)) := by
  obtain ⟨_, A', c0, e, h3, h4, h5⟩ := h
  injection e with e1 _ e2
  subst e1 e2
  have hl : (l.take n).length = n := by simp; omega
  refine ⟨by rw [u32s_len, Nat.mul_one, hl], A, c', rfl, h1, h2, fun hp => ?_⟩
  obtain ⟨b, o, e1, e2, e3⟩ := h5 (by omega)
  refine ⟨b, o, e1, e2, fun j u hu => e3 j u ?_⟩
  have : u32s l = u32s (l.take n) ++ u32s (l.drop n) := by rw [← u32s_append, List.take_append_drop]
  rw [this, List.getElem?_append_left (List.getElem?_eq_some_iff.1 hu).1]
  exact hu
/-- what a function that makes a number answers -/
def NatPost (n : Nat) (w : World) (e : Ending) (w' : World) : Prop := ∃ v, e = .returned v ∧ NS w' v (digs n) ∧ Below w.heap.size w w'
theorem digit_any (l : List Nat) (v : Value) (i : Nat) (w : World) (hl : l.length ≤ 100000) (hi0 : i ≤ 100000) (hd : Dg l) (h : NS w v l) : Calls Tryz.prog 81 #[v, .int .i64 (i : Int)] w fun e w' => e = .returned (.int .u64 ((dg l i : Nat) : Int)) ∧ w = w' := by
  obtain ⟨A, c, rfl, _, _, ha⟩ := ns_cases h
  by_cases hi : i < l.length
  · have hdec : decide ((i : Int) < (l.length : Int)) = true := by simp; omega
    obtain ⟨b, o, rfl, _, hc⟩ := ha (by omega)
    have hc := hc i hi
    have ww := u64w (dg_lt hd i)
    have hi1 : (0 : Int) ≤ (i : Int) := by omega
    have hi2 : (i : Int) < (l.length : Int) := by omega
    clear ha h hd
    go_enter Tryz.func81, Tryz.ntmps81
    go_wp2_with fail
    go_ret
    exact ⟨rfl, rfl⟩
  · have hdec : decide ((i : Int) < (l.length : Int)) = false := by simp; omega
    have E := Lib.hid (dg_out (show l.length ≤ i by omega))
    clear ha h hd
    go_enter Tryz.func81, Tryz.ntmps81
    go_wp2_with fail
    go_ret
    exact ⟨by rw [E.out]; rfl, rfl⟩
theorem u32_info : (Tryz.prog.info? 53).map (fun i => (i.zero, i.size, i.bytes)) = some (some (.int .u32 0), 1, 4) := by kernel_rfl
theorem own_form {w : World} {base : Nat} {e : TypeId} {size n : Nat} {v : Value} {xs : List Value} (h : w.ownsRow base e size v n xs) : ∃ A c, v = .slice A n c := by
  rcases h.2 with ⟨rfl, rfl⟩ | ⟨g, cap, cur, rfl, _⟩
  · exact ⟨none, 0, rfl⟩
  · exact ⟨_, cap, rfl⟩
theorem grown_below {w w' : World} {B : Nat} {row : Option Nat} (hb : w.grownBy w' row) (hr : ∀ g, row = some g → B ≤ g) (hB : B ≤ w.heap.size) : Below B w w' :=
  ⟨hb.os, hb.tape, hb.output, hb.size, fun k hk => hb.block k (by omega) (fun e => by have := hr k e.symm; omega)⟩
/-- a slice without its last, a zero -/
theorem nat_take_zero {l : List Nat} {k : Nat} (hk : k < l.length) (h0 : dg l k = 0) : nat (l.take (k + 1)) = nat (l.take k) := by
  rw [take_dg hk, nat_append, h0]
  simp [nat]
theorem take_digs {l : List Nat} {k : Nat} (hd : Dg l) (h : nat (l.take k) = nat l) (hl : k = 0 ∨ ∃ j, j < l.length ∧ k = j + 1 ∧ dg l j ≠ 0) : l.take k = digs (nat l) := by
  rw [← h]
  refine (digs_of (hd.take k) ?_).symm
  rcases hl with rfl | ⟨j, hj, rfl, hn⟩
  · simp
  · rw [take_dg hj, List.getLastD_concat]
    exact hn
set_option maxHeartbeats 1000000 in
theorem trim_any (l : List Nat) (v : Value) (w : World) (hl : l.length ≤ 100000) (hd : Dg l) (h : NS w v l) : Calls Tryz.prog 71 #[v] w (NatPost (nat l) w) := by
  obtain ⟨i0, hi0, hz0, hz1, hz2⟩ := info_parts u32_info
  obtain ⟨A, c, rfl, hlc, hcm, ha⟩ := ns_cases h
  have HS := Lib.hid h
  have HD := Lib.hid hd
  have HC := Lib.hid ha
  have HM := Lib.hid hcm
  clear h hd ha
  unfold maxLen at hcm
  go_enter Tryz.func71, Tryz.ntmps71
  go_wp2_with fail
  go_loop [0] (fun v => ∃ k : Nat, k ≤ l.length ∧ v = .slice A k c ∧ Hid (nat (l.take k) = nat l)) (fun v => match v with | .slice _ n _ => n | _ => 0)
  case atStart => exact ⟨l.length, Nat.le_refl _, rfl, by show nat _ = _; rw [List.take_length]⟩
  case round =>
    obtain ⟨k, hk, rfl, HN⟩ := hrel
    cases k with
    | zero =>
      have HT : Hid (l.take 0 = digs (nat l)) := take_digs HD.out HN.out (.inl rfl)
      have HT1 := Lib.hid (ns_take HS.out hk (c' := c) (by omega) HM.out)
      have hlk : (l.take (0)).length = 0 := by rw [List.length_take]; omega
      go_wp2_with (at_builtin; refine wpList_append_sl _ rfl (.tmp 20) (.tmp 21) _ rfl w.heap.size 53 i0 _ 1 4 Tryz.underlying45 hi0 hz0 hz1 hz2 rfl (by decide) (.slice (some ⟨w.heap.size, 0, none⟩) 0 0) 0 [] rfl (World.ownsRow_made w #[] 0 (Nat.le_refl _) (by unfold maxLen; omega) rfl) _ (0) (u32s (l.take (0))) rfl (HT1.out.keep (below_new _ _)) (u32s_one _) (by unfold maxLen; omega) (by omega) (by simp) ?_)
      intro v' w1 hown hgr
      obtain ⟨A5, c5, rfl⟩ := own_form hown
      have HO := Lib.hid (Sl.of_own hown)
      have HB := Lib.hid ((below_new w (.cells #[] 53)).grown hgr (by simp) (fun q hq => by simp [Value.ownBlock] at hq; omega))
      clear hown hgr
      go_wp2_with fail
      go_ret
      refine ⟨_, rfl, ?_, HB.out⟩
      have := HO.out
      try simp only [Nat.zero_add, List.nil_append] at this
      rw [← HT.out]
      show Sl _ _ _ (l.take (0)).length _
      rw [hlk]
      exact this
    | succ j =>
      obtain ⟨b, o, rfl, hb, hc⟩ := HC.out (by omega)
      have hck := hc j (by omega)
      clear hc
      have hp0 : decide ((0 : Int) < ((j + 1 : Nat) : Int)) = true := by simp
      have hp1 : decide ((0 : Int) < (j : Int) + 1) = true := decide_eq_true (by omega)
      have hj0 : (0 : Int) ≤ (j : Int) := by omega
      by_cases hz : dg l j = 0
      · have HN2 : Hid (nat (l.take j) = nat l) := (nat_take_zero (by omega) hz).symm.trans HN.out
        rw [hz] at hck
        clear hz
        go_wp2_with fail
        go_round
        case rel => exact ⟨j, by omega, rfl, HN2⟩
        case measure => simp
      · have HT : Hid (l.take (j + 1) = digs (nat l)) := take_digs HD.out HN.out (.inr ⟨j, by omega, rfl, hz⟩)
        have qz : (((dg l j : Nat) : Int) == 0) = false := beq_eq_false_iff_ne.2 (by omega)
        clear hz
        have HT1 := Lib.hid (ns_take HS.out hk (c' := c) (by omega) HM.out)
        have hlk : (l.take (j + 1)).length = j + 1 := by rw [List.length_take]; omega
        go_wp2_with (at_builtin; refine wpList_append_sl _ rfl (.tmp 20) (.tmp 21) _ rfl w.heap.size 53 i0 _ 1 4 Tryz.underlying45 hi0 hz0 hz1 hz2 rfl (by decide) (.slice (some ⟨w.heap.size, 0, none⟩) 0 0) 0 [] rfl (World.ownsRow_made w #[] 0 (Nat.le_refl _) (by unfold maxLen; omega) rfl) _ (j + 1) (u32s (l.take (j + 1))) rfl (HT1.out.keep (below_new _ _)) (u32s_one _) (by unfold maxLen; omega) (by omega) (by simp) ?_)
        intro v' w1 hown hgr
        obtain ⟨A5, c5, rfl⟩ := own_form hown
        have HO := Lib.hid (Sl.of_own hown)
        have HB := Lib.hid ((below_new w (.cells #[] 53)).grown hgr (by simp) (fun q hq => by simp [Value.ownBlock] at hq; omega))
        clear hown hgr
        go_wp2_with fail
        go_ret
        refine ⟨_, rfl, ?_, HB.out⟩
        have := HO.out
        try simp only [Nat.zero_add, List.nil_append] at this
        rw [← HT.out]
        show Sl _ _ _ (l.take (j + 1)).length _
        rw [hlk]
        exact this
/-- two digits -/
theorem nat_two (x : Nat) (hx : x < B * B) : nat [x % B, x / B] = x ∧ Dg [x % B, x / B] := by
  refine ⟨?_, Dg.cons (Nat.mod_lt _ B_pos) (Dg.cons (Nat.div_lt_of_lt_mul hx) Dg.nil)⟩
  simp only [nat, Nat.mul_zero, Nat.add_zero]
  exact Nat.mod_add_div x B
theorem ns_new2 (w : World) (a b : Nat) (t : TypeId) : NS (w.alloc (.cells #[.int .u32 (a : Int), .int .u32 (b : Int)] t)) (.slice (some ⟨w.heap.size, 0, none⟩) 2 2) [a, b] := by
  refine ns_mk (by simp) (Nat.le_refl _) (by unfold maxLen; simp) fun i hi => ?_
  obtain rfl | rfl : i = 0 ∨ i = 1 := by simp at hi; omega
  · exact (Blk.new w t _).cell 0
  · exact (Blk.new w t _).cell 1
theorem BB_eq : B * B = 18446744073709551616 := by decide
set_option maxHeartbeats 1000000 in
theorem fromUint_any (x : Nat) (w : World) (hx : x < B * B) : Calls Tryz.prog 50 #[.int .u64 (x : Int)] w (NatPost x w) := by
  obtain ⟨h1, h2⟩ := nat_two x hx
  obtain ⟨lo, hlo⟩ : ∃ lo, lo = x % B := ⟨_, rfl⟩
  obtain ⟨hi, hhi⟩ : ∃ hi, hi = x / B := ⟨_, rfl⟩
  rw [← hlo, ← hhi] at h1 h2
  have CT := Lib.hid (trim_any [lo, hi] _ _ (by simp) h2 (ns_new2 w lo hi 53))
  rw [h1] at CT
  have b1 : lo < B := by rw [hlo]; exact Nat.mod_lt _ B_pos
  have b2 : hi < B := by rw [hhi]; exact Nat.div_lt_of_lt_mul hx
  have e1 : IntKind.u32.wrap ((x : Int) % 4294967296) = ((lo : Nat) : Int) := by rw [IntWalk.u32_in _ (by omega), hlo]; unfold B; omega
  have e2 : IntKind.u64.wrap ((x : Int) / 4294967296) = ((hi : Nat) : Int) := by
    rw [BB_eq] at hx
    rw [IntWalk.u64_in _ (by omega), hhi]; unfold B; omega
  have e3 : IntKind.u32.wrap ((hi : Nat) : Int) = ((hi : Nat) : Int) := IntWalk.u32_in _ (by unfold B at b2; omega)
  have e4 : ((hi : Nat) : Int) % 4294967296 = ((hi : Nat) : Int) := by unfold B at b2; omega
  have h0 : (0 : Int) ≤ (x : Int) := by omega
  clear h1 h2 hx hlo hhi b1 b2
  go_enter Tryz.func50, Tryz.ntmps50
  go_wp2_with fail
  refine CT.out.mono ?_
  rintro e w1 ⟨v1, rfl, hs, hb⟩
  have HS := Lib.hid hs
  have HB := Lib.hid (chain1 (Below.refl _ _) hb)
  obtain ⟨A, c, rfl, _⟩ := ns_cases hs
  clear hs hb
  go_wp2_with fail
  go_ret
  exact ⟨_, rfl, HS.out, HB.out⟩
end Fr
end Go.Proofs.YthehchdonmmpaaaGreatDoor
namespace Go.Proofs.YthehchdonmmpaaaGreatDoor
namespace Fr
/-- the number of the first m digits -/
def val (l : List Nat) : Nat → Nat
  | 0 => 0
  | m + 1 => val l m + dg l m * B ^ m
theorem val_take (l : List Nat) : ∀ m, val l m = nat (l.take m)
  | 0 => by simp [val, nat]
  | m + 1 => by
    unfold val
    rw [val_take l m]
    by_cases h : m < l.length
    · rw [take_dg h, nat_append]
      simp only [nat, Nat.mul_zero, Nat.add_zero, List.length_take, Nat.min_eq_left (Nat.le_of_lt h)]
      rw [Nat.mul_comm]
    · rw [dg_out (by omega), List.take_of_length_le (by omega), List.take_of_length_le (by omega)]
      simp
theorem val_nat {l : List Nat} {m : Nat} (h : l.length ≤ m) : val l m = nat l := by rw [val_take, List.take_of_length_le h]
theorem val_lt {l : List Nat} (hd : Dg l) (m : Nat) : val l m < B ^ m := by
  induction m with
  | zero => simp [val]
  | succ m ih =>
    unfold val
    have h := dg_lt hd m
    have h2 : dg l m * B ^ m + B ^ m ≤ B * B ^ m := by
      rw [← Nat.succ_mul]
      exact Nat.mul_le_mul_right _ h
    rw [Nat.pow_succ, Nat.mul_comm (B ^ m) B]
    omega
theorem val_mod {l : List Nat} (hd : Dg l) (m : Nat) : nat l % B ^ m = val l m := by
  have h : nat l = val l m + B ^ m * nat (l.drop m) := by
    by_cases hm : m ≤ l.length
    · have := nat_append (l.take m) (l.drop m)
      rw [List.take_append_drop, List.length_take, Nat.min_eq_left hm] at this
      rw [val_take]
      exact this
    · rw [val_nat (by omega), List.drop_eq_nil_of_le (by omega)]
      simp [nat]
  rw [h, Nat.add_mul_mod_self_left]
  exact Nat.mod_eq_of_lt (val_lt hd m)
theorem val_of_lt {l : List Nat} (hd : Dg l) {m : Nat} (h : nat l < B ^ m) : val l m = nat l := by
  rw [← val_mod hd m]
  exact Nat.mod_eq_of_lt h
theorem nat_lt_len {l : List Nat} (hd : Dg l) {m : Nat} (h : l.length ≤ m) : nat l < B ^ m :=
  Nat.lt_of_lt_of_le (nat_lt hd) (Nat.pow_le_pow_right B_pos h)
/-- a digit by its place -/
theorem dg_div {l : List Nat} (hd : Dg l) (i : Nat) : dg l i = nat l / B ^ i % B := by
  have h1 := val_mod hd (i + 1)
  unfold val at h1
  have h2 : nat l / B ^ i % B = nat l % B ^ (i + 1) / B ^ i := by
    rw [Nat.pow_succ, Nat.mod_mul_right_div_self]
  rw [h2, h1, Nat.add_mul_div_right _ _ (Nat.pow_pos B_pos), Nat.div_eq_of_lt (val_lt hd i), Nat.zero_add]
/-- the first difference from the top decides -/
theorem val_up {a b : List Nat} {i : Nat} : ∀ {M : Nat}, i < M → (∀ j, i < j → j < M → dg a j = dg b j) → val a (i + 1) < val b (i + 1) → val a M < val b M
  | 0, h, _, _ => by omega
  | M + 1, h, he, hl => by
    by_cases e : i = M
    · subst e; exact hl
    · have := val_up (M := M) (by omega) (fun j h1 h2 => he j h1 (by omega)) hl
      unfold val
      rw [he M (by omega) (by omega)]
      omega
theorem val_same {a b : List Nat} : ∀ {M : Nat}, (∀ j, j < M → dg a j = dg b j) → val a M = val b M
  | 0, _ => rfl
  | M + 1, he => by
    unfold val
    rw [val_same (M := M) (fun j h => he j (by omega)), he M (by omega)]
theorem val_step {a b : List Nat} (ha : Dg a) {i : Nat} (h : dg a i < dg b i) : val a (i + 1) < val b (i + 1) := by
  unfold val
  have h1 := val_lt ha i
  have h2 : dg a i * B ^ i + B ^ i ≤ dg b i * B ^ i := by
    rw [← Nat.succ_mul]
    exact Nat.mul_le_mul_right _ h
  omega
theorem nat_less {a b : List Nat} (ha : Dg a) {i M : Nat} (h1 : a.length ≤ M) (h2 : b.length ≤ M) (hi : i < M) (he : ∀ j, i < j → j < M → dg a j = dg b j) (h : dg a i < dg b i) : nat a < nat b := by
  have := val_up hi he (val_step ha h)
  rwa [val_nat h1, val_nat h2] at this
theorem nat_same {a b : List Nat} {M : Nat} (h1 : a.length ≤ M) (h2 : b.length ≤ M) (he : ∀ j, j < M → dg a j = dg b j) : nat a = nat b := by
  have := val_same he
  rwa [val_nat h1, val_nat h2] at this
/-- one number against another -/
def cmp (x y : Nat) : Int := if x < y then -1 else if y < x then 1 else 0
/-- the sum's digits and carry -/
theorem add_step {o : List Nat} {a b c k s : Nat} {A Bv : Nat} (hk : o.length = k) (h : nat o + c * B ^ k = A + Bv) (hs : s = a + b + c) : nat (o ++ [s % B]) + s / B * B ^ (k + 1) = (A + a * B ^ k) + (Bv + b * B ^ k) := by
  rw [nat_append, hk]
  simp only [nat, Nat.mul_zero, Nat.add_zero]
  have e : s % B + s / B * B = s := by rw [Nat.mul_comm]; exact Nat.mod_add_div s B
  have e2 : B ^ k * (s % B) + s / B * B ^ (k + 1) = s * B ^ k := by
    rw [Nat.pow_succ, Nat.mul_comm (B ^ k) (s % B), ← Nat.mul_assoc, Nat.mul_right_comm, ← Nat.add_mul, e]
  rw [Nat.add_assoc, e2, hs, Nat.add_mul, Nat.add_mul]
  omega
end Fr
end Go.Proofs.YthehchdonmmpaaaGreatDoor
