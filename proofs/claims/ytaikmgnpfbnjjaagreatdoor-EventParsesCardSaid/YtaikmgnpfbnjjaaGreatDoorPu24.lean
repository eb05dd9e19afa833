/- The library's string functions at one byte, in the words of the events' texts. Plain: the line of an event, as it is put together. Contract of event.text. Printed by gen_ev8.py. -/
import Derived.Test.YtaikmgnpfbnjjaaGreatDoorShelf
import Derived.Test.YtaikmgnpfbnjjaaGreatDoorPu07
import Derived.Test.YtaikmgnpfbnjjaaGreatDoorPu05
import Derived.Test.YtaikmgnpfbnjjaaGreatDoorPu09
import Derived.Test.YtaikmgnpfbnjjaaGreatDoorPu12
import Derived.Test.YtaikmgnpfbnjjaaGreatDoorPu13
import Derived.Test.YtaikmgnpfbnjjaaGreatDoorPu11
import Derived.Test.YtaikmgnpfbnjjaaGreatDoorPu14
import Derived.Test.YtaikmgnpfbnjjaaGreatDoorPu15
import Derived.Test.YtaikmgnpfbnjjaaGreatDoorPu18
import Derived.Test.YtaikmgnpfbnjjaaGreatDoorPu21
import Derived.OwnWalk
import Derived.Laws.IdiomStrings
import Derived.Test.YtaikmgnpfbnjjaaGreatDoorPu22
import Derived.Test.YtaikmgnpfbnjjaaGreatDoorPu19
import Derived.Deep.Quiet
import Derived.Deep.QuietTactic
namespace Go.Proofs.YtaikmgnpfbnjjaaGreatDoor.Ev
open Go.ChangeShapes Go.WideShapes Go.ChangeAt Go.RowKit Gn Cat Lex Ros Se
set_option linter.unusedVariables false
set_option linter.unusedSimpArgs false
abbrev Sh (w : World) : Prop := w.ShapedOpen Tryz.prog
theorem sh_keep {w w' : World} (h : Sh w) (b : Below w.heap.size w w') : Sh w' := World.ShapedOpen.keptBut h (b.frame fun _ => False) fun _ h => h.elim
/-- a slice of words -/
abbrev WS (w : World) (v : Value) (ws : List ByteArray) : Prop := Sl w 1 v ws.length (ws.map Value.string)
theorem ws_new {w : World} {ws : List ByteArray} {c : Nat} {cs : Array Value} (hc : ws.length ≤ c) (hm : c ≤ 6000) (h : ∀ j (hj : j < ws.length), cs[j]? = some (.string ws[j])) : WS (w.alloc (.cells cs 9)) (.slice (some ⟨w.heap.size, 0, none⟩) ws.length c) ws := by
  refine ⟨by simp, _, c, rfl, hc, by unfold maxLen; omega, fun h0 => ⟨w.heap.size, 0, rfl, (Blk.new w 9 cs).lt, fun j u hu => ?_⟩⟩
  rw [Nat.zero_add, (Blk.new w 9 cs).cell]
  obtain ⟨hx, rfl⟩ := List.getElem?_eq_some_iff.1 hu
  rw [List.length_map] at hx
  rw [h j hx, List.getElem_map]
theorem cut_any (s : ByteArray) (w : World) (h : Sh w) (hs : s.size ≤ 5000) : Calls Tryz.prog 54 #[.string s, .string ⟨#[32]⟩] w fun e w' => e = .returned (.tuple #[.string (ofL (cutL s.data.toList).1), .string (ofL (cutL s.data.toList).2.1), .bool (cutL s.data.toList).2.2]) ∧ Below w.heap.size w w' := by
  have k := Tryz.strings_Cut_shaped s ⟨#[32]⟩ w h (by omega)
  rw [show (⟨#[32]⟩ : ByteArray).data.toList = [32] from rfl, cut_one] at k
  refine k.mono ?_
  rintro e w' ⟨rfl, n, rfl⟩
  exact ⟨rfl, drewN_below w n⟩
theorem split_any (s : ByteArray) (w : World) (h : Sh w) (hs : s.size ≤ 5000) : Calls Tryz.prog 85 #[.string s, .string ⟨#[32]⟩] w fun e w' => ∃ c, e = .returned (.slice (some ⟨w.heap.size, 0, none⟩) (splitS 32 s).length c) ∧ WS w' (.slice (some ⟨w.heap.size, 0, none⟩) (splitS 32 s).length c) (splitS 32 s) ∧ Below w.heap.size w w' := by
  have k := Tryz.strings_Split_shaped s ⟨#[32]⟩ w h (by omega) (Nat.le_refl 1)
  rw [countB_one, splitB_one] at k
  refine k.mono ?_
  rintro e w' ⟨rfl, rfl⟩
  have hl := splitS_len 32 s
  exact ⟨_, rfl, ws_new (Nat.le_refl _) (by omega) (fun j hj => by simp [hj]), below_new _ _⟩
theorem cutsL_len : ∀ (k : Nat) (l : List UInt8), (cutsL k l).length ≤ k + 1
  | 0, l => Nat.le_refl _
  | k + 1, l => by
    rw [cutsL]
    have := cutsL_len k (cutL l).2.1
    split
    · simp; omega
    · simp
theorem cutsL_len2 : ∀ (k : Nat) (l : List UInt8), (cutsL k l).length ≤ l.length + 1
  | 0, l => by show 1 ≤ _; omega
  | k + 1, l => by
    rw [cutsL]
    cases hc : (cutL l).2.2 with
    | true =>
      have h2 := congrArg List.length (cut_yes hc).2
      rw [List.length_append, List.length_cons] at h2
      have := cutsL_len2 k (cutL l).2.1
      rw [if_pos rfl, List.length_cons]
      omega
    | false => rw [if_neg (by simp)]; show 1 ≤ _; omega
theorem cutsS_len (n : Nat) (s : ByteArray) (hn : 1 ≤ n) : (cutsS (n - 1) s).length ≤ min n (s.size + 1) := by
  unfold cutsS
  rw [List.length_map]
  have h1 := cutsL_len (n - 1) s.data.toList
  have h2 := cutsL_len2 (n - 1) s.data.toList
  have h3 : s.data.toList.length = s.size := rfl
  omega
theorem splitN_any (s : ByteArray) (n : Nat) (w : World) (h : Sh w) (hs : s.size ≤ 5000) (hn : 1 ≤ n) (hn5 : n ≤ 5000) : Calls Tryz.prog 86 #[.string s, .string ⟨#[32]⟩, .int .i64 (n : Int)] w fun e w' => ∃ c, e = .returned (.slice (some ⟨w.heap.size, 0, none⟩) (cutsS (n - 1) s).length c) ∧ WS w' (.slice (some ⟨w.heap.size, 0, none⟩) (cutsS (n - 1) s).length c) (cutsS (n - 1) s) ∧ Below w.heap.size w w' := by
  have k := Tryz.strings_SplitN_shaped s ⟨#[32]⟩ n w h (by omega) (Nat.le_refl 1) hn (by omega)
  rw [splitB_cuts n s hn] at k
  refine k.mono ?_
  rintro e w' ⟨rfl, rfl⟩
  have hl := cutsS_len n s hn
  refine ⟨_, rfl, ws_new hl (by omega) (fun j hj => ?_), below_new _ _⟩
  unfold Lib.cellsOf
  rw [List.getElem?_toArray, List.getElem?_append_left (by simpa using hj)]
  simp [hj]
theorem repl_any (s : ByteArray) (a b : UInt8) (w : World) (hab : a ≠ b) (h : Sh w) (hs : s.size ≤ 5000) : Calls Tryz.prog 80 #[.string s, .string ⟨#[a]⟩, .string ⟨#[b]⟩] w fun e w' => e = .returned (.string (ofL (replL a b s.data.toList))) ∧ Below w.heap.size w w' := by
  have hcnt : Lib.countB s ⟨#[a]⟩ ≤ s.size := by
    have h1 := countB_one a s
    have h2 := splitS_len a s
    omega
  have k := Tryz.strings_ReplaceAll_shaped s ⟨#[a]⟩ ⟨#[b]⟩ w h (by omega) (Nat.le_refl 1) (by show s.size + _ * 1 ≤ _; omega)
  rw [show (⟨#[a]⟩ : ByteArray).data.toList = [a] from rfl, show (⟨#[b]⟩ : ByteArray).data.toList = [b] from rfl, replace_one hab] at k
  exact k
theorem cutSuf_any (s : ByteArray) (w : World) (hs : s.size ≤ 5000) : Calls Tryz.prog 79 #[.string s, .string ⟨#[10]⟩] w fun e w' => e = .returned (.tuple #[.string (ofL (Lib.trimSuffix s.data.toList [10])), .bool (Lib.hasSuffix s.data.toList [10])]) ∧ w' = w :=
  Tryz.strings_CutSuffix s ⟨#[10]⟩ w (by omega)
theorem hasSuf_any (s : ByteArray) (w : World) (hs : s.size ≤ 5000) : Calls Tryz.prog 81 #[.string s, .string ⟨#[10]⟩] w fun e w' => e = .returned (.bool (Lib.hasSuffix s.data.toList [10])) ∧ w' = w :=
  Tryz.strings_HasSuffix s ⟨#[10]⟩ w (by omega)
theorem trim_any (s : ByteArray) (w : World) (hs : s.size ≤ 5000) : Calls Tryz.prog 89 #[.string s, .string ⟨#[10]⟩] w fun e w' => e = .returned (.string (ofL (Lib.trimSuffix s.data.toList [10]))) ∧ w' = w :=
  Tryz.strings_TrimSuffix s ⟨#[10]⟩ w (by omega)
theorem has_any (s : ByteArray) (c : UInt8) (w : World) : Calls Tryz.prog 82 #[.string s, .string ⟨#[c]⟩] w fun e w' => e = .returned (.bool (s.data.toList.contains c)) ∧ w' = w := by
  have k := Tryz.strings_Contains_one s c w
  rw [indexByte_iff] at k
  exact k
end Go.Proofs.YtaikmgnpfbnjjaaGreatDoor.Ev
namespace Go.Proofs.YtaikmgnpfbnjjaaGreatDoor.Ev
open Go.ChangeShapes Go.WideShapes Go.ChangeAt Go.RowKit Gn Cat Lex Ros Se
set_option linter.unusedVariables false
set_option linter.unusedSimpArgs false
/-- a word behind a space -/
def line2 (n x : ByteArray) : ByteArray := n ++ (⟨#[32]⟩ ++ x)
theorem app_list (a b : ByteArray) : (a ++ b).data.toList = a.data.toList ++ b.data.toList := by simp
theorem line2_list (n x : ByteArray) : (line2 n x).data.toList = n.data.toList ++ 32 :: x.data.toList := by
  unfold line2
  rw [app_list, app_list]
  rfl
theorem line2_size (n x : ByteArray) : (line2 n x).size = n.size + 1 + x.size := by
  have := congrArg List.length (line2_list n x)
  rw [List.length_append, List.length_cons] at this
  show (line2 n x).data.toList.length = n.data.toList.length + 1 + x.data.toList.length
  omega
def capV (v : ByteArray) : ByteArray := if 4000 < v.size then ⟨#[]⟩ else v
theorem fmt_check {S : SetD} {e : Evt} (h : checkV e ≠ 0) : formatV S e = ⟨#[]⟩ := by
  unfold formatV formatL
  rw [if_pos h]
theorem fmt_none {S : SetD} {e : Evt} (h : lastL S e = none) : formatV S e = ⟨#[]⟩ := by
  unfold formatV formatL
  rw [h]
  split <;> rfl
theorem fmt_some {S : SetD} {e : Evt} {t : List UInt8} {v : ByteArray} (hc : checkV e = 0) (h : lastL S e = some t) (hv : v.data.toList = (nameK e.kind).data.toList ++ t) : formatV S e = capV v := by
  have hs : v.size = (nameK e.kind).size + t.length := by
    have := congrArg List.length hv
    rw [List.length_append] at this
    exact this
  unfold formatV formatL capV
  rw [if_neg (fun x => x hc), h]
  dsimp only
  rw [hs]
  by_cases h4 : 4000 < (nameK e.kind).size + t.length
  · rw [if_pos h4, if_pos h4]
  · rw [if_neg h4, if_neg h4, ← hv]
def bidN (S : SetD) (i : Int) : ByteArray := (S.bs.getD i.toNat Bid.none).name
theorem bidB_eq (S : SetD) (i : Int) : bidB S i = (bidN S i).data.toList := rfl
section
variable {S : SetD} {e : Evt}
abbrev outB (S : SetD) (e : Evt) : Prop := S.err ≠ 0 ∨ (S.bs.length : Int) ≤ e.bidder
theorem fmt_out (hb : hasB e.kind) (h : outB S e) : formatV S e = ⟨#[]⟩ := fmt_none (by unfold lastL; rw [if_pos ⟨hb, h⟩])
theorem fmt_plain (hc : checkV e = 0) (hk : e.kind = 3 ∨ e.kind = 4 ∨ e.kind = 9) : formatV S e = capV (nameK e.kind) := by
  refine fmt_some (t := []) hc ?_ (by simp)
  unfold lastL
  have hnb : ¬ hasB e.kind := by rintro (h | h | h | h) <;> omega
  have hnt : ¬ hasT e.kind := by rintro (h | h) <;> omega
  rw [if_neg (fun x => hnb x.1), if_neg (by omega), if_neg hnt, if_neg (by omega), if_neg (by omega), if_neg hnb]
theorem fmt_sale (hc : checkV e = 0) (hk : e.kind = 1) : formatV S e = if saleB e.text.data.toList = true then capV (line2 (nameK 1) (ofL (replL 10 59 (Lib.trimSuffix e.text.data.toList [10])))) else ⟨#[]⟩ := by
  have hnb : ¬ hasB e.kind := by rintro (h | h | h | h) <;> omega
  have hl : lastL S e = (lastT 1 e.text.data.toList).map fun t => [] ++ 32 :: t := by
    unfold lastL
    rw [if_neg (fun x => hnb x.1), if_neg (by omega), if_pos (.inl hk), if_neg hnb, hk]
  rw [sale_text] at hl
  by_cases h : saleB e.text.data.toList = true
  · rw [if_pos h] at hl ⊢
    exact fmt_some hc hl (by rw [line2_list, hk]; rfl)
  · rw [if_neg h] at hl ⊢
    exact fmt_none hl
theorem fmt_demand (hc : checkV e = 0) (hk : e.kind = 2) (ho : ¬ outB S e) : formatV S e = if rfitsB e.want S.ps = true then capV (line2 (line2 (nameK 2) (bidN S e.bidder)) (fmtS e.want S.ps)) else ⟨#[]⟩ := by
  have hl : lastL S e = if rfitsB e.want S.ps = true then some (32 :: bidB S e.bidder ++ 32 :: (fmtS e.want S.ps).data.toList) else none := by
    unfold lastL
    rw [if_neg (fun x => ho x.2), if_pos hk]
  by_cases h : rfitsB e.want S.ps = true
  · rw [if_pos h] at hl ⊢
    exact fmt_some hc hl (by rw [line2_list, line2_list, hk, bidB_eq]; simp)
  · rw [if_neg h] at hl ⊢
    exact fmt_none hl
/-- may a bid's text be the last word? -/
def bidT (t : List UInt8) : Bool := !t.isEmpty && (!t.contains 10 && !(t.head? == some 32))
theorem bid_text (t : List UInt8) : lastT 5 t = if bidT t = true then some t else none := by
  unfold lastT bidT
  rw [if_neg (by decide)]
  by_cases h1 : t = []
  · subst h1; rfl
  · have h1b : t.isEmpty = false := by simpa using h1
    rw [h1b]
    by_cases h2 : t.head? = some 32
    · rw [if_pos (.inr (.inl h2)), h2]
      simp
    · have h2b : (t.head? == some 32) = false := by simpa using h2
      rw [h2b]
      cases h3 : t.contains 10 with
      | true => rw [if_pos (.inr (.inr rfl))]; rfl
      | false => rw [if_neg (by rintro (h | h | h); exact h1 h; exact h2 h; cases h)]; rfl
theorem fmt_bid (hc : checkV e = 0) (hk : e.kind = 5) (ho : ¬ outB S e) : formatV S e = if bidT e.text.data.toList = true then capV (line2 (line2 (nameK 5) (bidN S e.bidder)) e.text) else ⟨#[]⟩ := by
  have hb : hasB e.kind := .inr (.inl hk)
  have hl : lastL S e = (lastT 5 e.text.data.toList).map fun t => (32 :: bidB S e.bidder) ++ 32 :: t := by
    unfold lastL
    rw [if_neg (fun x => ho x.2), if_neg (by omega), if_pos (.inr hk), if_pos hb, hk]
  rw [bid_text] at hl
  by_cases h : bidT e.text.data.toList = true
  · rw [if_pos h] at hl ⊢
    exact fmt_some hc hl (by rw [line2_list, line2_list, hk, bidB_eq]; simp)
  · rw [if_neg h] at hl ⊢
    exact fmt_none hl
theorem fmt_out1 (hc : checkV e = 0) (hk : e.kind = 6 ∨ e.kind = 7) (ho : ¬ outB S e) : formatV S e = capV (line2 (nameK e.kind) (bidN S e.bidder)) := by
  have hb : hasB e.kind := by rcases hk with h | h; exact .inr (.inr (.inl h)); exact .inr (.inr (.inr h))
  have hnt : ¬ hasT e.kind := by rintro (h | h) <;> omega
  refine fmt_some (t := 32 :: bidB S e.bidder) hc ?_ (by rw [line2_list, bidB_eq])
  unfold lastL
  rw [if_neg (fun x => ho x.2), if_neg (by omega), if_neg hnt, if_neg (by omega), if_neg (by omega), if_pos hb]
theorem fmt_rerun (hc : checkV e = 0) (hk : e.kind = 8) : formatV S e = capV (line2 (nameK 8) (ofL (Lib.decDigits e.round.toNat))) := by
  have hnb : ¬ hasB e.kind := by rintro (h | h | h | h) <;> omega
  have hnt : ¬ hasT e.kind := by rintro (h | h) <;> omega
  refine fmt_some (t := 32 :: Lib.decDigits e.round.toNat) hc ?_ (by rw [line2_list, hk]; rfl)
  unfold lastL
  rw [if_neg (fun x => hnb x.1), if_neg (by omega), if_neg hnt, if_pos hk]
theorem fmt_decide (hc : checkV e = 0) (hk : e.kind = 10) : formatV S e = capV (line2 (nameK 10) (ofL (Sum.hexL e.digest 16))) := by
  have hnb : ¬ hasB e.kind := by rintro (h | h | h | h) <;> omega
  have hnt : ¬ hasT e.kind := by rintro (h | h) <;> omega
  refine fmt_some (t := 32 :: Sum.hexL e.digest 16) hc ?_ (by rw [line2_list, hk]; rfl)
  unfold lastL
  rw [if_neg (fun x => hnb x.1), if_neg (by omega), if_neg hnt, if_neg (by omega), if_pos hk]
end
end Go.Proofs.YtaikmgnpfbnjjaaGreatDoor.Ev
namespace Go.Proofs.YtaikmgnpfbnjjaaGreatDoor.Ev
open Go.ChangeShapes Go.WideShapes Go.ChangeAt Go.RowKit Gn Cat Lex Ros Se
set_option linter.unusedVariables false
set_option linter.unusedSimpArgs false
attribute [local go_sem] later_cell
abbrev TextPost (t : ByteArray) (b : Bool) (w : World) : Ending → World → Prop := fun x w' => x = .returned (.tuple #[.string t, .bool b]) ∧ Below w.heap.size w w'
theorem ofL_size (l : List UInt8) : (ofL l).size = l.length := by
  show l.toArray.size = _
  rw [List.size_toArray]
theorem ofL_list (l : List UInt8) : (ofL l).data.toList = l := rfl
theorem ofL_empty (l : List UInt8) : (ofL l).toList.isEmpty = l.isEmpty := by
  rw [ByteArray.toList_eq]
  rfl
theorem trim_len (l : List UInt8) : (Lib.trimSuffix l [10]).length ≤ l.length := by
  unfold Lib.trimSuffix
  split
  · rw [List.length_take]; omega
  · exact Nat.le_refl _
set_option maxHeartbeats 2000000 in
set_option maxRecDepth 100000 in
theorem text_sale (e : Evt) (w : World) (hsh : Sh w) (ht : e.text.size ≤ 5000) (hk : e.kind = 1) : Calls Tryz.prog 46 #[e.val] w (TextPost (ofL (replL 10 59 (Lib.trimSuffix e.text.data.toList [10]))) (saleB e.text.data.toList) w) := by
  obtain ⟨k, b, r, p, t, d⟩ := e
  unfold Evt.val
  dsimp only at *
  subst hk
  have K0 := Lib.hid (Blk.new w 26 (cells11 1 b r p t d))
  have CS := Lib.hid (fun W => cutSuf_any t W ht)
  have hb : saleB t.data.toList = (Lib.hasSuffix t.data.toList [10] && (!(Lib.trimSuffix t.data.toList [10]).isEmpty && (!Lib.hasSuffix (Lib.trimSuffix t.data.toList [10]) [10] && !(Lib.trimSuffix t.data.toList [10]).contains 59))) := rfl
  have hl : (ofL (Lib.trimSuffix t.data.toList [10])).size ≤ 5000 := by
    rw [ofL_size]
    have := trim_len t.data.toList
    have h2 : t.data.toList.length = t.size := rfl
    omega
  have CR := Lib.hid (fun W (b : Below w.heap.size w W) => repl_any (ofL (Lib.trimSuffix t.data.toList [10])) 10 59 W (by decide) (sh_keep hsh b) hl)
  have CH := Lib.hid (fun W => hasSuf_any (ofL (Lib.trimSuffix t.data.toList [10])) W hl)
  have CC := Lib.hid (fun W => has_any (ofL (Lib.trimSuffix t.data.toList [10])) 59 W)
  have hz := ofL_empty (Lib.trimSuffix t.data.toList [10])
  rw [ofL_list] at CR CH CC
  generalize saleB t.data.toList = V at *
  generalize ofL (replL 10 59 (Lib.trimSuffix t.data.toList [10])) = tv at *
  generalize ofL (Lib.trimSuffix t.data.toList [10]) = u at *
  generalize Lib.hasSuffix t.data.toList [10] = b1 at *
  generalize Lib.hasSuffix (Lib.trimSuffix t.data.toList [10]) [10] = b3 at *
  generalize (Lib.trimSuffix t.data.toList [10]).contains 59 = b4 at *
  generalize (Lib.trimSuffix t.data.toList [10]).isEmpty = b2 at *
  have HB := Lib.hid hb
  clear hb ht hl hsh
  go_enter Tryz.func46, Tryz.ntmps46
  go_wp2_with fail
  refine (CS.out _).mono ?_
  rintro x w1 ⟨rfl, rfl⟩
  have B1 := Lib.hid (below_new w (.cells (cells11 1 b r p t d) 26))
  go_wp2_with fail
  refine (CR.out _ B1.out).mono ?_
  rintro x w2 ⟨rfl, d2⟩
  have B2 := Lib.hid (chain1 (Below.refl _ _) d2)
  clear d2 B1
  cases b1 with
  | false =>
    go_wp2_with fail
    go_ret2
    exact ⟨by rw [HB.out]; rfl, B2.out⟩
  | true =>
    cases b2 with
    | true =>
      go_wp2_with fail
      go_ret2
      exact ⟨by rw [HB.out]; rfl, B2.out⟩
    | false =>
      go_wp2_with fail
      refine (CH.out _).mono ?_
      rintro x w3 ⟨rfl, rfl⟩
      cases b3 with
      | true =>
        go_wp2_with fail
        go_ret2
        exact ⟨by rw [HB.out]; rfl, B2.out⟩
      | false =>
        go_wp2_with fail
        refine (CC.out _).mono ?_
        rintro x w4 ⟨rfl, rfl⟩
        cases b4 <;> (go_wp2_with fail; go_ret2; exact ⟨by rw [HB.out]; rfl, B2.out⟩)
theorem head_of {t : ByteArray} (h : 0 < t.size) : t.data.toList.head? = some t[0] := by
  rw [List.head?_eq_getElem?, List.getElem?_eq_getElem (show 0 < t.data.toList.length from h)]
  rfl
theorem pos_of {t : ByteArray} (h : t ≠ ⟨#[]⟩) : 0 < t.size := by
  rcases Nat.eq_zero_or_pos t.size with h0 | h0
  · exact absurd (ByteArray.ext (Array.toList_inj.1 (List.eq_nil_of_length_eq_zero h0))) h
  · exact h0
theorem isE_of {t : ByteArray} (h : t ≠ ⟨#[]⟩) : t.data.toList.isEmpty = false := by
  have := pos_of h
  cases hx : t.data.toList.isEmpty with
  | false => rfl
  | true =>
    have h2 : t.data.toList.length = 0 := by rw [List.isEmpty_iff.1 hx]; rfl
    have h3 : t.data.toList.length = t.size := rfl
    omega
set_option maxHeartbeats 2000000 in
set_option maxRecDepth 100000 in
theorem text_bid (e : Evt) (w : World) (hk : e.kind ≠ 1) : Calls Tryz.prog 46 #[e.val] w (TextPost e.text (bidT e.text.data.toList) w) := by
  obtain ⟨k, b, r, p, t, d⟩ := e
  unfold Evt.val
  dsimp only at *
  have K0 := Lib.hid (Blk.new w 26 (cells11 k b r p t d))
  have B0 := Lib.hid (below_new w (.cells (cells11 k b r p t d) 26))
  have dk : (k == 1) = false := by simpa using hk
  have CC : Hid (∀ W, Calls Tryz.prog 82 #[.string t, .string ⟨#[10]⟩] W fun x w' => x = .returned (.bool (t.data.toList.contains 10)) ∧ Below W.heap.size W w') := fun W => (has_any t 10 W).mono fun x w' ⟨h1, h2⟩ => ⟨h1, by rw [h2]; exact Below.refl _ _⟩
  have hb : bidT t.data.toList = (!t.data.toList.isEmpty && (!t.data.toList.contains 10 && !(t.data.toList.head? == some 32))) := rfl
  have HB := Lib.hid hb
  clear hb hk
  go_enter Tryz.func46, Tryz.ntmps46
  go_wp2_with fail
  generalize w.alloc (.cells #[.int .i64 k, .int .i64 b, .int .i64 r, .int .i64 (p 0), .int .i64 (p 1), .int .i64 (p 2), .int .i64 (p 3), .int .i64 (p 4), .int .i64 (p 5), .string t, .int .u64 (d : Int)] 26) = w0 at *
  have FC := Lib.hid (fun y => CC.out (later w0 y))
  have q0 := Blk11 K0.out
  have l0 := K0.out.lt
  have HL := Lib.hid (fun y => B0.out.trans ((later_below w0 y).mono B0.out.size))
  clear K0 B0 CC
  by_cases h0 : t = ⟨#[]⟩
  · subst h0
    have hz : (⟨#[]⟩ : ByteArray).toList.isEmpty = true := by decide +kernel
    have hv : Hid (bidT (⟨#[]⟩ : ByteArray).data.toList = false) := rfl
    generalize (⟨#[]⟩ : ByteArray) = t at *
    refine wp_region_later (by kernel_rfl) (by kernel_rfl) ?_
    repeat (first | go_big_quiet_step (fail) | quiet_step (fail))
    refine wpQuiet_nil ?_
    rintro _ ⟨y, rfl⟩
    go_wp2_with fail
    go_ret2
    exact ⟨by rw [hv.out]; rfl, HL.out y⟩
  · have hz := ne_empty h0
    have hp := pos_of h0
    have hpi : (0 : Int) < (t.size : Int) := by omega
    have hi : Hid (t.data.toList.isEmpty = false) := isE_of h0
    cases hc : t.data.toList.contains 10 with
    | true =>
      have hv : Hid (bidT t.data.toList = false) := by show _ = _; rw [HB.out, hi.out, hc]; rfl
      rw [hc] at FC
      generalize bidT t.data.toList = V at *
      clear hc
      refine wp_region_later (by kernel_rfl) (by kernel_rfl) ?_
      repeat (first | go_big_quiet_step ((go_at_call 82; exact calls_later (FC.out _))) | quiet_step ((go_at_call 82; exact calls_later (FC.out _))))
      refine wpQuiet_nil ?_
      rintro _ ⟨y, rfl⟩
      go_wp2_with fail
      go_ret2
      exact ⟨by rw [hv.out]; rfl, HL.out y⟩
    | false =>
      have hv : Hid (bidT t.data.toList = ((t[0].toNat : Int) != 32)) := by
        show _ = _
        rw [HB.out, hi.out, hc, head_of hp]
        by_cases e32 : t[0] = 32
        · rw [e32]; rfl
        · have h1 : (some t[0] == some (32 : UInt8)) = false := by simpa using e32
          have h2 : ((t[0].toNat : Int) != 32) = true := by
            simp only [bne_iff_ne, ne_eq]
            intro hx
            exact e32 (UInt8.toNat_inj.1 (by show t[0].toNat = 32; omega))
          rw [h1, h2]; rfl
      rw [hc] at FC
      generalize bidT t.data.toList = V at *
      clear hc
      refine wp_region_later (by kernel_rfl) (by kernel_rfl) ?_
      repeat (first | go_big_quiet_step ((go_at_call 82; exact calls_later (FC.out _))) | quiet_step ((go_at_call 82; exact calls_later (FC.out _))))
      refine wpQuiet_nil ?_
      rintro _ ⟨y, rfl⟩
      go_wp2_with fail
      go_ret2
      exact ⟨by rw [hv.out]; rfl, HL.out y⟩
end Go.Proofs.YtaikmgnpfbnjjaaGreatDoor.Ev
