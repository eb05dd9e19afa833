/- Plain: the text of a valid setup reads as the setup. -/
import Derived.Test.YtjjlhihocllgjaaDoorSeQ
namespace Go.Proofs.YtjjlhihocllgjaaDoor.Se
open Go.ChangeShapes Go.WideShapes Go.ChangeAt Go.RowKit Gn Cat Lex Ros
set_option linter.unusedVariables false
set_option linter.unusedSimpArgs false
/-- a word of letters, digits, underscores and stars -/
def wordOk (w : ByteArray) : Prop := ∀ b ∈ w.data.toList, b ≠ 32 ∧ b ≠ 10
theorem span_all {p : UInt8 → Bool} : ∀ {l : List UInt8}, span p l = l.length → ∀ b ∈ l, p b = true
  | [], _, b, hb => by cases hb
  | x :: l, h, b, hb => by
    unfold span at h
    split at h
    · rename_i hx
      rcases List.mem_cons.1 hb with e | e
      · rw [e]; exact hx
      · exact span_all (by simpa using h) b e
    · simp at h
theorem name_word {s : ByteArray} (h : nameOk s = true) : wordOk s ∧ 0 < s.size ∧ eqB s wAny = false := by
  unfold nameOk at h
  simp only [Bool.and_eq_true, decide_eq_true_eq] at h
  obtain ⟨h0, h1, h2, h3⟩ := h
  unfold runLen at h3
  rw [List.drop_zero] at h3
  have ha := span_all h3
  refine ⟨fun b hb => ?_, h0, ?_⟩
  · have := ha b hb
    constructor
    · rintro rfl; exact absurd this (by decide)
    · rintro rfl; exact absurd this (by decide)
  · cases he : eqB s wAny with
    | false => rfl
    | true =>
      rw [eqB_iff.1 he] at h2
      exact absurd h2 (by decide)
theorem dec_word (n : Nat) : wordOk (decS (n : Int)) ∧ 0 < (decS (n : Int)).size := by
  rw [decS_pos]
  obtain ⟨h1, _, h3, _⟩ := decD_dig n
  refine ⟨fun b hb => ?_, ?_⟩
  · have := h1 b hb
    constructor
    · rintro rfl; exact absurd this (by decide)
    · rintro rfl; exact absurd this (by decide)
  · show 0 < (Lib.decDigits n).toArray.size
    rw [List.size_toArray]
    exact List.length_pos_iff.2 h3
theorem dec_num {v : Int} (h0 : 0 ≤ v) (h1 : v < 1000000000) : numE (decS v) = 0 ∧ numV (decS v) = v ∧ wordOk (decS v) := by
  obtain ⟨n, rfl⟩ := Int.eq_ofNat_of_zero_le h0
  have := num_dec (n := n) (by omega)
  rw [← decS_pos] at this
  exact ⟨this.1, this.2, (dec_word n).1⟩
/-- a line's bytes -/
def lineB (ws : List ByteArray) : List UInt8 := Lib.join (ws.map (·.data.toList)) [32]
theorem lineW_data (ws : List ByteArray) : (lineW ws).data.toList = lineB ws ++ [10] := by
  unfold lineW lineB
  rw [ByteArray.data_append]
  simp
theorem catL_data : ∀ (ls : List (List ByteArray)) (t : ByteArray), (catL t ls).data.toList = t.data.toList ++ ls.flatMap fun ws => lineB ws ++ [10]
  | [], t => by rw [catL_nil]; simp
  | w :: r, t => by
    rw [catL_cons, catL_data r, List.flatMap_cons, ByteArray.data_append, Array.toList_append, lineW_data, List.append_assoc]
theorem joinB_cons (w : ByteArray) (ws : List ByteArray) (h : ws ≠ []) : lineB (w :: ws) = w.data.toList ++ 32 :: lineB ws := by
  cases ws with
  | nil => exact absurd rfl h
  | cons x r =>
    unfold lineB
    simp only [List.map_cons, Lib.join_cons]
    simp [Lib.joinTail]
theorem joinB_one (w : ByteArray) : lineB [w] = w.data.toList := by
  unfold lineB
  simp [Lib.join_cons, Lib.joinTail]
theorem line_split : ∀ {ws : List ByteArray}, ws ≠ [] → (∀ w ∈ ws, wordOk w) → splitL 32 (lineB ws) = ws.map (·.data.toList)
  | [], h, _ => absurd rfl h
  | [w], _, hw => by
    rw [joinB_one, splitL_none fun b hb => (hw w (by simp) b hb).1]
    rfl
  | w :: x :: r, _, hw => by
    rw [joinB_cons w (x :: r) (by simp), splitL_app _ fun b hb => (hw w (by simp) b hb).1, line_split (by simp) fun y hy => hw y (List.mem_cons_of_mem _ hy)]
    rfl
theorem line_no10 : ∀ {ws : List ByteArray}, (∀ w ∈ ws, wordOk w) → ∀ b ∈ lineB ws, b ≠ 10
  | [], _, b, hb => by simp [lineB, Lib.join_nil] at hb
  | [w], hw, b, hb => by
    rw [joinB_one] at hb
    exact (hw w (by simp) b hb).2
  | w :: x :: r, hw, b, hb => by
    rw [joinB_cons w (x :: r) (by simp)] at hb
    rcases List.mem_append.1 hb with hb | hb
    · exact (hw w (by simp) b hb).2
    · rcases List.mem_cons.1 hb with hb | hb
      · rw [hb]; decide
      · exact line_no10 (fun y hy => hw y (List.mem_cons_of_mem _ hy)) b hb
theorem text_split : ∀ (ls : List (List ByteArray)), (∀ ws ∈ ls, ∀ w ∈ ws, wordOk w) → splitL 10 (ls.flatMap fun ws => lineB ws ++ [10]) = ls.map lineB ++ [[]]
  | [], _ => rfl
  | ws :: r, h => by
    rw [List.flatMap_cons, List.append_assoc, List.singleton_append, splitL_app _ (line_no10 (h ws (by simp))), text_split r fun x hx => h x (List.mem_cons_of_mem _ hx)]
    rfl
abbrev lineT (ws : List ByteArray) : ByteArray := ⟨(lineB ws).toArray⟩
theorem textS_split {S : SetD} (h : ∀ ws ∈ linesW S, ∀ w ∈ ws, wordOk w) : splitS 10 (textS S) = (linesW S).map lineT ++ [⟨#[]⟩] := by
  unfold splitS textS
  rw [catL_data]
  show List.map _ (splitL 10 ([] ++ _)) = _
  rw [List.nil_append, text_split _ h, List.map_append, List.map_map]
  rfl
theorem lineT_split {ws : List ByteArray} (h0 : ws ≠ []) (h : ∀ w ∈ ws, wordOk w) : splitS 32 (lineT ws) = ws := by
  unfold splitS
  show List.map _ (splitL 32 (lineB ws)) = _
  rw [line_split h0 h, List.map_map]
  exact List.map_id _
theorem lineT_size {w : ByteArray} {ws : List ByteArray} (h : 0 < w.size) : (lineT (w :: ws)).size ≠ 0 := by
  show (lineB (w :: ws)).toArray.size ≠ 0
  rw [List.size_toArray]
  have h2 : 0 < w.data.toList.length := h
  cases ws with
  | nil => rw [joinB_one]; omega
  | cons x r => rw [joinB_cons w (x :: r) (by simp), List.length_append]; omega
theorem readGo_app : ∀ (a b : List ByteArray) (S : SetD) (i : Nat) (S' : SetD), readGo S a i = .ok S' → readGo S (a ++ b) i = readGo S' b (i + a.length)
  | [], b, S, i, S', h => by
    rw [readGo] at h
    cases h
    rfl
  | l :: a, b, S, i, S', h => by
    rw [readGo] at h
    rw [List.cons_append, readGo, List.length_cons, show i + (a.length + 1) = i + 1 + a.length by omega]
    split at h
    · rename_i h1
      rw [if_pos h1]
      exact readGo_app a b S (i + 1) S' h
    · rename_i h1
      rw [if_neg h1]
      split at h
      · cases h
      · rename_i h2
        rw [if_neg h2]
        exact readGo_app a b _ (i + 1) S' h
/-- a good line in front -/
theorem readGo_line {S : SetD} {w : ByteArray} {ws : List ByteArray} {r : List ByteArray} {i : Nat} (h0 : 0 < w.size) (h : ∀ x ∈ w :: ws, wordOk x) (he : lineE S (w :: ws) = 0) : readGo S (lineT (w :: ws) :: r) i = readGo (stepW S (w :: ws)) r (i + 1) := by
  rw [readGo, if_neg (lineT_size h0), lineT_split (by simp) h, if_neg (fun e => e he)]
theorem num_lt {v : Int} {m : Int} (h : 0 ≤ v ∧ v ≤ m) (hm : m < 1000000000) : 0 ≤ v ∧ v < 1000000000 := ⟨h.1, by omega⟩
theorem wP_ok : wordOk wProd := by unfold wordOk; decide
theorem wB_ok : wordOk wBid := by unfold wordOk; decide
theorem wC_ok : wordOk wCap := by unfold wordOk; decide
theorem wA_ok : wordOk wAsd := by unfold wordOk; decide
theorem wS_ok : wordOk wAny := by unfold wordOk; decide
theorem all2 {P : ByteArray → Prop} {a b c d : ByteArray} (ha : P a) (hb : P b) (hc : P c) (hd : P d) : ∀ x ∈ [a, b, c, d], P x := by
  intro x hx
  simp at hx
  rcases hx with rfl | rfl | rfl | rfl <;> assumption
theorem eq_pp : eqB wProd wProd = true := by decide +kernel
theorem eq_bp : eqB wBid wProd = false := by decide +kernel
theorem eq_bb : eqB wBid wBid = true := by decide +kernel
theorem eq_cp : eqB wCap wProd = false := by decide +kernel
theorem eq_cb : eqB wCap wBid = false := by decide +kernel
theorem eq_cc : eqB wCap wCap = true := by decide +kernel
theorem eq_ap : eqB wAsd wProd = false := by decide +kernel
theorem eq_ab : eqB wAsd wBid = false := by decide +kernel
theorem eq_ac : eqB wAsd wCap = false := by decide +kernel
theorem eq_aa : eqB wAsd wAsd = true := by decide +kernel
theorem eq_ss : eqB wAny wAny = true := by decide +kernel
structure ProdG (p : Prod) : Prop where
  nm : nameOk p.name = true
  s : 0 ≤ p.supply ∧ p.supply < 1000000000
  r : 0 ≤ p.reserve ∧ p.reserve < 1000000000
  t : 0 ≤ p.points ∧ p.points < 1000000000
  g : 0 ≤ p.group ∧ p.group < 1000000000
structure BidG (p : Bid) : Prop where
  nm : nameOk p.name = true
  c : 0 ≤ p.cls ∧ p.cls < 1000000000
  b : 0 ≤ p.budget ∧ p.budget < 1000000000
  t : 0 ≤ p.points ∧ p.points < 1000000000
theorem prod_words {p : Prod} (h : ProdG p) : ∀ w ∈ prodW p, wordOk w := by
  intro w hw
  simp at hw
  rcases hw with rfl | rfl | rfl | rfl | rfl | rfl
  · exact wP_ok
  · exact (name_word h.nm).1
  · exact (dec_num h.s.1 h.s.2).2.2
  · exact (dec_num h.r.1 h.r.2).2.2
  · exact (dec_num h.t.1 h.t.2).2.2
  · exact (dec_num h.g.1 h.g.2).2.2
theorem bid_words {p : Bid} (h : BidG p) : ∀ w ∈ bidW p, wordOk w := by
  intro w hw
  simp at hw
  rcases hw with rfl | rfl | rfl | rfl | rfl
  · exact wB_ok
  · exact (name_word h.nm).1
  · exact (dec_num h.c.1 h.c.2).2.2
  · exact (dec_num h.b.1 h.b.2).2.2
  · exact (dec_num h.t.1 h.t.2).2.2
theorem prod_line (S : SetD) {p : Prod} (h : ProdG p) : lineE S (prodW p) = 0 ∧ stepW S (prodW p) = { S with ps := S.ps ++ [p] } := by
  obtain ⟨a1, a2, _⟩ := dec_num h.s.1 h.s.2
  obtain ⟨b1, b2, _⟩ := dec_num h.r.1 h.r.2
  obtain ⟨c1, c2, _⟩ := dec_num h.t.1 h.t.2
  obtain ⟨d1, d2, _⟩ := dec_num h.g.1 h.g.2
  have e0 : wd (prodW p) 0 = wProd := rfl
  have e1 : wd (prodW p) 1 = p.name := rfl
  have hw : widthW wProd = 6 := by unfold widthW; rw [if_pos eq_pp]
  constructor
  · unfold lineE
    rw [e0, e1, hw, if_neg (by decide), if_neg (fun e => e rfl)]
    have hn : nameE S wProd p.name = 0 := by unfold nameE; rw [if_pos eq_pp, if_pos h.nm]
    rw [hn, if_neg (by simp)]
    show numsE [decS p.supply, decS p.reserve, decS p.points, decS p.group] = 0
    simp [numsE, a1, b1, c1, d1]
  · unfold stepW
    rw [e0, if_pos eq_pp]
    show ({ S with ps := S.ps ++ [⟨p.name, numV (decS p.supply), numV (decS p.reserve), numV (decS p.points), numV (decS p.group)⟩] } : SetD) = _
    rw [a2, b2, c2, d2]
theorem bid_line (S : SetD) {p : Bid} (h : BidG p) : lineE S (bidW p) = 0 ∧ stepW S (bidW p) = { S with bs := S.bs ++ [p] } := by
  obtain ⟨a1, a2, _⟩ := dec_num h.c.1 h.c.2
  obtain ⟨b1, b2, _⟩ := dec_num h.b.1 h.b.2
  obtain ⟨c1, c2, _⟩ := dec_num h.t.1 h.t.2
  have e0 : wd (bidW p) 0 = wBid := rfl
  have e1 : wd (bidW p) 1 = p.name := rfl
  have hw : widthW wBid = 5 := by unfold widthW; rw [if_neg (by rw [eq_bp]; simp), if_pos eq_bb]
  constructor
  · unfold lineE
    rw [e0, e1, hw, if_neg (by decide), if_neg (fun e => e rfl)]
    have hn : nameE S wBid p.name = 0 := by unfold nameE; rw [if_neg (by rw [eq_bp]; simp), if_pos eq_bb, if_pos h.nm]
    rw [hn, if_neg (by simp)]
    show numsE [decS p.cls, decS p.budget, decS p.points] = 0
    simp [numsE, a1, b1, c1]
  · unfold stepW
    rw [e0, if_neg (by rw [eq_bp]; simp), if_pos eq_bb]
    show ({ S with bs := S.bs ++ [⟨p.name, numV (decS p.cls), numV (decS p.budget), numV (decS p.points)⟩] } : SetD) = _
    rw [a2, b2, c2]
/-- a cap of the bidders -/
structure CapG (bs : List Bid) (c : Cp) : Prop where
  bid : c.bidder = -1 ∨ (0 ≤ c.bidder ∧ c.bidder < (bs.length : Int) ∧ wordOk (capN bs c.bidder) ∧ eqB (capN bs c.bidder) wAny = false ∧ findB bs (capN bs c.bidder) = some c.bidder.toNat)
  g : 0 ≤ c.group ∧ c.group < 1000000000
  u : 0 ≤ c.units ∧ c.units < 1000000000
structure AsdG (ps : List Prod) (c : Asd) : Prop where
  prod : 0 ≤ c.prod ∧ c.prod < (ps.length : Int) ∧ wordOk (ps.getD c.prod.toNat Prod.none).name ∧ findP ps (ps.getD c.prod.toNat Prod.none).name = some c.prod.toNat
  g : 0 ≤ c.cls ∧ c.cls < 1000000000
  u : 0 ≤ c.units ∧ c.units < 1000000000
theorem cap_words {bs : List Bid} {p : Cp} (h : CapG bs p) : ∀ w ∈ capW bs p, wordOk w := by
  intro w hw
  simp at hw
  rcases hw with rfl | rfl | rfl | rfl
  · exact wC_ok
  · rcases h.bid with e | e
    · unfold capN
      rw [if_neg (by omega)]
      exact wS_ok
    · exact e.2.2.1
  · exact (dec_num h.g.1 h.g.2).2.2
  · exact (dec_num h.u.1 h.u.2).2.2
theorem asd_words {ps : List Prod} {p : Asd} (h : AsdG ps p) : ∀ w ∈ asdW ps p, wordOk w := by
  intro w hw
  simp at hw
  rcases hw with rfl | rfl | rfl | rfl
  · exact wA_ok
  · exact h.prod.2.2.1
  · exact (dec_num h.g.1 h.g.2).2.2
  · exact (dec_num h.u.1 h.u.2).2.2
theorem cap_line (S : SetD) {p : Cp} (h : CapG S.bs p) : lineE S (capW S.bs p) = 0 ∧ stepW S (capW S.bs p) = { S with cs := S.cs ++ [p] } := by
  obtain ⟨a1, a2, _⟩ := dec_num h.g.1 h.g.2
  obtain ⟨b1, b2, _⟩ := dec_num h.u.1 h.u.2
  have e0 : wd (capW S.bs p) 0 = wCap := rfl
  have e1 : wd (capW S.bs p) 1 = capN S.bs p.bidder := rfl
  have hw : widthW wCap = 4 := by unfold widthW; rw [if_neg (by rw [eq_cp]; simp), if_neg (by rw [eq_cb]; simp), if_pos eq_cc]
  have key : nameE S wCap (capN S.bs p.bidder) = 0 ∧ idxW S wCap (capN S.bs p.bidder) = p.bidder := by
    unfold nameE idxW
    rw [if_neg (by rw [eq_cp]; simp), if_neg (by rw [eq_cb]; simp), if_pos eq_cc, if_pos eq_cc]
    rcases h.bid with e | ⟨c1, c2, c3, c4, c5⟩
    · have : capN S.bs p.bidder = wAny := by unfold capN; rw [if_neg (by omega)]
      rw [this, if_pos eq_ss, if_pos eq_ss, e]
      exact ⟨rfl, rfl⟩
    · simp only [c4, c5, Bool.false_eq_true, if_false, Option.isSome_some, if_true, Option.getD_some, true_and]
      omega
  constructor
  · unfold lineE
    rw [e0, e1, hw, if_neg (by decide), if_neg (fun e => e rfl), key.1, if_neg (by simp)]
    show numsE [decS p.group, decS p.units] = 0
    simp [numsE, a1, b1]
  · unfold stepW
    rw [e0, e1, if_neg (by rw [eq_cp]; simp), if_neg (by rw [eq_cb]; simp), if_pos eq_cc]
    show ({ S with cs := S.cs ++ [⟨idxW S wCap (capN S.bs p.bidder), numV (decS p.group), numV (decS p.units)⟩] } : SetD) = _
    rw [a2, b2, key.2]
theorem asd_line (S : SetD) {p : Asd} (h : AsdG S.ps p) : lineE S (asdW S.ps p) = 0 ∧ stepW S (asdW S.ps p) = { S with ad := S.ad ++ [p] } := by
  obtain ⟨a1, a2, _⟩ := dec_num h.g.1 h.g.2
  obtain ⟨b1, b2, _⟩ := dec_num h.u.1 h.u.2
  have e0 : wd (asdW S.ps p) 0 = wAsd := rfl
  have e1 : wd (asdW S.ps p) 1 = (S.ps.getD p.prod.toNat Prod.none).name := rfl
  have hw : widthW wAsd = 4 := by unfold widthW; rw [if_neg (by rw [eq_ap]; simp), if_neg (by rw [eq_ab]; simp), if_neg (by rw [eq_ac]; simp), if_pos eq_aa]
  have key : nameE S wAsd (S.ps.getD p.prod.toNat Prod.none).name = 0 ∧ idxW S wAsd (S.ps.getD p.prod.toNat Prod.none).name = p.prod := by
    unfold nameE idxW
    obtain ⟨c1, c2, c3, c4⟩ := h.prod
    simp only [eq_ap, eq_ab, eq_ac, c4, Bool.false_eq_true, if_false, Option.isSome_some, if_true, Option.getD_some, true_and]
    omega
  constructor
  · unfold lineE
    rw [e0, e1, hw, if_neg (by decide), if_neg (fun e => e rfl), key.1, if_neg (by simp)]
    show numsE [decS p.cls, decS p.units] = 0
    simp [numsE, a1, b1]
  · unfold stepW
    rw [e0, e1, if_neg (by rw [eq_ap]; simp), if_neg (by rw [eq_ab]; simp), if_neg (by rw [eq_ac]; simp)]
    show ({ S with ad := S.ad ++ [⟨idxW S wAsd (S.ps.getD p.prod.toNat Prod.none).name, numV (decS p.cls), numV (decS p.units)⟩] } : SetD) = _
    rw [a2, b2, key.2]
theorem read_prods : ∀ (l : List Prod) (S : SetD) (i : Nat), (∀ p ∈ l, ProdG p) → readGo S ((l.map prodW).map lineT) i = .ok { S with ps := S.ps ++ l }
  | [], S, i, _ => by simp [readGo]
  | p :: l, S, i, h => by
    have hp := h p (by simp)
    rw [List.map_cons, List.map_cons, readGo_line (by decide) (prod_words hp) (prod_line S hp).1, (prod_line S hp).2, read_prods l _ _ fun q hq => h q (List.mem_cons_of_mem _ hq)]
    simp
theorem read_bids : ∀ (l : List Bid) (S : SetD) (i : Nat), (∀ p ∈ l, BidG p) → readGo S ((l.map bidW).map lineT) i = .ok { S with bs := S.bs ++ l }
  | [], S, i, _ => by simp [readGo]
  | p :: l, S, i, h => by
    have hp := h p (by simp)
    rw [List.map_cons, List.map_cons, readGo_line (by decide) (bid_words hp) (bid_line S hp).1, (bid_line S hp).2, read_bids l _ _ fun q hq => h q (List.mem_cons_of_mem _ hq)]
    simp
theorem read_caps : ∀ (l : List Cp) (S : SetD) (i : Nat), (∀ p ∈ l, CapG S.bs p) → readGo S ((l.map (capW S.bs)).map lineT) i = .ok { S with cs := S.cs ++ l }
  | [], S, i, _ => by simp [readGo]
  | p :: l, S, i, h => by
    have hp := h p (by simp)
    rw [List.map_cons, List.map_cons, readGo_line (by decide) (cap_words hp) (cap_line S hp).1, (cap_line S hp).2]
    have := read_caps l { S with cs := S.cs ++ [p] } (i + 1) fun q hq => h q (List.mem_cons_of_mem _ hq)
    rw [this]
    simp
theorem read_asds : ∀ (l : List Asd) (S : SetD) (i : Nat), (∀ p ∈ l, AsdG S.ps p) → readGo S ((l.map (asdW S.ps)).map lineT) i = .ok { S with ad := S.ad ++ l }
  | [], S, i, _ => by simp [readGo]
  | p :: l, S, i, h => by
    have hp := h p (by simp)
    rw [List.map_cons, List.map_cons, readGo_line (by decide) (asd_words hp) (asd_line S hp).1, (asd_line S hp).2]
    have := read_asds l { S with ad := S.ad ++ [p] } (i + 1) fun q hq => h q (List.mem_cons_of_mem _ hq)
    rw [this]
    simp
/-- names of a list that is right are found at their own places -/
theorem rosGo_names {l : List Bid} : ∀ (m i : Nat), i + m = l.length → rosGo l (l.drop i) i = 0 → ∀ k (h : k < l.length), i ≤ k → nameOk l[k].name = true ∧ findB (l.take k) l[k].name = none
  | 0, i, hm, _, k, h, hk => by omega
  | m + 1, i, hm, hz, k, h, hk => by
    rw [rosGo_drop (by omega)] at hz
    split at hz
    · rename_i hn
      split at hz
      · cases hz
      · rename_i hf
        split at hz
        · by_cases e : i = k
          · subst e
            refine ⟨hn, ?_⟩
            cases hx : findB (l.take i) l[i].name with
            | none => rfl
            | some y => rw [hx] at hf; exact absurd rfl hf
          · exact rosGo_names m (i + 1) (by omega) hz k h (by omega)
        · cases hz
    · cases hz
theorem chkGo_names {l : List Prod} : ∀ (m i : Nat), i + m = l.length → checkGo l (l.drop i) i = 0 → ∀ k (h : k < l.length), i ≤ k → nameOk l[k].name = true ∧ findP (l.take k) l[k].name = none
  | 0, i, hm, _, k, h, hk => by omega
  | m + 1, i, hm, hz, k, h, hk => by
    rw [checkGo_drop (by omega)] at hz
    split at hz
    · rename_i hn
      split at hz
      · cases hz
      · rename_i hf
        split at hz
        · by_cases e : i = k
          · subst e
            refine ⟨hn, ?_⟩
            cases hx : findP (l.take i) l[i].name with
            | none => rfl
            | some y => rw [hx] at hf; exact absurd rfl hf
          · exact chkGo_names m (i + 1) (by omega) hz k h (by omega)
        · cases hz
    · cases hz
theorem findF_take {name : ByteArray} : ∀ (l : List Prod) (k i : Nat) (h : k < l.length), findFrom name (l.take k) i = none → eqB l[k].name name = true → findFrom name l i = some (i + k)
  | [], k, i, h, _, _ => by simp at h
  | p :: l, 0, i, h, _, he => by
    unfold findFrom
    rw [if_pos (by simpa using he)]
    rfl
  | p :: l, k + 1, i, h, hn, he => by
    rw [List.take_succ_cons] at hn
    unfold findFrom at hn
    split at hn
    · cases hn
    · rename_i hp
      unfold findFrom
      rw [if_neg hp, findF_take l k (i + 1) (by simpa using h) hn (by simpa using he)]
      congr 1
      omega
theorem prods_good {ps : List Prod} (h : checkE ps = 0) : ∀ p ∈ ps, ProdG p := fun p hp => by
  obtain ⟨hr, hn⟩ := checkGo_range ps 0 (checkE_zero h).2.2 p hp
  have := rangeOk_iff.1 hr
  exact ⟨hn, by omega, by omega, by omega, by omega⟩
theorem bids_good {bs : List Bid} (h : rosE bs = 0) : ∀ p ∈ bs, BidG p := fun p hp => by
  obtain ⟨hr, hn⟩ := rosGo_all bs 0 (rosE_zero h).2.2 p hp
  have := bidOk_iff.1 hr
  exact ⟨hn, by omega, by omega, by omega⟩
theorem caps_good {bs : List Bid} {cs : List Cp} (hb : rosE bs = 0) (h : capsE bs.length cs = 0) : ∀ c ∈ cs, CapG bs c := fun c hc => by
  obtain ⟨i, hi, rfl⟩ := List.getElem_of_mem hc
  obtain ⟨h1, h2, h3⟩ := (capsE_parts h).2 i hi
  refine ⟨?_, by omega, by omega⟩
  by_cases e : cs[i].bidder = -1
  · exact .inl e
  · refine .inr ⟨by omega, by omega, ?_⟩
    have hk : cs[i].bidder.toNat < bs.length := by omega
    have en : capN bs cs[i].bidder = bs[cs[i].bidder.toNat].name := by
      unfold capN
      rw [if_pos (by omega)]
      simp [List.getD, hk]
    obtain ⟨n1, n2⟩ := rosGo_names bs.length 0 (by omega) (by rw [List.drop_zero]; exact (rosE_zero hb).2.2) _ hk (by omega)
    rw [en]
    refine ⟨(name_word n1).1, (name_word n1).2.2, ?_⟩
    rw [find_at hk, n2]
    rfl
theorem asds_good {ps : List Prod} {ad : List Asd} (hp : checkE ps = 0) (h : asdsE ps ad = 0) : ∀ a ∈ ad, AsdG ps a := fun a ha => by
  obtain ⟨i, hi, rfl⟩ := List.getElem_of_mem ha
  obtain ⟨h1, h2, h3, _⟩ := (asdsE_parts h).2 i hi
  have hk : ad[i].prod.toNat < ps.length := by omega
  obtain ⟨n1, n2⟩ := chkGo_names ps.length 0 (by omega) (by rw [List.drop_zero]; exact (checkE_zero hp).2.2) _ hk (by omega)
  have hs := (rangeOk_iff.1 (checkGo_range ps 0 (checkE_zero hp).2.2 _ (List.getElem_mem hk)).1).1
  rw [getD_prod ps _ hk] at h3
  refine ⟨⟨by omega, by omega, ?_⟩, by omega, by omega⟩
  rw [getD_prod ps _ hk]
  refine ⟨(name_word n1).1, ?_⟩
  have := findF_take ps _ 0 hk n2 (eqB_iff.2 rfl)
  unfold findP
  rw [this, Nat.zero_add]
/-- the text of a valid setup is short -/
theorem join_size : ∀ (ws : List ByteArray) (m : Nat), (∀ w ∈ ws, w.size ≤ m) → (lineB ws).length ≤ ws.length * (m + 1)
  | [], m, _ => by simp [lineB, Lib.join_nil]
  | [w], m, h => by
    rw [joinB_one]
    have : w.data.toList.length ≤ m := h w (by simp)
    show w.data.toList.length ≤ 1 * (m + 1)
    omega
  | w :: x :: r, m, h => by
    rw [joinB_cons w (x :: r) (by simp), List.length_append, List.length_cons]
    have h1 : w.data.toList.length ≤ m := h w (by simp)
    have h2 := join_size (x :: r) m fun y hy => h y (List.mem_cons_of_mem _ hy)
    rw [List.length_cons (a := w), Nat.succ_mul]
    omega
theorem lineW_size {ws : List ByteArray} {n m : Nat} (hl : ws.length ≤ n) (h : ∀ w ∈ ws, w.size ≤ m) : (lineW ws).size ≤ n * (m + 1) + 1 := by
  show (lineW ws).data.toList.length ≤ _
  rw [lineW_data, List.length_append]
  have := join_size ws m h
  have h2 : ws.length * (m + 1) ≤ n * (m + 1) := Nat.mul_le_mul_right _ hl
  simp
  omega
theorem catL_size {m : Nat} : ∀ (ls : List (List ByteArray)) (t : ByteArray), (∀ ws ∈ ls, (lineW ws).size ≤ m) → (catL t ls).size ≤ t.size + ls.length * m
  | [], t, _ => by rw [catL_nil]; simp
  | w :: r, t, h => by
    rw [catL_cons]
    have h1 := catL_size r (t ++ lineW w) fun x hx => h x (List.mem_cons_of_mem _ hx)
    have h2 := h w (by simp)
    rw [ByteArray.size_append] at h1
    rw [List.length_cons, Nat.succ_mul]
    omega
theorem dec_size12 {v : Int} (h : 0 ≤ v ∧ v < 1000000000) : (decS v).size ≤ 12 := by
  obtain ⟨n, rfl⟩ := Int.eq_ofNat_of_zero_le h.1
  rw [decS_pos]
  show (Lib.decDigits n).toArray.size ≤ 12
  rw [List.size_toArray]
  have := decD_len (n := n) (by omega)
  omega
theorem name_size12 {s : ByteArray} (h : nameOk s = true) : s.size ≤ 12 := by
  unfold nameOk at h
  simp only [Bool.and_eq_true, decide_eq_true_eq] at h
  exact h.2.1
theorem lines_size {S : SetD} (h : S.err = 0) : ∀ ws ∈ linesW S, (lineW ws).size ≤ 79 := by
  obtain ⟨h1, h2, h3, h4⟩ := setE_parts h
  intro ws hw
  unfold linesW at hw
  rcases List.mem_append.1 hw with hw | hw
  · obtain ⟨p, hp, rfl⟩ := List.mem_map.1 hw
    have g := prods_good h1 p hp
    refine lineW_size (n := 6) (m := 12) (Nat.le_refl _) fun w hx => ?_
    simp at hx
    rcases hx with rfl | rfl | rfl | rfl | rfl | rfl
    · decide
    · exact name_size12 g.nm
    · exact dec_size12 g.s
    · exact dec_size12 g.r
    · exact dec_size12 g.t
    · exact dec_size12 g.g
  · rcases List.mem_append.1 hw with hw | hw
    · obtain ⟨p, hp, rfl⟩ := List.mem_map.1 hw
      have g := bids_good h2 p hp
      refine lineW_size (n := 6) (m := 12) (by simp) fun w hx => ?_
      simp at hx
      rcases hx with rfl | rfl | rfl | rfl | rfl
      · decide
      · exact name_size12 g.nm
      · exact dec_size12 g.c
      · exact dec_size12 g.b
      · exact dec_size12 g.t
    · rcases List.mem_append.1 hw with hw | hw
      · obtain ⟨p, hp, rfl⟩ := List.mem_map.1 hw
        have g := caps_good h2 h3 p hp
        refine lineW_size (n := 6) (m := 12) (by simp) fun w hx => ?_
        simp at hx
        rcases hx with rfl | rfl | rfl | rfl
        · decide
        · rcases g.bid with e | e
          · unfold capN
            rw [if_neg (by omega)]
            decide
          · unfold capN
            rw [if_pos e.1]
            have hk : p.bidder.toNat < S.bs.length := by omega
            rw [show S.bs.getD p.bidder.toNat Bid.none = S.bs[p.bidder.toNat] by simp [List.getD, hk]]
            exact name_size12 (bids_good h2 _ (List.getElem_mem hk)).nm
        · exact dec_size12 g.g
        · exact dec_size12 g.u
      · obtain ⟨p, hp, rfl⟩ := List.mem_map.1 hw
        have g := asds_good h1 h4 p hp
        refine lineW_size (n := 6) (m := 12) (by simp) fun w hx => ?_
        simp at hx
        rcases hx with rfl | rfl | rfl | rfl
        · decide
        · have hk : p.prod.toNat < S.ps.length := by have := g.prod; omega
          rw [show (S.ps[p.prod.toNat]?.getD Prod.none) = S.ps[p.prod.toNat] by simp [hk]]
          exact name_size12 (prods_good h1 _ (List.getElem_mem hk)).nm
        · exact dec_size12 g.g
        · exact dec_size12 g.u
theorem linesW_len {S : SetD} (h : S.err = 0) : (linesW S).length ≤ 36 := by
  obtain ⟨h1, h2, h3, h4⟩ := setE_parts h
  have a := (checkE_zero h1).2.1
  have b := (rosE_zero h2).2.1
  have c := (capsE_parts h3).1
  have d := (asdsE_parts h4).1
  unfold linesW
  simp only [List.length_append, List.length_map]
  omega
theorem textS_small {S : SetD} (h : S.err = 0) : (textS S).size ≤ 2844 := by
  have h1 := catL_size (linesW S) ⟨#[]⟩ (lines_size h)
  have h2 := linesW_len h
  have h3 : (linesW S).length * 79 ≤ 36 * 79 := Nat.mul_le_mul_right _ h2
  have h4 : (⟨#[]⟩ : ByteArray).size = 0 := rfl
  unfold textS
  omega
theorem read_text {S : SetD} (h : S.err = 0) : readS (textS S) = ⟨S, 0, 0⟩ := by
  obtain ⟨h1, h2, h3, h4⟩ := setE_parts h
  have gp := prods_good h1
  have gb := bids_good h2
  have gc := caps_good h2 h3
  have ga := asds_good h1 h4
  have hw : ∀ ws ∈ linesW S, ∀ w ∈ ws, wordOk w := by
    intro ws hm
    unfold linesW at hm
    rcases List.mem_append.1 hm with hm | hm
    · obtain ⟨p, hp, rfl⟩ := List.mem_map.1 hm
      exact prod_words (gp p hp)
    · rcases List.mem_append.1 hm with hm | hm
      · obtain ⟨p, hp, rfl⟩ := List.mem_map.1 hm
        exact bid_words (gb p hp)
      · rcases List.mem_append.1 hm with hm | hm
        · obtain ⟨p, hp, rfl⟩ := List.mem_map.1 hm
          exact cap_words (gc p hp)
        · obtain ⟨p, hp, rfl⟩ := List.mem_map.1 hm
          exact asd_words (ga p hp)
  unfold readS
  have hsz := textS_small h
  rw [if_neg (by omega), textS_split hw]
  unfold linesW
  rw [List.map_append, List.map_append, List.map_append, List.append_assoc, List.append_assoc, List.append_assoc]
  have r1 : readGo SetD.none ((S.ps.map prodW).map lineT) 0 = .ok ⟨S.ps, [], [], []⟩ := read_prods S.ps SetD.none 0 gp
  have r2 : ∀ i, readGo ⟨S.ps, [], [], []⟩ ((S.bs.map bidW).map lineT) i = .ok ⟨S.ps, S.bs, [], []⟩ := fun i => read_bids S.bs ⟨S.ps, [], [], []⟩ i gb
  have r3 : ∀ i, readGo ⟨S.ps, S.bs, [], []⟩ ((S.cs.map (capW S.bs)).map lineT) i = .ok ⟨S.ps, S.bs, S.cs, []⟩ := fun i => read_caps S.cs ⟨S.ps, S.bs, [], []⟩ i gc
  have r4 : ∀ i, readGo ⟨S.ps, S.bs, S.cs, []⟩ ((S.ad.map (asdW S.ps)).map lineT) i = .ok ⟨S.ps, S.bs, S.cs, S.ad⟩ := fun i => read_asds S.ad ⟨S.ps, S.bs, S.cs, []⟩ i ga
  rw [readGo_app _ _ _ _ _ r1, readGo_app _ _ _ _ _ (r2 _), readGo_app _ _ _ _ _ (r3 _), readGo_app _ _ _ _ _ (r4 _)]
  rw [readGo, if_pos (by rfl), readGo]
  show (if S.err ≠ 0 then (⟨SetD.none, 0, S.err⟩ : ReadR) else ⟨S, 0, 0⟩) = _
  rw [if_neg (fun e => e h)]
end Go.Proofs.YtjjlhihocllgjaaDoor.Se
