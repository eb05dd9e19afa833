/- Plain: the examples of the chapter. -/
import Derived.Test.YtjjlhihocllgjaaGreatDoorExR
namespace Go.Proofs.YtjjlhihocllgjaaGreatDoor.Ex
open Go.ChangeShapes Go.WideShapes Go.ChangeAt Go.RowKit Gn Cat Lex
set_option linter.unusedVariables false
set_option linter.unusedSimpArgs false
def layB : List LItem → List UInt8 → Bool
  | [], bs => bs.all fun c => c == 32
  | x :: T, bs => x.bytes.isPrefixOf (bs.dropWhile fun c => c == 32) && layB T ((bs.dropWhile fun c => c == 32).drop x.bytes.length)
theorem drop_spaces : ∀ bs : List UInt8, ∃ k, bs = List.replicate k 32 ++ bs.dropWhile fun c => c == 32
  | [] => ⟨0, rfl⟩
  | c :: bs => by
    by_cases h : c = 32
    · obtain ⟨k, e⟩ := drop_spaces bs
      refine ⟨k + 1, ?_⟩
      rw [List.dropWhile_cons, if_pos (by simpa using h), List.replicate_succ, List.cons_append, ← e, h]
    · refine ⟨0, ?_⟩
      rw [List.dropWhile_cons, if_neg (by simpa using h)]
      rfl
theorem layB_lay : ∀ {T : List LItem} {bs : List UInt8}, layB T bs = true → Lay T bs
  | [], bs, h => fun c hc => by
    unfold layB at h
    have := List.all_eq_true.1 h c hc
    simpa using this
  | x :: T, bs, h => by
    unfold layB at h
    rw [Bool.and_eq_true] at h
    obtain ⟨h1, h2⟩ := h
    obtain ⟨k, e⟩ := drop_spaces bs
    have hp := List.isPrefixOf_iff_prefix.1 h1
    obtain ⟨r, hr⟩ := hp
    refine ⟨k, (bs.dropWhile fun c => c == 32).drop x.bytes.length, ?_, layB_lay h2⟩
    conv => lhs; rw [e]
    rw [← hr, List.drop_left]
def sale2 : List Prod := [⟨⟨#[97]⟩, 2, 0, 0, 0⟩, ⟨⟨#[98]⟩, 2, 0, 0, 0⟩]
def pA : Nat → Int := fun i => if i = 0 then 1 else 0
def pB : Nat → Int := fun i => if i = 1 then 1 else 0
abbrev exT (A : Option Addr) : Tree := .mk 2 zero6 0 A 2 [.mk 1 pA 5 none 0 [], .mk 1 pB 7 none 0 []]
abbrev exS : ByteArray := ⟨#[120, 111, 114, 40, 123, 97, 58, 49, 125, 64, 53, 44, 123, 98, 58, 49, 125, 64, 55, 41]⟩
abbrev exP1 : ByteArray := ⟨#[120, 111, 114, 40, 32, 123, 97, 58, 49, 125, 32, 64, 32, 53, 32, 44, 32, 123, 98, 58, 49, 125, 32, 64, 32, 55, 32, 41]⟩
abbrev exP2 : ByteArray := ⟨#[123, 99, 58, 49, 125, 64, 53]⟩
abbrev exP3 : ByteArray := ⟨#[123, 97, 58, 49, 125, 64, 48]⟩
theorem ex_deep (A : Option Addr) : Deep 2 (exT A) := fun x hx => by
  have : x.args = [] := by
    simp only [Tree.args, List.mem_cons, List.not_mem_nil, or_false] at hx
    rcases hx with rfl | rfl <;> rfl
  intro y hy
  rw [this] at hy
  cases hy
theorem ex_fmt0 : fmtX sale2 2 (exT none) = (exS, 0) := by decide +kernel
theorem ex_fmt (A : Option Addr) : fmtX sale2 2 (exT A) = (exS, 0) := (fmtX_congr (ex_deep A) (ex_deep none) rfl).trans ex_fmt0
theorem ex_check : checkX 2 (exT none) = 0 := by decide +kernel
theorem ex_parse1 : parseE sale2 exP1 = (0, xF 2 (exT none)) := parse_lay (by rw [ex_fmt0]) (layB_lay (by decide +kernel)) (by decide)
theorem atom_tok {l : List Prod} {b : Nat → Int} {v : Int} (h : rfitsB b l = true) (h0 : 0 ≤ v) (h1 : v ≤ 1000000) {D : Nat} {L R : List Tok} (hT : Tk (bunT l b ++ [mk_ 64, numT v]) L R) : exprF l (D + 1) L 0 = ⟨.mk 1 (n6 b) v [], R, 0⟩ := by
  obtain ⟨p0, p1, p2, p3, p4⟩ := priced_tok h h0 h1 hT
  have ho : opT L 0 = 1 := by unfold opT; rw [if_neg (by rw [p0]; decide)]
  have hoe : opE L 0 = 0 := by unfold opE; rw [ho, if_neg (by decide)]
  obtain rfl : _ = R := p3
  unfold exprF
  rw [if_pos ho, hoe, p1, p2, p4]
theorem atom_parse {l : List Prod} {b : Nat → Int} {v : Int} {s : ByteArray} (h : rfitsB b l = true) (h0 : 0 ≤ v) (h1 : v ≤ 1000000) (hl : Lay (bunT l b ++ [mk_ 64, numT v]) s.data.toList) (hs : s.size ≤ 4000) : parseE l s = (0, .mk 1 (n6 b) v []) := by
  have hz := (bun_facts h).1
  have ha : Alt (bunT l b ++ [mk_ 64, numT v]) := bun_alt h (alt_mark (by decide) (alt_one (gi_num h0 h1) trivial trivial))
  obtain ⟨L, e1, e2⟩ := lex_lay s _ ha hl hs
  have hE := atom_tok (D := L.length + 6) h h0 h1 e2
  unfold parseE
  rw [if_neg (fun h => h hz), e1, if_neg (fun h => h rfl)]
  show (endE (exprF l (L.length + 6 + 1) L 0).L (exprF l (L.length + 6 + 1) L 0).e, (exprF l (L.length + 6 + 1) L 0).x) = _
  rw [hE]
  rfl
theorem ex_parse3 : parseE sale2 exP3 = (0, xF 1 (.mk 1 pA 0 none 0 [])) := atom_parse (b := pA) (v := 0) (by decide +kernel) (by decide) (by decide) (layB_lay (by decide +kernel)) (by decide)
theorem ex_check3 : checkX 1 (.mk 1 pA 0 none 0 []) = 4 := by decide +kernel
theorem amt_six (L : List Tok) (m : Int) : amtE L 6 m = 6 := by
  unfold amtE peekT wrongE failE
  simp [Tok.none]
theorem ex_parse2 : (parseE sale2 exP2).1 = 6 := by
  have hz : checkE sale2 = 0 := by decide +kernel
  have gd (n : Nat) (h : n ≤ 1000000) : GI ⟨Lib.decDigits n, 2, n⟩ := .inr (.inl ⟨n, h, rfl⟩)
  have ha : Alt [mk_ 123, ⟨(⟨#[99]⟩ : ByteArray).data.toList, 1, 0⟩, mk_ 58, ⟨Lib.decDigits 1, 2, 1⟩, mk_ 125, mk_ 64, ⟨Lib.decDigits 5, 2, 5⟩] :=
    alt_mark (by decide) (alt_one (.inl ⟨⟨#[99]⟩, by decide +kernel, rfl⟩) rfl (alt_mark (by decide) (alt_one (gd 1 (by decide)) rfl (alt_mark (by decide) (alt_mark (by decide) (alt_one (gd 5 (by decide)) trivial trivial))))))
  obtain ⟨L, e1, e2⟩ := lex_lay exP2 _ ha (layB_lay (by decide +kernel)) (by decide)
  obtain ⟨t, M, rfl, ht, t1, M1, rfl, ht1, hM⟩ := e2
  have hr : refF sale2 (t :: t1 :: M1) = .error 6 := by
    rw [refF_open (tok_yes ht) (by unfold isM; rw [ht1.1]; rfl)]
    unfold refGo
    rw [if_neg (by rw [ht1.1]; exact fun h => h rfl), if_pos (by rw [ht1.2.1]; decide +kernel)]
  have hs := scan_ref sale2 (t :: t1 :: M1) hz
  rw [hr] at hs
  obtain ⟨_, hs1, _⟩ := hs
  have hacc : accB (t :: t1 :: M1) 0 ⟨#[123]⟩ := (accB_cons _ _ _).2 (tok_yes ht)
  have hk : (peekT (t :: t1 :: M1) 0).kind = 3 := ht.1
  have ho : opT (t :: t1 :: M1) 0 = 1 := by unfold opT; rw [if_neg (by rw [hk]; decide)]
  have hoe : opE (t :: t1 :: M1) 0 = 0 := by unfold opE; rw [ho, if_neg (by decide)]
  have hop : openE (t :: t1 :: M1) 0 = 0 := by unfold openE; rw [hk, if_neg (by decide), if_pos hacc]
  have hp : (pricedF sale2 (t :: t1 :: M1) 0).e = 6 := by
    unfold pricedF pricedS
    rw [hop]
    dsimp only
    rw [hs1, (err_exp (by decide) _).1]
    exact amt_six _ _
  have hE : (exprF sale2 ((t :: t1 :: M1).length + 6 + 1) (t :: t1 :: M1) 0).e = 6 := by
    unfold exprF
    rw [if_pos ho, hoe]
    exact hp
  unfold parseE
  rw [if_neg (fun h => h hz), e1, if_neg (fun h => h rfl)]
  show endE (exprF sale2 ((t :: t1 :: M1).length + 6 + 1) (t :: t1 :: M1) 0).L (exprF sale2 ((t :: t1 :: M1).length + 6 + 1) (t :: t1 :: M1) 0).e = 6
  rw [hE]
  unfold endE
  rw [if_neg (by rintro ⟨h, _⟩; cases h)]
end Go.Proofs.YtjjlhihocllgjaaGreatDoor.Ex
