/- Plain: the text of a list of invoices. -/
import Derived.Test.YthehchdonmmpaaaGreatDoorStT
import Derived.Test.YthehchdonmmpaaaGreatDoorPs13
namespace Go.Proofs.YthehchdonmmpaaaGreatDoor.St
open Go.ChangeShapes Go.WideShapes Go.ChangeAt Go.RowKit Gn Cat Lex Pr Ros Fr
set_option linter.unusedVariables false
set_option linter.unusedSimpArgs false
abbrev sp1 : ByteArray := ⟨#[32]⟩
abbrev nl1 : ByteArray := ⟨#[10]⟩
abbrev tot1 : ByteArray := ⟨#[116, 111, 116, 97, 108, 32]⟩
def bidName (bs : List Bid) (i : Int) : ByteArray := (bs.getD i.toNat Bid.none).name
/-- a text with an invoice's line behind it, as the program puts it together -/
def stepI (ps : List Prod) (bs : List Bid) (t : ByteArray) (x : Inv) : ByteArray :=
  ((((t ++ ((bidName bs x.bidder ++ sp1) ++ fmtS x.want ps)) ++ (sp1 ++ decS x.reserve)) ++ (sp1 ++ decS x.net)) ++ (sp1 ++ decS x.due)) ++ nl1
/-- the text from here on -/
def fmtI (ps : List Prod) (bs : List Bid) (tot : Int) : List Inv → ByteArray → ByteArray
  | [], t => ((t ++ tot1) ++ decS tot) ++ nl1
  | x :: r, t => if invOk ps bs.length x = true then fmtI ps bs tot r (stepI ps bs t x) else ⟨#[]⟩
/-- what Format computes -/
def setFmt (ps : List Prod) (bs : List Bid) (vs : List Inv) : ByteArray := if checkE ps = 0 ∧ rosE bs = 0 then fmtI ps bs (dues vs).sum vs ⟨#[]⟩ else ⟨#[]⟩
theorem fmtI_drop {ps : List Prod} {bs : List Bid} {tot : Int} {vs : List Inv} {k : Nat} (h : k < vs.length) (t : ByteArray) : fmtI ps bs tot (vs.drop k) t = if invOk ps bs.length vs[k] = true then fmtI ps bs tot (vs.drop (k + 1)) (stepI ps bs t vs[k]) else ⟨#[]⟩ := by
  rw [List.drop_eq_getElem_cons h, fmtI]
theorem fmtI_end {ps : List Prod} {bs : List Bid} {tot : Int} {vs : List Inv} (t : ByteArray) : fmtI ps bs tot (vs.drop vs.length) t = ((t ++ tot1) ++ decS tot) ++ nl1 := by rw [List.drop_length, fmtI]
theorem setFmt_no {ps : List Prod} {bs : List Bid} {vs : List Inv} (h : ¬ (checkE ps = 0 ∧ rosE bs = 0)) : setFmt ps bs vs = ⟨#[]⟩ := if_neg h
theorem setFmt_yes {ps : List Prod} {bs : List Bid} {vs : List Inv} (h : checkE ps = 0 ∧ rosE bs = 0) : setFmt ps bs vs = fmtI ps bs (dues vs).sum vs ⟨#[]⟩ := if_pos h
/-- a valid invoice's parts -/
theorem invOk_parts {ps : List Prod} {nb : Nat} {x : Inv} (h : invOk ps nb x = true) : 0 ≤ x.bidder ∧ x.bidder < (nb : Int) ∧ rfitsB x.want ps = true ∧ I64 x.reserve ∧ I64 x.net ∧ I64 x.due := by
  unfold invOk at h
  simp only [Bool.and_eq_true, decide_eq_true_eq] at h
  obtain ⟨h1, h2, _, h4, h5, h6, h7, h8⟩ := h
  have hs := sum_range (b := x.want) (l := ps)
  unfold I64
  refine ⟨h1, h2, h4, ?_, ?_, ?_⟩ <;> omega
theorem name_size {bs : List Bid} (h : rosE bs = 0) {i : Int} (h0 : 0 ≤ i) (h1 : i < (bs.length : Int)) : (bidName bs i).size ≤ 12 := by
  have hk : i.toNat < bs.length := by omega
  have := (rosGo_all bs 0 (rosE_zero h).2.2 bs[i.toNat] (List.getElem_mem hk)).2
  unfold bidName
  rw [show bs.getD i.toNat Bid.none = bs[i.toNat] by simp [List.getD, hk]]
  exact nameOk_size this
theorem step_size {ps : List Prod} {bs : List Bid} {t : ByteArray} {x : Inv} {m : Nat} (hm : (bidName bs x.bidder).size ≤ 12) (hf : (fmtS x.want ps).size ≤ m) (hr : I64 x.reserve) (hn : I64 x.net) (hd : I64 x.due) : (stepI ps bs t x).size ≤ t.size + m + 100 := by
  have a := decS_size hr
  have b := decS_size hn
  have c := decS_size hd
  unfold stepI
  simp only [ByteArray.size_append]
  have e1 : sp1.size = 1 := rfl
  have e2 : nl1.size = 1 := rfl
  omega
end Go.Proofs.YthehchdonmmpaaaGreatDoor.St
