/- Plain: the examples of the chapter. The two listed variables of the rows of Event; the lift that hands over the world's shape too. Printed by gen_evL.py. The chapter's examples hold. Printed by gen_evb1.py. Opening an argument that is a slice of elements of several cells. Over any program. Opening an argument that is a list of products, or a bundle. -/
import Derived.Test.YtaikmgnpfbnjjaaGreatDoorPw00
import Derived.Test.YtaikmgnpfbnjjaaGreatDoorRows
import Derived.ProofKit
import Derived.Lay
import Derived.MakeChecks
import Derived.HandedShaped
import Derived.Test.YtaikmgnpfbnjjaaGreatDoorPw10
import Derived.Test.YtaikmgnpfbnjjaaGreatDoorPw11
import Derived.WalkKit
import Derived.OpenShut
import Derived.Lib.SmallJoins
import Derived.Deep.Slices
import Derived.Deep.Fields
import Derived.Test.YtaikmgnpfbnjjaaGreatDoorPv01
import Derived.Test.YtaikmgnpfbnjjaaGreatDoorPv04
namespace Go.Proofs.YtaikmgnpfbnjjaaGreatDoor.Ev
open Go.ChangeShapes Go.WideShapes Go.ChangeAt Go.RowKit Gn Cat Lex Ros Se
set_option linter.unusedVariables false
set_option linter.unusedSimpArgs false
def pA : Nat → Int := fun i => if i = 0 then 1 else 0
def saleS : SetD := ⟨[⟨⟨#[97]⟩, 2, 0, 0, 0⟩], [⟨⟨#[120]⟩, 0, 0, 0⟩], [], []⟩
abbrev exD : Evt := ⟨2, 1, 0, pA, ⟨#[]⟩, 0⟩
abbrev exW : ByteArray := ⟨#[2, 1, 1, 0, 0, 0, 0, 0]⟩
abbrev exText : ByteArray := ⟨#[112, 114, 111, 100, 117, 99, 116, 32, 97, 32, 49, 32, 48, 32, 49, 32, 48, 10, 98, 105, 100, 100, 101, 114, 32, 120, 32, 48, 32, 48, 32, 49, 10]⟩
abbrev exLine : ByteArray := ⟨#[115, 97, 108, 101, 32, 112, 114, 111, 100, 117, 99, 116, 32, 97, 32, 49, 32, 48, 32, 49, 32, 48, 59, 98, 105, 100, 100, 101, 114, 32, 120, 32, 48, 32, 48, 32, 49]⟩
theorem ex_enc : encodeV exD = (exW, 0) := by
  have h1 : checkV exD = 0 := by decide +kernel
  have h2 : codeB exD = exW := by decide +kernel
  unfold encodeV
  rw [h1, h2, if_neg (by simp)]
theorem ex_dec : (decodeV exW).2 = 0 ∧ (decodeV exW).1.bidder = 1 := by decide +kernel
theorem ex_p1 : (parseV saleS ⟨#[100, 101, 109, 97, 110, 100, 32, 120, 32, 123, 97, 58, 49, 125]⟩).2 = 0 ∧ evEq (parseV saleS ⟨#[100, 101, 109, 97, 110, 100, 32, 120, 32, 123, 97, 58, 49, 125]⟩).1 ⟨2, 0, 0, pA, ⟨#[]⟩, 0⟩ = true := by decide +kernel
theorem ex_p2 : (parseV saleS ⟨#[100, 101, 109, 97, 110, 100, 32, 121, 32, 123, 97, 58, 49, 125]⟩).2 = 6 := by decide +kernel
theorem ex_p3 : (parseV saleS ⟨#[100, 101, 109, 97, 110, 100, 32, 120]⟩).2 = 2 := by decide +kernel
theorem ex_fmt : formatV SetD.none ⟨1, 0, 0, zero6, exText, 0⟩ = exLine := by decide +kernel
theorem ex_p4 : (parseV SetD.none exLine).2 = 0 ∧ (parseV SetD.none exLine).1.text = exText := by decide +kernel
theorem ex_name : nameK 2 = ⟨#[100, 101, 109, 97, 110, 100]⟩ ∧ nameK 11 = ⟨#[]⟩ := by decide +kernel
theorem ex_check : checkV ⟨3, 0, 1, zero6, ⟨#[]⟩, 0⟩ = 2 := by decide +kernel
end Go.Proofs.YtaikmgnpfbnjjaaGreatDoor.Ev
namespace Go.Proofs.YtaikmgnpfbnjjaaGreatDoor.AmT2
open Go.ChangeShapes Go.WideShapes Go.ChangeAt Go.RowKit
abbrev laid2 : List (String × DataW Unit) := [("unicode/utf8.acceptRanges", Rows.laid_unicode_utf8_acceptRanges), ("unicode/utf8.first", Rows.laid_unicode_utf8_first)]
section
variable {H : Type} {enc : TypeId × Value → H}
theorem lift {a : Assume} {C : Checked} {os : Os} {f : FuncId} {fn : Func} {s : ChangeSpec} {conds : List PathCond} {apart fresh handsOn again : Bool} {X : World → Array Value → Prop}
    (hX : ∀ (w w' : World) (args : Array Value), w.heap = w'.heap → X w args → X w' args)
    (own : ownKnob C.prog.godebug = none) (started : os.Started) (noInit : C.prog.inits.idxOf? f = none) (hfn : C.prog.funcs[f]? = some fn)
    (witness : ∃ (w : World) (tape : Tape) (i : Input), w.os = os ∧ (w.forCall tape i).Shaped C.prog ∧ i.vars = [] ∧ Input.okWide C.prog (w.forCall tape i) .any w.heap.size f i ∧
      ((s.pre enc C.prog fn conds apart (w.forCall tape i).memory i.args ∧ X (w.forCall tape i).memory i.args) ∧ sizedMet enc C.prog fn (OpenSpec.ofChange s) apart (w.forCall tape i).memory i.args) ∧ a.holds C.prog (lone (Frame.enter C.prog f i.args .normal) [] (w.forCall tape i)))
    (contract : ∀ (W : World) (base : Nat) (args : Array Value) (ds gs : List (DataW H)) (before : List MemPlace),
      (∀ (j : Nat) t v, fn.params[j]? = some t → args[j]? = some v → Value.okWide C.prog W .any base t v) →
      DataW.Whole enc C.prog fn.params.toList s.vars apart W args.toList ds gs before →
      (DataW.weightsEach C.prog (fn.params.toList ++ s.plain.varTypes C.prog) (ds ++ gs)).all (· ≤ reachBytes) = true → X W args → W.ShapedOpen C.prog →
      Calls C.prog f args W fun e W' => ∃ v, e = .returned v ∧ s.post enc C.prog fn apart fresh handsOn again W args v W') :
    ReturnsInHanded a C os f .any (fun w args => (s.pre enc C.prog fn conds apart w args ∧ X w args) ∧ sizedMet enc C.prog fn (OpenSpec.ofChange s) apart w args) (s.post enc C.prog fn apart fresh handsOn again) := by
  refine returnsInHanded_of_calls own started noInit witness ?_
  intro w tape i _ hsh _ hok hpre _
  obtain ⟨_, _, _, fn', hfn', _, _, _, _, hval⟩ := hok
  have e : fn' = fn := Option.some.inj (hfn'.symm.trans hfn)
  subst e
  obtain ⟨⟨⟨ds, gs, before, hw, _⟩, hx⟩, hz⟩ := hpre
  have hw' := DataW.Whole.of_heap (w' := w.forCall tape i) (by rfl) hw
  refine (contract (w.forCall tape i) w.heap.size i.args ds gs before hval hw' (hz.weights hw) (hX _ _ _ (by rfl) hx) hsh).mono fun e W' ⟨v, he, hp⟩ => ?_
  subst he
  exact ChangeSpec.post_blind hp
end
end Go.Proofs.YtaikmgnpfbnjjaaGreatDoor.AmT2
namespace Go.Proofs.YtaikmgnpfbnjjaaGreatDoor.Ev
open Go.ChangeShapes Go.WideShapes Go.ChangeAt Go.RowKit Gn Cat Lex Ros Se
set_option linter.unusedVariables false
set_option linter.unusedSimpArgs false
theorem sl_blk {w : World} {g : Nat} {t : TypeId} {n st : Nat} {xs : List Value} (h : Blk w g t xs.toArray) (hn : xs.length = n * st) (hm : n ≤ maxLen) : Sl w st (.slice (some ⟨g, 0, none⟩) n n) n xs := by
  refine ⟨hn, _, _, rfl, Nat.le_refl _, hm, fun _ => ⟨g, 0, rfl, h.lt, fun j u hu => ?_⟩⟩
  rw [Nat.zero_add, h.cell j]
  simpa using hu
abbrev SaleW (w : World) (b1 b2 : Nat) : Prop := SetW w (.slice (some ⟨b1, 0, none⟩) 1 1) (.slice (some ⟨b2, 0, none⟩) 1 1) (.slice none 0 0) (.slice none 0 0) saleS
theorem sale_of {w : World} {b1 b2 : Nat} (h1 : Blk w b1 98 #[.string ⟨#[97]⟩, .int .i64 2, .int .i64 0, .int .i64 0, .int .i64 0]) (h2 : Blk w b2 67 #[.string ⟨#[120]⟩, .int .i64 0, .int .i64 0, .int .i64 0]) : SaleW w b1 b2 :=
  ⟨sl_blk h1 rfl (by decide), sl_blk h2 rfl (by decide), Sl.nil w 3, Sl.nil w 3, by decide, by decide, by decide, by decide, (fun p hp => by unfold maxLen; simp [saleS] at hp; subst hp; decide), fun p hp => by unfold maxLen; simp [saleS] at hp; subst hp; decide⟩
theorem none_of (w : World) : SetW w (.slice none 0 0) (.slice none 0 0) (.slice none 0 0) (.slice none 0 0) SetD.none :=
  ⟨Sl.nil w 5, Sl.nil w 4, Sl.nil w 3, Sl.nil w 3, by decide, by decide, by decide, by decide, (fun p hp => by simp [SetD.none] at hp), fun p hp => by simp [SetD.none] at hp⟩
theorem val_of {e : Evt} {k b r p0 : Int} {t : ByteArray} {d : Nat} (h : e.kind = k ∧ e.bidder = b ∧ e.round = r ∧ e.want 0 = p0 ∧ e.want 1 = 0 ∧ e.want 2 = 0 ∧ e.want 3 = 0 ∧ e.want 4 = 0 ∧ e.want 5 = 0 ∧ e.text = t ∧ e.digest = d) : e.val = .agg #[.int .i64 k, .int .i64 b, .int .i64 r, .int .i64 p0, .int .i64 0, .int .i64 0, .int .i64 0, .int .i64 0, .int .i64 0, .string t, .int .u64 (d : Int)] := by
  obtain ⟨h1, h2, h3, h4, h5, h6, h7, h8, h9, h10, h11⟩ := h
  unfold Evt.val
  rw [h1, h2, h3, h4, h5, h6, h7, h8, h9, h10, h11]
theorem x_dec : (decodeV exW).2 = 0 ∧ ((decodeV exW).1.kind = 2 ∧ (decodeV exW).1.bidder = 1 ∧ (decodeV exW).1.round = 0 ∧ (decodeV exW).1.want 0 = 1 ∧ (decodeV exW).1.want 1 = 0 ∧ (decodeV exW).1.want 2 = 0 ∧ (decodeV exW).1.want 3 = 0 ∧ (decodeV exW).1.want 4 = 0 ∧ (decodeV exW).1.want 5 = 0 ∧ (decodeV exW).1.text = ⟨#[]⟩ ∧ (decodeV exW).1.digest = 0) := by decide +kernel
theorem x_p1 : (parseV saleS ⟨#[100, 101, 109, 97, 110, 100, 32, 120, 32, 123, 97, 58, 49, 125]⟩).2 = 0 ∧ ((parseV saleS ⟨#[100, 101, 109, 97, 110, 100, 32, 120, 32, 123, 97, 58, 49, 125]⟩).1.kind = 2 ∧ (parseV saleS ⟨#[100, 101, 109, 97, 110, 100, 32, 120, 32, 123, 97, 58, 49, 125]⟩).1.bidder = 0 ∧ (parseV saleS ⟨#[100, 101, 109, 97, 110, 100, 32, 120, 32, 123, 97, 58, 49, 125]⟩).1.round = 0 ∧ (parseV saleS ⟨#[100, 101, 109, 97, 110, 100, 32, 120, 32, 123, 97, 58, 49, 125]⟩).1.want 0 = 1 ∧ (parseV saleS ⟨#[100, 101, 109, 97, 110, 100, 32, 120, 32, 123, 97, 58, 49, 125]⟩).1.want 1 = 0 ∧ (parseV saleS ⟨#[100, 101, 109, 97, 110, 100, 32, 120, 32, 123, 97, 58, 49, 125]⟩).1.want 2 = 0 ∧ (parseV saleS ⟨#[100, 101, 109, 97, 110, 100, 32, 120, 32, 123, 97, 58, 49, 125]⟩).1.want 3 = 0 ∧ (parseV saleS ⟨#[100, 101, 109, 97, 110, 100, 32, 120, 32, 123, 97, 58, 49, 125]⟩).1.want 4 = 0 ∧ (parseV saleS ⟨#[100, 101, 109, 97, 110, 100, 32, 120, 32, 123, 97, 58, 49, 125]⟩).1.want 5 = 0 ∧ (parseV saleS ⟨#[100, 101, 109, 97, 110, 100, 32, 120, 32, 123, 97, 58, 49, 125]⟩).1.text = ⟨#[]⟩ ∧ (parseV saleS ⟨#[100, 101, 109, 97, 110, 100, 32, 120, 32, 123, 97, 58, 49, 125]⟩).1.digest = 0) := by decide +kernel
theorem x_p2 : (parseV saleS ⟨#[100, 101, 109, 97, 110, 100, 32, 121, 32, 123, 97, 58, 49, 125]⟩).2 = 6 ∧ ((parseV saleS ⟨#[100, 101, 109, 97, 110, 100, 32, 121, 32, 123, 97, 58, 49, 125]⟩).1.kind = 0 ∧ (parseV saleS ⟨#[100, 101, 109, 97, 110, 100, 32, 121, 32, 123, 97, 58, 49, 125]⟩).1.bidder = 0 ∧ (parseV saleS ⟨#[100, 101, 109, 97, 110, 100, 32, 121, 32, 123, 97, 58, 49, 125]⟩).1.round = 0 ∧ (parseV saleS ⟨#[100, 101, 109, 97, 110, 100, 32, 121, 32, 123, 97, 58, 49, 125]⟩).1.want 0 = 0 ∧ (parseV saleS ⟨#[100, 101, 109, 97, 110, 100, 32, 121, 32, 123, 97, 58, 49, 125]⟩).1.want 1 = 0 ∧ (parseV saleS ⟨#[100, 101, 109, 97, 110, 100, 32, 121, 32, 123, 97, 58, 49, 125]⟩).1.want 2 = 0 ∧ (parseV saleS ⟨#[100, 101, 109, 97, 110, 100, 32, 121, 32, 123, 97, 58, 49, 125]⟩).1.want 3 = 0 ∧ (parseV saleS ⟨#[100, 101, 109, 97, 110, 100, 32, 121, 32, 123, 97, 58, 49, 125]⟩).1.want 4 = 0 ∧ (parseV saleS ⟨#[100, 101, 109, 97, 110, 100, 32, 121, 32, 123, 97, 58, 49, 125]⟩).1.want 5 = 0 ∧ (parseV saleS ⟨#[100, 101, 109, 97, 110, 100, 32, 121, 32, 123, 97, 58, 49, 125]⟩).1.text = ⟨#[]⟩ ∧ (parseV saleS ⟨#[100, 101, 109, 97, 110, 100, 32, 121, 32, 123, 97, 58, 49, 125]⟩).1.digest = 0) := by decide +kernel
theorem x_p3 : (parseV saleS ⟨#[100, 101, 109, 97, 110, 100, 32, 120]⟩).2 = 2 ∧ ((parseV saleS ⟨#[100, 101, 109, 97, 110, 100, 32, 120]⟩).1.kind = 0 ∧ (parseV saleS ⟨#[100, 101, 109, 97, 110, 100, 32, 120]⟩).1.bidder = 0 ∧ (parseV saleS ⟨#[100, 101, 109, 97, 110, 100, 32, 120]⟩).1.round = 0 ∧ (parseV saleS ⟨#[100, 101, 109, 97, 110, 100, 32, 120]⟩).1.want 0 = 0 ∧ (parseV saleS ⟨#[100, 101, 109, 97, 110, 100, 32, 120]⟩).1.want 1 = 0 ∧ (parseV saleS ⟨#[100, 101, 109, 97, 110, 100, 32, 120]⟩).1.want 2 = 0 ∧ (parseV saleS ⟨#[100, 101, 109, 97, 110, 100, 32, 120]⟩).1.want 3 = 0 ∧ (parseV saleS ⟨#[100, 101, 109, 97, 110, 100, 32, 120]⟩).1.want 4 = 0 ∧ (parseV saleS ⟨#[100, 101, 109, 97, 110, 100, 32, 120]⟩).1.want 5 = 0 ∧ (parseV saleS ⟨#[100, 101, 109, 97, 110, 100, 32, 120]⟩).1.text = ⟨#[]⟩ ∧ (parseV saleS ⟨#[100, 101, 109, 97, 110, 100, 32, 120]⟩).1.digest = 0) := by decide +kernel
theorem x_p4 : (parseV SetD.none ⟨#[115, 97, 108, 101, 32, 112, 114, 111, 100, 117, 99, 116, 32, 97, 32, 49, 32, 48, 32, 49, 32, 48, 59, 98, 105, 100, 100, 101, 114, 32, 120, 32, 48, 32, 48, 32, 49]⟩).2 = 0 ∧ ((parseV SetD.none ⟨#[115, 97, 108, 101, 32, 112, 114, 111, 100, 117, 99, 116, 32, 97, 32, 49, 32, 48, 32, 49, 32, 48, 59, 98, 105, 100, 100, 101, 114, 32, 120, 32, 48, 32, 48, 32, 49]⟩).1.kind = 1 ∧ (parseV SetD.none ⟨#[115, 97, 108, 101, 32, 112, 114, 111, 100, 117, 99, 116, 32, 97, 32, 49, 32, 48, 32, 49, 32, 48, 59, 98, 105, 100, 100, 101, 114, 32, 120, 32, 48, 32, 48, 32, 49]⟩).1.bidder = 0 ∧ (parseV SetD.none ⟨#[115, 97, 108, 101, 32, 112, 114, 111, 100, 117, 99, 116, 32, 97, 32, 49, 32, 48, 32, 49, 32, 48, 59, 98, 105, 100, 100, 101, 114, 32, 120, 32, 48, 32, 48, 32, 49]⟩).1.round = 0 ∧ (parseV SetD.none ⟨#[115, 97, 108, 101, 32, 112, 114, 111, 100, 117, 99, 116, 32, 97, 32, 49, 32, 48, 32, 49, 32, 48, 59, 98, 105, 100, 100, 101, 114, 32, 120, 32, 48, 32, 48, 32, 49]⟩).1.want 0 = 0 ∧ (parseV SetD.none ⟨#[115, 97, 108, 101, 32, 112, 114, 111, 100, 117, 99, 116, 32, 97, 32, 49, 32, 48, 32, 49, 32, 48, 59, 98, 105, 100, 100, 101, 114, 32, 120, 32, 48, 32, 48, 32, 49]⟩).1.want 1 = 0 ∧ (parseV SetD.none ⟨#[115, 97, 108, 101, 32, 112, 114, 111, 100, 117, 99, 116, 32, 97, 32, 49, 32, 48, 32, 49, 32, 48, 59, 98, 105, 100, 100, 101, 114, 32, 120, 32, 48, 32, 48, 32, 49]⟩).1.want 2 = 0 ∧ (parseV SetD.none ⟨#[115, 97, 108, 101, 32, 112, 114, 111, 100, 117, 99, 116, 32, 97, 32, 49, 32, 48, 32, 49, 32, 48, 59, 98, 105, 100, 100, 101, 114, 32, 120, 32, 48, 32, 48, 32, 49]⟩).1.want 3 = 0 ∧ (parseV SetD.none ⟨#[115, 97, 108, 101, 32, 112, 114, 111, 100, 117, 99, 116, 32, 97, 32, 49, 32, 48, 32, 49, 32, 48, 59, 98, 105, 100, 100, 101, 114, 32, 120, 32, 48, 32, 48, 32, 49]⟩).1.want 4 = 0 ∧ (parseV SetD.none ⟨#[115, 97, 108, 101, 32, 112, 114, 111, 100, 117, 99, 116, 32, 97, 32, 49, 32, 48, 32, 49, 32, 48, 59, 98, 105, 100, 100, 101, 114, 32, 120, 32, 48, 32, 48, 32, 49]⟩).1.want 5 = 0 ∧ (parseV SetD.none ⟨#[115, 97, 108, 101, 32, 112, 114, 111, 100, 117, 99, 116, 32, 97, 32, 49, 32, 48, 32, 49, 32, 48, 59, 98, 105, 100, 100, 101, 114, 32, 120, 32, 48, 32, 48, 32, 49]⟩).1.text = ⟨#[112, 114, 111, 100, 117, 99, 116, 32, 97, 32, 49, 32, 48, 32, 49, 32, 48, 10, 98, 105, 100, 100, 101, 114, 32, 120, 32, 48, 32, 48, 32, 49, 10]⟩ ∧ (parseV SetD.none ⟨#[115, 97, 108, 101, 32, 112, 114, 111, 100, 117, 99, 116, 32, 97, 32, 49, 32, 48, 32, 49, 32, 48, 59, 98, 105, 100, 100, 101, 114, 32, 120, 32, 48, 32, 48, 32, 49]⟩).1.digest = 0) := by decide +kernel
theorem e_enc (w : World) : Calls Tryz.prog 14 #[.agg #[.int .i64 2, .int .i64 1, .int .i64 0, .int .i64 1, .int .i64 0, .int .i64 0, .int .i64 0, .int .i64 0, .int .i64 0, .string ⟨#[]⟩, .int .u64 0]] w fun x w' => x = .returned (.tuple #[.string exW, .int .i64 0]) ∧ Below w.heap.size w w' := by
  have h := encode_any exD w (Nat.zero_le _) (by decide)
  rw [ex_enc] at h
  exact h
theorem e_dec (w : World) : Calls Tryz.prog 16 #[.string exW] w fun x w' => x = .returned (.tuple #[.agg #[.int .i64 2, .int .i64 1, .int .i64 0, .int .i64 1, .int .i64 0, .int .i64 0, .int .i64 0, .int .i64 0, .int .i64 0, .string ⟨#[]⟩, .int .u64 0], .int .i64 0]) ∧ Below w.heap.size w w' := by
  have h := decode_any exW w (by decide)
  unfold DecPost at h
  rw [val_of x_dec.2, x_dec.1] at h
  exact h
theorem e_p1 (w : World) (b1 b2 : Nat) (hs : SaleW w b1 b2) (hsh : Sh w) : Calls Tryz.prog 21 #[.agg #[.slice (some ⟨b1, 0, none⟩) 1 1, .slice (some ⟨b2, 0, none⟩) 1 1, .slice none 0 0, .slice none 0 0], .string ⟨#[100, 101, 109, 97, 110, 100, 32, 120, 32, 123, 97, 58, 49, 125]⟩] w fun x w' => x = .returned (.tuple #[.agg #[.int .i64 2, .int .i64 0, .int .i64 0, .int .i64 1, .int .i64 0, .int .i64 0, .int .i64 0, .int .i64 0, .int .i64 0, .string ⟨#[]⟩, .int .u64 0], .int .i64 0]) ∧ Below w.heap.size w w' := by
  have h := parse_any saleS ⟨#[100, 101, 109, 97, 110, 100, 32, 120, 32, 123, 97, 58, 49, 125]⟩ _ _ _ _ w hs hsh (by decide)
  unfold ParseP at h
  rw [val_of x_p1.2, x_p1.1] at h
  exact h
theorem e_p2 (w : World) (b1 b2 : Nat) (hs : SaleW w b1 b2) (hsh : Sh w) : Calls Tryz.prog 21 #[.agg #[.slice (some ⟨b1, 0, none⟩) 1 1, .slice (some ⟨b2, 0, none⟩) 1 1, .slice none 0 0, .slice none 0 0], .string ⟨#[100, 101, 109, 97, 110, 100, 32, 121, 32, 123, 97, 58, 49, 125]⟩] w fun x w' => x = .returned (.tuple #[.agg #[.int .i64 0, .int .i64 0, .int .i64 0, .int .i64 0, .int .i64 0, .int .i64 0, .int .i64 0, .int .i64 0, .int .i64 0, .string ⟨#[]⟩, .int .u64 0], .int .i64 6]) ∧ Below w.heap.size w w' := by
  have h := parse_any saleS ⟨#[100, 101, 109, 97, 110, 100, 32, 121, 32, 123, 97, 58, 49, 125]⟩ _ _ _ _ w hs hsh (by decide)
  unfold ParseP at h
  rw [val_of x_p2.2, x_p2.1] at h
  exact h
theorem e_p3 (w : World) (b1 b2 : Nat) (hs : SaleW w b1 b2) (hsh : Sh w) : Calls Tryz.prog 21 #[.agg #[.slice (some ⟨b1, 0, none⟩) 1 1, .slice (some ⟨b2, 0, none⟩) 1 1, .slice none 0 0, .slice none 0 0], .string ⟨#[100, 101, 109, 97, 110, 100, 32, 120]⟩] w fun x w' => x = .returned (.tuple #[.agg #[.int .i64 0, .int .i64 0, .int .i64 0, .int .i64 0, .int .i64 0, .int .i64 0, .int .i64 0, .int .i64 0, .int .i64 0, .string ⟨#[]⟩, .int .u64 0], .int .i64 2]) ∧ Below w.heap.size w w' := by
  have h := parse_any saleS ⟨#[100, 101, 109, 97, 110, 100, 32, 120]⟩ _ _ _ _ w hs hsh (by decide)
  unfold ParseP at h
  rw [val_of x_p3.2, x_p3.1] at h
  exact h
theorem e_p4 (w : World) (hsh : Sh w) : Calls Tryz.prog 21 #[.agg #[.slice none 0 0, .slice none 0 0, .slice none 0 0, .slice none 0 0], .string ⟨#[115, 97, 108, 101, 32, 112, 114, 111, 100, 117, 99, 116, 32, 97, 32, 49, 32, 48, 32, 49, 32, 48, 59, 98, 105, 100, 100, 101, 114, 32, 120, 32, 48, 32, 48, 32, 49]⟩] w fun x w' => x = .returned (.tuple #[.agg #[.int .i64 1, .int .i64 0, .int .i64 0, .int .i64 0, .int .i64 0, .int .i64 0, .int .i64 0, .int .i64 0, .int .i64 0, .string ⟨#[112, 114, 111, 100, 117, 99, 116, 32, 97, 32, 49, 32, 48, 32, 49, 32, 48, 10, 98, 105, 100, 100, 101, 114, 32, 120, 32, 48, 32, 48, 32, 49, 10]⟩, .int .u64 0], .int .i64 0]) ∧ Below w.heap.size w w' := by
  have h := parse_any SetD.none ⟨#[115, 97, 108, 101, 32, 112, 114, 111, 100, 117, 99, 116, 32, 97, 32, 49, 32, 48, 32, 49, 32, 48, 59, 98, 105, 100, 100, 101, 114, 32, 120, 32, 48, 32, 48, 32, 49]⟩ _ _ _ _ w (none_of w) hsh (by decide)
  unfold ParseP at h
  rw [val_of x_p4.2, x_p4.1] at h
  exact h
theorem e_fmt (w : World) (hsh : Sh w) : Calls Tryz.prog 19 #[.agg #[.slice none 0 0, .slice none 0 0, .slice none 0 0, .slice none 0 0], .agg #[.int .i64 1, .int .i64 0, .int .i64 0, .int .i64 0, .int .i64 0, .int .i64 0, .int .i64 0, .int .i64 0, .int .i64 0, .string ⟨#[112, 114, 111, 100, 117, 99, 116, 32, 97, 32, 49, 32, 48, 32, 49, 32, 48, 10, 98, 105, 100, 100, 101, 114, 32, 120, 32, 48, 32, 48, 32, 49, 10]⟩, .int .u64 0]] w (StrPost ⟨#[115, 97, 108, 101, 32, 112, 114, 111, 100, 117, 99, 116, 32, 97, 32, 49, 32, 48, 32, 49, 32, 48, 59, 98, 105, 100, 100, 101, 114, 32, 120, 32, 48, 32, 48, 32, 49]⟩ w) := by
  have h := format_any SetD.none ⟨1, 0, 0, zero6, exText, 0⟩ _ _ _ _ w (none_of w) hsh (by decide) (by decide)
  rw [ex_fmt] at h
  exact h
theorem e_n2 (w : World) : Calls Tryz.prog 11 #[.int .i64 2] w (StrPost ⟨#[100, 101, 109, 97, 110, 100]⟩ w) := by
  have h := name_any 2 w
  rw [ex_name.1] at h
  exact h
theorem e_n11 (w : World) : Calls Tryz.prog 11 #[.int .i64 11] w (StrPost ⟨#[]⟩ w) := by
  have h := name_any 11 w
  rw [ex_name.2] at h
  exact h
theorem e_chk (w : World) : Calls Tryz.prog 9 #[.agg #[.int .i64 3, .int .i64 0, .int .i64 1, .int .i64 0, .int .i64 0, .int .i64 0, .int .i64 0, .int .i64 0, .int .i64 0, .string ⟨#[]⟩, .int .u64 0]] w (ErrPost 2 w) := by
  have h := check_any ⟨3, 0, 1, zero6, ⟨#[]⟩, 0⟩ w (Nat.zero_le _) (by decide)
  rw [ex_check] at h
  exact h
theorem blk_second (w : World) (x z : Obj) (t : TypeId) (cs : Array Value) : Blk (((w.alloc x).alloc (.cells cs t)).alloc z) (w.heap.size + 1) t cs := by
  have h := Blk.new (w.alloc x) t cs
  rw [World.size_alloc] at h
  exact h.alloc _
set_option maxRecDepth 100000 in
theorem sale_any (w : World) : Calls Tryz.prog 31 #[] w fun x w' => ∃ b1 b2, x = .returned (.agg #[.slice (some ⟨b1, 0, none⟩) 1 1, .slice (some ⟨b2, 0, none⟩) 1 1, .slice none 0 0, .slice none 0 0]) ∧ SaleW w' b1 b2 ∧ Below w.heap.size w w' := by
  go_enter Tryz.func31, Tryz.ntmps31
  go_wp2_with fail
  exact bodyPost_ret (v := .agg #[.slice (some ⟨w.heap.size + 1, 0, none⟩) 1 1, .slice (some ⟨w.heap.size + 1 + 1, 0, none⟩) 1 1, .slice none 0 0, .slice none 0 0]) (results_blk rfl rfl (((Blk.new w 42 _).alloc _).alloc _) Tryz.underlying42 rfl (by kernel_rfl)) rfl ⟨_, _, rfl, sale_of (blk_second _ _ _ _ _) (blk_third _ _ _ _ _), below_three _ _ _ _⟩
set_option maxHeartbeats 8000000 in
set_option maxRecDepth 100000 in
theorem awake_any (w : World) (hsh : Sh w) : Calls Tryz.prog 13 #[] w fun e w' => e = .returned (.bool true) ∧ Below w.heap.size w w' := by
  have HSH := Lib.hid (fun W (b : Below w.heap.size w W) => sh_keep hsh b)
  have B0 := Lib.hid (Below.refl w.heap.size w)
  clear hsh
  go_enter Tryz.func13, Tryz.ntmps13
  go_wp2_with fail
  refine (e_enc _).mono ?_
  rintro x w1 ⟨rfl, d⟩
  have B1 := Lib.hid (chain0 B0.out d)
  clear d B0 
  go_wp2_with fail
  refine (e_dec _).mono ?_
  rintro x w2 ⟨rfl, d⟩
  have B2 := Lib.hid (chain0 B1.out d)
  clear d B1 
  have KA_3 := Lib.hid (Blk.new w2 26 #[.int .i64 2, .int .i64 1, .int .i64 0, .int .i64 1, .int .i64 0, .int .i64 0, .int .i64 0, .int .i64 0, .int .i64 0, .string ⟨#[]⟩, .int .u64 0])
  have B3 := Lib.hid (B2.out.alloc B2.out.size (.cells #[.int .i64 2, .int .i64 1, .int .i64 0, .int .i64 1, .int .i64 0, .int .i64 0, .int .i64 0, .int .i64 0, .int .i64 0, .string ⟨#[]⟩, .int .u64 0] 26))
  go_wp2_with fail
  generalize w2.alloc (.cells #[.int .i64 2, .int .i64 1, .int .i64 0, .int .i64 1, .int .i64 0, .int .i64 0, .int .i64 0, .int .i64 0, .int .i64 0, .string ⟨#[]⟩, .int .u64 0] 26) = w3 at *
  generalize w2.heap.size = ga at *
  clear B2 
  refine (sale_any _).mono ?_
  rintro x w4 ⟨b1, b2, rfl, sw, d⟩
  have B4 := Lib.hid (chain0 B3.out d)
  have KA_4 := Lib.hid (KA_3.out.below' d)
  have SW := Lib.hid sw
  clear sw d B3 KA_3
  go_wp2_with fail
  refine (e_p1 _ _ _ SW.out (HSH.out _ B4.out)).mono ?_
  rintro x w5 ⟨rfl, d⟩
  have B5 := Lib.hid (chain0 B4.out d)
  have KA_5 := Lib.hid (KA_4.out.below' d)
  clear SW d B4 KA_4
  have KB_6 := Lib.hid (Blk.new w5 26 #[.int .i64 2, .int .i64 0, .int .i64 0, .int .i64 1, .int .i64 0, .int .i64 0, .int .i64 0, .int .i64 0, .int .i64 0, .string ⟨#[]⟩, .int .u64 0])
  have B6 := Lib.hid (B5.out.alloc B5.out.size (.cells #[.int .i64 2, .int .i64 0, .int .i64 0, .int .i64 1, .int .i64 0, .int .i64 0, .int .i64 0, .int .i64 0, .int .i64 0, .string ⟨#[]⟩, .int .u64 0] 26))
  have KA_6 := Lib.hid (KA_5.out.alloc (.cells #[.int .i64 2, .int .i64 0, .int .i64 0, .int .i64 1, .int .i64 0, .int .i64 0, .int .i64 0, .int .i64 0, .int .i64 0, .string ⟨#[]⟩, .int .u64 0] 26))
  go_wp2_with fail
  generalize w5.alloc (.cells #[.int .i64 2, .int .i64 0, .int .i64 0, .int .i64 1, .int .i64 0, .int .i64 0, .int .i64 0, .int .i64 0, .int .i64 0, .string ⟨#[]⟩, .int .u64 0] 26) = w6 at *
  generalize w5.heap.size = gb at *
  clear B5 KA_5
  refine (sale_any _).mono ?_
  rintro x w7 ⟨b1, b2, rfl, sw, d⟩
  have B7 := Lib.hid (chain0 B6.out d)
  have KA_7 := Lib.hid (KA_6.out.below' d)
  have KB_7 := Lib.hid (KB_6.out.below' d)
  have SW := Lib.hid sw
  clear sw d B6 KA_6 KB_6
  go_wp2_with fail
  refine (e_p2 _ _ _ SW.out (HSH.out _ B7.out)).mono ?_
  rintro x w8 ⟨rfl, d⟩
  have B8 := Lib.hid (chain0 B7.out d)
  have KA_8 := Lib.hid (KA_7.out.below' d)
  have KB_8 := Lib.hid (KB_7.out.below' d)
  clear SW d B7 KA_7 KB_7
  have KC_9 := Lib.hid (Blk.new w8 26 #[.int .i64 0, .int .i64 0, .int .i64 0, .int .i64 0, .int .i64 0, .int .i64 0, .int .i64 0, .int .i64 0, .int .i64 0, .string ⟨#[]⟩, .int .u64 0])
  have B9 := Lib.hid (B8.out.alloc B8.out.size (.cells #[.int .i64 0, .int .i64 0, .int .i64 0, .int .i64 0, .int .i64 0, .int .i64 0, .int .i64 0, .int .i64 0, .int .i64 0, .string ⟨#[]⟩, .int .u64 0] 26))
  have KA_9 := Lib.hid (KA_8.out.alloc (.cells #[.int .i64 0, .int .i64 0, .int .i64 0, .int .i64 0, .int .i64 0, .int .i64 0, .int .i64 0, .int .i64 0, .int .i64 0, .string ⟨#[]⟩, .int .u64 0] 26))
  have KB_9 := Lib.hid (KB_8.out.alloc (.cells #[.int .i64 0, .int .i64 0, .int .i64 0, .int .i64 0, .int .i64 0, .int .i64 0, .int .i64 0, .int .i64 0, .int .i64 0, .string ⟨#[]⟩, .int .u64 0] 26))
  go_wp2_with fail
  generalize w8.alloc (.cells #[.int .i64 0, .int .i64 0, .int .i64 0, .int .i64 0, .int .i64 0, .int .i64 0, .int .i64 0, .int .i64 0, .int .i64 0, .string ⟨#[]⟩, .int .u64 0] 26) = w9 at *
  generalize w8.heap.size = gc at *
  clear B8 KA_8 KB_8
  refine (sale_any _).mono ?_
  rintro x w10 ⟨b1, b2, rfl, sw, d⟩
  have B10 := Lib.hid (chain0 B9.out d)
  have KA_10 := Lib.hid (KA_9.out.below' d)
  have KB_10 := Lib.hid (KB_9.out.below' d)
  have KC_10 := Lib.hid (KC_9.out.below' d)
  have SW := Lib.hid sw
  clear sw d B9 KA_9 KB_9 KC_9
  go_wp2_with fail
  refine (e_p3 _ _ _ SW.out (HSH.out _ B10.out)).mono ?_
  rintro x w11 ⟨rfl, d⟩
  have B11 := Lib.hid (chain0 B10.out d)
  have KA_11 := Lib.hid (KA_10.out.below' d)
  have KB_11 := Lib.hid (KB_10.out.below' d)
  have KC_11 := Lib.hid (KC_10.out.below' d)
  clear SW d B10 KA_10 KB_10 KC_10
  have KD_12 := Lib.hid (Blk.new w11 26 #[.int .i64 0, .int .i64 0, .int .i64 0, .int .i64 0, .int .i64 0, .int .i64 0, .int .i64 0, .int .i64 0, .int .i64 0, .string ⟨#[]⟩, .int .u64 0])
  have B12 := Lib.hid (B11.out.alloc B11.out.size (.cells #[.int .i64 0, .int .i64 0, .int .i64 0, .int .i64 0, .int .i64 0, .int .i64 0, .int .i64 0, .int .i64 0, .int .i64 0, .string ⟨#[]⟩, .int .u64 0] 26))
  have KA_12 := Lib.hid (KA_11.out.alloc (.cells #[.int .i64 0, .int .i64 0, .int .i64 0, .int .i64 0, .int .i64 0, .int .i64 0, .int .i64 0, .int .i64 0, .int .i64 0, .string ⟨#[]⟩, .int .u64 0] 26))
  have KB_12 := Lib.hid (KB_11.out.alloc (.cells #[.int .i64 0, .int .i64 0, .int .i64 0, .int .i64 0, .int .i64 0, .int .i64 0, .int .i64 0, .int .i64 0, .int .i64 0, .string ⟨#[]⟩, .int .u64 0] 26))
  have KC_12 := Lib.hid (KC_11.out.alloc (.cells #[.int .i64 0, .int .i64 0, .int .i64 0, .int .i64 0, .int .i64 0, .int .i64 0, .int .i64 0, .int .i64 0, .int .i64 0, .string ⟨#[]⟩, .int .u64 0] 26))
  go_wp2_with fail
  generalize w11.alloc (.cells #[.int .i64 0, .int .i64 0, .int .i64 0, .int .i64 0, .int .i64 0, .int .i64 0, .int .i64 0, .int .i64 0, .int .i64 0, .string ⟨#[]⟩, .int .u64 0] 26) = w12 at *
  generalize w11.heap.size = gd at *
  clear B11 KA_11 KB_11 KC_11
  refine (e_fmt _ (HSH.out _ B12.out)).mono ?_
  rintro x w13 ⟨rfl, d⟩
  have B13 := Lib.hid (chain0 B12.out d)
  have KA_13 := Lib.hid (KA_12.out.below' d)
  have KB_13 := Lib.hid (KB_12.out.below' d)
  have KC_13 := Lib.hid (KC_12.out.below' d)
  have KD_13 := Lib.hid (KD_12.out.below' d)
  clear d B12 KA_12 KB_12 KC_12 KD_12
  go_wp2_with fail
  refine (e_p4 _ (HSH.out _ B13.out)).mono ?_
  rintro x w14 ⟨rfl, d⟩
  have B14 := Lib.hid (chain0 B13.out d)
  have KA_14 := Lib.hid (KA_13.out.below' d)
  have KB_14 := Lib.hid (KB_13.out.below' d)
  have KC_14 := Lib.hid (KC_13.out.below' d)
  have KD_14 := Lib.hid (KD_13.out.below' d)
  clear d B13 KA_13 KB_13 KC_13 KD_13
  have KE_15 := Lib.hid (Blk.new w14 26 #[.int .i64 1, .int .i64 0, .int .i64 0, .int .i64 0, .int .i64 0, .int .i64 0, .int .i64 0, .int .i64 0, .int .i64 0, .string ⟨#[112, 114, 111, 100, 117, 99, 116, 32, 97, 32, 49, 32, 48, 32, 49, 32, 48, 10, 98, 105, 100, 100, 101, 114, 32, 120, 32, 48, 32, 48, 32, 49, 10]⟩, .int .u64 0])
  have B15 := Lib.hid (B14.out.alloc B14.out.size (.cells #[.int .i64 1, .int .i64 0, .int .i64 0, .int .i64 0, .int .i64 0, .int .i64 0, .int .i64 0, .int .i64 0, .int .i64 0, .string ⟨#[112, 114, 111, 100, 117, 99, 116, 32, 97, 32, 49, 32, 48, 32, 49, 32, 48, 10, 98, 105, 100, 100, 101, 114, 32, 120, 32, 48, 32, 48, 32, 49, 10]⟩, .int .u64 0] 26))
  have KA_15 := Lib.hid (KA_14.out.alloc (.cells #[.int .i64 1, .int .i64 0, .int .i64 0, .int .i64 0, .int .i64 0, .int .i64 0, .int .i64 0, .int .i64 0, .int .i64 0, .string ⟨#[112, 114, 111, 100, 117, 99, 116, 32, 97, 32, 49, 32, 48, 32, 49, 32, 48, 10, 98, 105, 100, 100, 101, 114, 32, 120, 32, 48, 32, 48, 32, 49, 10]⟩, .int .u64 0] 26))
  have KB_15 := Lib.hid (KB_14.out.alloc (.cells #[.int .i64 1, .int .i64 0, .int .i64 0, .int .i64 0, .int .i64 0, .int .i64 0, .int .i64 0, .int .i64 0, .int .i64 0, .string ⟨#[112, 114, 111, 100, 117, 99, 116, 32, 97, 32, 49, 32, 48, 32, 49, 32, 48, 10, 98, 105, 100, 100, 101, 114, 32, 120, 32, 48, 32, 48, 32, 49, 10]⟩, .int .u64 0] 26))
  have KC_15 := Lib.hid (KC_14.out.alloc (.cells #[.int .i64 1, .int .i64 0, .int .i64 0, .int .i64 0, .int .i64 0, .int .i64 0, .int .i64 0, .int .i64 0, .int .i64 0, .string ⟨#[112, 114, 111, 100, 117, 99, 116, 32, 97, 32, 49, 32, 48, 32, 49, 32, 48, 10, 98, 105, 100, 100, 101, 114, 32, 120, 32, 48, 32, 48, 32, 49, 10]⟩, .int .u64 0] 26))
  have KD_15 := Lib.hid (KD_14.out.alloc (.cells #[.int .i64 1, .int .i64 0, .int .i64 0, .int .i64 0, .int .i64 0, .int .i64 0, .int .i64 0, .int .i64 0, .int .i64 0, .string ⟨#[112, 114, 111, 100, 117, 99, 116, 32, 97, 32, 49, 32, 48, 32, 49, 32, 48, 10, 98, 105, 100, 100, 101, 114, 32, 120, 32, 48, 32, 48, 32, 49, 10]⟩, .int .u64 0] 26))
  go_upto_region 9 with fail
  generalize w14.alloc (.cells #[.int .i64 1, .int .i64 0, .int .i64 0, .int .i64 0, .int .i64 0, .int .i64 0, .int .i64 0, .int .i64 0, .int .i64 0, .string ⟨#[112, 114, 111, 100, 117, 99, 116, 32, 97, 32, 49, 32, 48, 32, 49, 32, 48, 10, 98, 105, 100, 100, 101, 114, 32, 120, 32, 48, 32, 48, 32, 49, 10]⟩, .int .u64 0] 26) = w15 at *
  generalize w14.heap.size = gx at *
  clear B14 KA_14 KB_14 KC_14 KD_14
  have ca := Blk11 KA_15.out
  have la := KA_15.out.lt
  have cb := Blk11 KB_15.out
  have lb := KB_15.out.lt
  have ce := Blk11 KE_15.out
  have le := KE_15.out.lt
  have qe : ∀ W, (Op.equalIn 10000 26 (.agg #[.int .i64 2, .int .i64 0, .int .i64 0, .int .i64 1, .int .i64 0, .int .i64 0, .int .i64 0, .int .i64 0, .int .i64 0, .string ⟨#[]⟩, .int .u64 0]) (.agg #[.int .i64 2, .int .i64 0, .int .i64 0, .int .i64 1, .int .i64 0, .int .i64 0, .int .i64 0, .int .i64 0, .int .i64 0, .string ⟨#[]⟩, .int .u64 0])).run Tryz.prog W = .ok true W := fun W => by
    have h := eq_evt ⟨2, 0, 0, pA, ⟨#[]⟩, 0⟩ ⟨2, 0, 0, pA, ⟨#[]⟩, 0⟩ W
    rw [evEq_refl] at h
    exact h
  go_wp2_with fail
  refine (e_n2 _).mono ?_
  rintro x w16 ⟨rfl, d⟩
  have B16 := Lib.hid (chain0 B15.out d)
  have KA_16 := Lib.hid (KA_15.out.below' d)
  have KB_16 := Lib.hid (KB_15.out.below' d)
  have KC_16 := Lib.hid (KC_15.out.below' d)
  have KD_16 := Lib.hid (KD_15.out.below' d)
  have KE_16 := Lib.hid (KE_15.out.below' d)
  clear d B15 KA_15 KB_15 KC_15 KD_15 KE_15
  go_wp2_with fail
  refine (e_n11 _).mono ?_
  rintro x w17 ⟨rfl, d⟩
  have B17 := Lib.hid (chain0 B16.out d)
  have KA_17 := Lib.hid (KA_16.out.below' d)
  have KB_17 := Lib.hid (KB_16.out.below' d)
  have KC_17 := Lib.hid (KC_16.out.below' d)
  have KD_17 := Lib.hid (KD_16.out.below' d)
  have KE_17 := Lib.hid (KE_16.out.below' d)
  clear d B16 KA_16 KB_16 KC_16 KD_16 KE_16
  go_wp2_with fail
  refine (e_chk _).mono ?_
  rintro x w18 ⟨rfl, d⟩
  have B18 := Lib.hid (chain0 B17.out d)
  have KA_18 := Lib.hid (KA_17.out.below' d)
  have KB_18 := Lib.hid (KB_17.out.below' d)
  have KC_18 := Lib.hid (KC_17.out.below' d)
  have KD_18 := Lib.hid (KD_17.out.below' d)
  have KE_18 := Lib.hid (KE_17.out.below' d)
  clear d B17 KA_17 KB_17 KC_17 KD_17 KE_17
  go_wp2_with fail
  go_ret
  exact ⟨rfl, B18.out⟩
end Go.Proofs.YtaikmgnpfbnjjaaGreatDoor.Ev
namespace Go.Proofs.YtaikmgnpfbnjjaaGreatDoor.OpenG
open Go.ChangeShapes Go.WideShapes Go.ChangeAt Go.RowKit Go.Joins Go.Deep
theorem list_of {T : Type} {R : Nat → T → Prop} : ∀ n : Nat, (∀ i, i < n → ∃ x : T, R i x) → ∃ L : List T, L.length = n ∧ ∀ i (h : i < L.length), R i L[i]
  | 0, _ => ⟨[], rfl, fun i h => by simp at h⟩
  | n + 1, h => by
    obtain ⟨L, hl, hL⟩ := list_of n (fun i hi => h i (by omega))
    obtain ⟨x, hx⟩ := h n (by omega)
    refine ⟨L ++ [x], by simp [hl], fun i hi => ?_⟩
    by_cases e : i < L.length
    · rw [List.getElem_append_left e]
      exact hL i e
    · obtain rfl : i = L.length := by simp at hi; omega
      rw [List.getElem_append_right (Nat.le_refl _)]
      simp only [Nat.sub_self, List.getElem_cons_zero]
      rw [hl]
      exact hx
/-- the cells of a list of elements of K cells each, one by one -/
theorem flat_at {T : Type} {K : Nat} {c : T → List Value} (hc : ∀ t, (c t).length = K) : ∀ (L : List T) (j : Nat) (u : Value), (L.flatMap c)[j]? = some u → ∃ i r, ∃ h : i < L.length, r < K ∧ j = i * K + r ∧ (c L[i])[r]? = some u
  | [], j, u, h => by simp at h
  | t :: L, j, u, h => by
    rw [List.flatMap_cons] at h
    by_cases hj : j < K
    · rw [List.getElem?_append_left (by rw [hc]; exact hj)] at h
      exact ⟨0, j, by simp, hj, by simp, h⟩
    · rw [List.getElem?_append_right (by rw [hc]; omega), hc] at h
      obtain ⟨i, r, hi, hr, e, hu⟩ := flat_at hc L (j - K) u h
      exact ⟨i + 1, r, by simpa using hi, hr, by rw [Nat.succ_mul]; omega, by simpa using hu⟩
section
variable {H : Type} {enc : TypeId × Value → H} {P : Program} {w : World} {base : Nat} {spare : Nat → Bool} {held : Bool}
/-- the cells of an element, at an address without a spot -/
theorem cells_at {a : Addr} {n : Nat} {cs : List Value} (hn : 0 < n) (h : w.cells? base a n = some cs) : a.spot = none ∧ cs.length = n ∧ ∀ j, j < n → w.cell? ⟨a.block, a.off + j, none⟩ = cs[j]? := by
  obtain ⟨_, hl, hc⟩ := World.cells?_some h
  have h0 := hc 0 hn
  have hs : a.spot = none := by
    have e : cs[0]? = some (cs[0]'(by omega)) := List.getElem?_eq_getElem (by omega)
    rw [e] at h0
    have := World.cell?_spot h0
    simpa [Addr.add] using this
  refine ⟨hs, hl, fun j hj => ?_⟩
  rw [← hc j hj]
  obtain ⟨b, o, s⟩ := a
  subst hs
  rw [OpenAdd.add_at]
/-- what a list of elements says of a slice's datum -/
def Elems {T : Type} (Q : T → DataW H → Prop) (L : List T) (d : DataW H) : Prop :=
  (L = [] ∧ d = .nil) ∨ ∃ el sp, d = .slice el sp ∧ el.length = L.length ∧ ∀ i (h : i < L.length) (h' : i < el.length), Q L[i] el[i]
theorem open_list {T : Type} (K : Nat) (c : T → List Value) (Q : T → DataW H → Prop) (hK : 0 < K) (hc : ∀ t, (c t).length = K) {r : Reach} {b0 : Nat} {t e : TypeId} {v : Value} {d : DataW H} {ps : List MemPlace} (ht : P.underlying t = some (.slice e)) (hC : P.cellsOf e = K)
    (dec : ∀ fuel cs y, DataW.trod enc P w base spare held fuel e cs = some y → ∃ x : T, cs = c x ∧ Q x y.1)
    (hv : Value.okWide P w r b0 t v) (h : DataW.Trod enc P w base spare held t v d ps) :
    ∃ (A : Option Addr) (cap : Nat) (L : List T), v = .slice A L.length cap ∧ L.length ≤ cap ∧ cap ≤ maxLen ∧
      (0 < L.length → ∃ b o, A = some ⟨b, o, none⟩ ∧ b < w.heap.size ∧ ∀ j u, (L.flatMap c)[j]? = some u → w.cell? ⟨b, o + j, none⟩ = some u) ∧ Elems Q L d := by
  obtain ⟨a, n, cap, rfl⟩ := okWide_slice ht hv
  obtain ⟨fuel, hf⟩ := h
  rcases open_slice ht hf with ⟨hcs, hx⟩ | ⟨x, l, cp, m, k, D, Pl, hcs, _, hl, hm, hmm, hx, hi⟩
  · simp [Value.cells] at hcs
    obtain ⟨rfl, rfl, rfl⟩ := hcs
    simp only [Prod.mk.injEq] at hx
    exact ⟨none, 0, [], rfl, Nat.le_refl _, by unfold maxLen; omega, fun h => absurd h (by simp), .inl ⟨rfl, hx.1⟩⟩
  · simp [Value.cells] at hcs
    obtain ⟨rfl, rfl, rfl⟩ := hcs
    simp only [Prod.mk.injEq] at hx
    have hstep : ∀ i, i < n → ∃ y : T, w.cells? base (x.add (i * K)) K = some (c y) ∧ Q y (D i) := fun i hin => by
      have him : i < m := by rw [hmm]; split <;> omega
      obtain ⟨cs', h1, h2⟩ := hi i him
      obtain ⟨y, rfl, hq⟩ := dec _ _ _ h2
      rw [hC] at h1
      exact ⟨y, h1, hq⟩
    obtain ⟨L, hlen, hL⟩ := list_of n hstep
    refine ⟨some x, cap, L, by rw [hlen], by rw [hlen]; exact hl, hm, fun hn => ?_, .inr ⟨_, _, hx.1, by simp [hlen], fun i h1 h2 => ?_⟩⟩
    · have hs : x.spot = none := by
        have := (cells_at hK (hL 0 hn).1).1
        simpa [Addr.add] using this
      obtain ⟨b, off, sp⟩ := x
      subst hs
      have hcell : ∀ i (hi : i < L.length) r, r < K → w.cell? ⟨b, off + i * K + r, none⟩ = (c L[i])[r]? := fun i hi r hr => by
        have h1 := (hL i hi).1
        rw [OpenAdd.add_at] at h1
        exact (cells_at hK h1).2.2 r hr
      have hfirst : ∃ u, w.cell? ⟨b, off + 0 * K + 0, none⟩ = some u := by
        rw [hcell 0 hn 0 hK]
        exact ⟨_, List.getElem?_eq_getElem (by rw [hc]; exact hK)⟩
      obtain ⟨u0, hu0⟩ := hfirst
      refine ⟨b, off, rfl, block_lt_of_cell hu0, fun j u hj => ?_⟩
      obtain ⟨i, r, hi, hr, e, hu⟩ := flat_at hc L j u hj
      rw [e, ← Nat.add_assoc, hcell i hi r hr]
      exact hu
    · have := (hL i h1).2
      simpa using this
/-- one field of a struct of one-cell fields -/
theorem field_at {fs : Array Field} {cs : List Value} {xs : List (DataW H × List MemPlace)} {n : Nat} (hone : oneCellFields P fs = true)
    (hf : ∀ (i : Nat) (f : Field), fs[i]? = some f → DataW.trod enc P w base spare held n f.type ((cs.drop f.offset).take (P.cellsOf f.type)) = xs[i]?) (j : Nat) (f : Field) (hj : fs[j]? = some f) (hl : j < cs.length) (hx : j < xs.length) :
    DataW.trod enc P w base spare held n f.type [cs[j]] = some xs[j] := by
  obtain ⟨ho, hk⟩ := hone_of hone j f hj
  have h1 := hf j f hj
  rw [ho, hk] at h1
  have e : (cs.drop j).take 1 = [cs[j]] := by
    rw [List.drop_eq_getElem_cons hl]
    rfl
  rw [e, List.getElem?_eq_getElem hx] at h1
  exact h1
end
end Go.Proofs.YtaikmgnpfbnjjaaGreatDoor.OpenG
namespace Go.Proofs.YtaikmgnpfbnjjaaGreatDoor.OpenC
open Go.ChangeShapes Go.WideShapes Go.ChangeAt Go.RowKit Go.Joins Go.Deep
open Cat
section
variable {H : Type} {enc : TypeId × Value → H} {w : World} {base : Nat} {spare : Nat → Bool} {held : Bool}
section
variable {P : Program}
theorem array6 {α : Type} {cs : Array α} (h : cs.size = 6) : ∃ c0 c1 c2 c3 c4 c5, cs = #[c0, c1, c2, c3, c4, c5] := by
  obtain ⟨l⟩ := cs
  match l, h with
  | [c0, c1, c2, c3, c4, c5], _ => exact ⟨c0, c1, c2, c3, c4, c5, rfl⟩
def sel6 (a b c d e f : Int) : Nat → Int
  | 0 => a
  | 1 => b
  | 2 => c
  | 3 => d
  | 4 => e
  | _ => f
theorem open_arr6 {r : Reach} {b0 : Nat} {t e : TypeId} {v : Value} {d : DataW H} {ps : List MemPlace} (ht : P.underlying t = some (.array 6 e)) (he : P.underlying e = some (.int .i64)) (hC : P.cellsOf t = 6) (hCe : P.cellsOf e = 1)
    (hv : Value.okWide P w r b0 t v) (h : DataW.Trod enc P w base spare held t v d ps) : ∃ p : Nat → Int, v = .agg (Cat.arr p) ∧ ∀ k, k < 6 → (Lit.int .i64 (p k)).wf = true := by
  have hcs : ∃ cs, v = .agg cs ∧ cs.size = P.cellsOf t := by
    simp only [Value.okWide, ht] at hv
    obtain ⟨cs, h1, h2, _⟩ := hv
    exact ⟨cs, h1, h2⟩
  obtain ⟨cs, rfl, hsz⟩ := hcs
  obtain ⟨c0, c1, c2, c3, c4, c5, rfl⟩ := array6 (hsz.trans hC)
  obtain ⟨fuel, hf⟩ := h
  obtain ⟨xs, m, _, _, _, hlen, hg⟩ := DataW.trod_array ht hf
  have step : ∀ i, i < 6 → ∃ n, ((([c0, c1, c2, c3, c4, c5] : List Value).drop (i * 1)).take 1) = [.int .i64 n] ∧ (Lit.int .i64 n).wf = true := by
    intro i hi
    have h1 := hg i hi
    rw [hCe] at h1
    have h2 : xs[i]? = some (xs[i]'(by omega)) := List.getElem?_eq_getElem (by omega)
    rw [h2] at h1
    obtain ⟨n, e1, _, wn⟩ := DataW.trod_int he h1
    exact ⟨n, by simpa [Value.cells] using e1, wn⟩
  obtain ⟨n0, e0, w0⟩ := step 0 (by omega)
  obtain ⟨n1, e1, w1⟩ := step 1 (by omega)
  obtain ⟨n2, e2, w2⟩ := step 2 (by omega)
  obtain ⟨n3, e3, w3⟩ := step 3 (by omega)
  obtain ⟨n4, e4, w4⟩ := step 4 (by omega)
  obtain ⟨n5, e5, w5⟩ := step 5 (by omega)
  simp at e0 e1 e2 e3 e4 e5
  subst e0 e1 e2 e3 e4 e5
  refine ⟨sel6 n0 n1 n2 n3 n4 n5, rfl, ?_⟩
  intro k hk
  obtain rfl | rfl | rfl | rfl | rfl | rfl : k = 0 ∨ k = 1 ∨ k = 2 ∨ k = 3 ∨ k = 4 ∨ k = 5 := by omega
  all_goals assumption
end
theorem prod_fields : ∃ f0 f1 f2 f3 f4 : Field, Tryz.prog.underlying 98 = some (.struct #[f0, f1, f2, f3, f4]) ∧ oneCellFields Tryz.prog #[f0, f1, f2, f3, f4] = true ∧ Tryz.prog.underlying f0.type = some .string ∧ Tryz.prog.underlying f1.type = some (.int .i64) ∧ Tryz.prog.underlying f2.type = some (.int .i64) ∧ Tryz.prog.underlying f3.type = some (.int .i64) ∧ Tryz.prog.underlying f4.type = some (.int .i64) :=
  ⟨_, _, _, _, _, Tryz.underlying98, by kernel_rfl, by kernel_rfl, by kernel_rfl, by kernel_rfl, by kernel_rfl, by kernel_rfl⟩
def ProdD (t : Prod) (_ : DataW H) : Prop := t.name.size ≤ maxLen
set_option maxRecDepth 100000 in
theorem dec_prod (fuel : Nat) (cs : List Value) (y : DataW H × List MemPlace) (h : DataW.trod enc Tryz.prog w base spare held fuel 98 cs = some y) : ∃ t : Prod, cs = t.cells ∧ ProdD t y.1 := by
  obtain ⟨f0, f1, f2, f3, f4, hs, hone, k0, k1, k2, k3, k4⟩ := prod_fields
  obtain ⟨xs, n, _, rfl, hl, hxl, hf⟩ := DataW.trod_struct hs h
  have hC : Tryz.prog.cellsOf 98 = 5 := by kernel_rfl
  rw [hC] at hl
  match cs, hl, xs, hxl, hf with
  | [c0, c1, c2, c3, c4], _, [x0, x1, x2, x3, x4], _, hf =>
    obtain ⟨s, e0, _, z1⟩ := DataW.trod_string k0 (OpenG.field_at hone hf 0 f0 rfl (by simp) (by simp))
    obtain ⟨a, e1, _, _⟩ := DataW.trod_int k1 (OpenG.field_at hone hf 1 f1 rfl (by simp) (by simp))
    obtain ⟨b, e2, _, _⟩ := DataW.trod_int k2 (OpenG.field_at hone hf 2 f2 rfl (by simp) (by simp))
    obtain ⟨c, e3, _, _⟩ := DataW.trod_int k3 (OpenG.field_at hone hf 3 f3 rfl (by simp) (by simp))
    obtain ⟨e, e4, _, _⟩ := DataW.trod_int k4 (OpenG.field_at hone hf 4 f4 rfl (by simp) (by simp))
    simp at e0 e1 e2 e3 e4
    subst e0 e1 e2 e3 e4
    exact ⟨⟨s, a, b, c, e⟩, rfl, z1⟩
theorem elems_all {T : Type} {p : T → Prop} {L : List T} {d : DataW H} (h : OpenG.Elems (fun t (_ : DataW H) => p t) L d) : ∀ t ∈ L, p t := by
  rcases h with ⟨rfl, _⟩ | ⟨el, sp, _, hl, hq⟩
  · intro t ht; cases ht
  · intro t ht
    obtain ⟨i, hi, rfl⟩ := List.getElem_of_mem ht
    exact hq i hi (by omega)
set_option maxRecDepth 100000 in
theorem open_prodL {r : Reach} {b0 : Nat} {v : Value} {d : DataW H} {ps : List MemPlace} (hv : Value.okWide Tryz.prog w r b0 37 v) (h : DataW.Trod enc Tryz.prog w base spare held 37 v d ps) :
    ∃ L : List Prod, PS w v L ∧ ∀ p ∈ L, p.name.size ≤ maxLen := by
  obtain ⟨A, cap, L, rfl, h1, h2, h3, h4⟩ := OpenG.open_list 5 Prod.cells ProdD (by decide) (fun _ => rfl) Tryz.underlying37 (by kernel_rfl) dec_prod hv h
  exact ⟨L, ⟨prodCells_len L, A, cap, rfl, h1, h2, h3⟩, elems_all h4⟩
end
end Go.Proofs.YtaikmgnpfbnjjaaGreatDoor.OpenC
