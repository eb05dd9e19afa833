/- Two invoices compared. -/
import Derived.Test.YthehchdonmmpaaaGreatDoorStT
import Derived.Laws.StructEq
namespace Go.Proofs.YthehchdonmmpaaaGreatDoor.St
open Go.ChangeShapes Go.WideShapes Go.ChangeAt Go.RowKit Gn Cat Lex Pr Ros Fr
set_option linter.unusedVariables false
set_option linter.unusedSimpArgs false
section
variable {P : Program} {w : World}
theorem run_part_arr {t e : TypeId} {n : Nat} {i : TypeInfo} (hu : P.underlying t = some (.array n e)) (hi : P.info? t = some i) (xs : Array Value) (off : Nat) : (part t xs off).run P w = .ok (.agg (xs.extract off (off + P.cellsOf t))) w := by
  simp [part, isAgg, run_underlying hu, run_sizeOf w hi]
theorem field_step {f : Field} {fs : List Field} {d : Nat} {xs ys : Array Value} {x y : Value} {r s : Bool} (hn : (f.name == "_") = false) (hx : (part f.type xs f.offset).run P w = .ok x w) (hy : (part f.type ys f.offset).run P w = .ok y w)
    (he : (Op.equalIn d f.type x y).run P w = .ok r w) (hr : (Op.eqFields d xs ys fs).run P w = .ok s w) : (Op.eqFields d xs ys (f :: fs)).run P w = .ok (r && s) w := by
  have hne : f.name ≠ "_" := by simpa using hn
  simp only [Op.eqFields]
  rw [if_pos hne]
  simp only [Sem.run_bind, hx, hy, he, Result.andThen_ok]
  cases r
  · simp
  · simp [hr]
theorem int_step {f : Field} {fs : List Field} {d : Nat} {xs ys : Array Value} {a b : Int} {s : Bool} (hu : P.underlying f.type = some (.int .i64)) (hn : (f.name == "_") = false) (hx : xs[f.offset]? = some (.int .i64 a)) (hy : ys[f.offset]? = some (.int .i64 b))
    (hr : (Op.eqFields (d + 1) xs ys fs).run P w = .ok s w) : (Op.eqFields (d + 1) xs ys (f :: fs)).run P w = .ok (a == b && s) w := by
  have hp : P.plainKey f.type = true := by unfold Program.plainKey; rw [hu]
  exact field_step hn (run_part_plain (w := w) hp hx) (run_part_plain (w := w) hp hy) (run_equalIn_int w d f.type .i64 .i64 a b hu) hr
theorem run_eq6d {E T : TypeId} {i : TypeInfo} (d : Nat) (hT : P.underlying T = some (.array 6 E)) (hi : P.info? E = some i) (hE : P.underlying E = some (.int .i64)) (hp : P.plainKey E = true) (hc : P.cellsOf E = 1) (a b : Nat → Int) :
    (Op.equalIn (d + 2) T (.agg (arr a)) (.agg (arr b))).run P w = .ok (eq6 a b) w := by
  rw [run_equalIn_array w (d + 1) _ _ hT hi, hc]
  show (Op.eqItems (d + 1) E 1 (arr a) (arr b) [0, 1, 2, 3, 4, 5]).run P w = _
  unfold eq6
  refine item_step hE hp _ _ 0 _ (a 0) (b 0) rfl rfl _ w ?_
  refine item_step hE hp _ _ 1 _ (a 1) (b 1) rfl rfl _ w ?_
  refine item_step hE hp _ _ 2 _ (a 2) (b 2) rfl rfl _ w ?_
  refine item_step hE hp _ _ 3 _ (a 3) (b 3) rfl rfl _ w ?_
  refine item_step hE hp _ _ 4 _ (a 4) (b 4) rfl rfl _ w ?_
  rw [show (a 5 == b 5) = (a 5 == b 5 && true) by simp]
  exact item_step hE hp _ _ 5 _ (a 5) (b 5) rfl rfl _ w rfl
end
def eqI (a b : Inv) : Bool := a.bidder == b.bidder && (eq6 a.want b.want && (a.reserve == b.reserve && (a.net == b.net && (a.due == b.due && true))))
abbrev invA (x : Inv) : Array Value := #[.int .i64 x.bidder, .int .i64 (x.want 0), .int .i64 (x.want 1), .int .i64 (x.want 2), .int .i64 (x.want 3), .int .i64 (x.want 4), .int .i64 (x.want 5), .int .i64 x.reserve, .int .i64 x.net, .int .i64 x.due]
set_option maxRecDepth 100000 in
theorem inv_facts : ∃ f0 f1 f2 f3 f4 : Field, ∃ e i, (Tryz.prog.fieldsOf 42).toList = [f0, f1, f2, f3, f4] ∧
    (Tryz.prog.underlying f0.type = some (.int .i64) ∧ f0.offset = 0 ∧ (f0.name == "_") = false) ∧
    (Tryz.prog.underlying f1.type = some (.array 6 e) ∧ f1.offset = 1 ∧ (f1.name == "_") = false ∧ Tryz.prog.underlying e = some (.int .i64) ∧ Tryz.prog.cellsOf e = 1 ∧ Tryz.prog.cellsOf f1.type = 6 ∧ Tryz.prog.info? e = some i ∧ Tryz.prog.plainKey e = true) ∧
    (Tryz.prog.underlying f2.type = some (.int .i64) ∧ f2.offset = 7 ∧ (f2.name == "_") = false) ∧
    (Tryz.prog.underlying f3.type = some (.int .i64) ∧ f3.offset = 8 ∧ (f3.name == "_") = false) ∧
    (Tryz.prog.underlying f4.type = some (.int .i64) ∧ f4.offset = 9 ∧ (f4.name == "_") = false) := by
  obtain ⟨i, hi⟩ : ∃ i, Tryz.prog.info? 3 = some i := ⟨_, (Option.some_get (by kernel_rfl)).symm⟩
  have h : ∃ fs, Tryz.prog.underlying 42 = some (.struct fs) ∧ (Tryz.prog.fieldsOf 42) = fs := ⟨_, Tryz.underlying42, by unfold Program.fieldsOf; rw [Tryz.underlying42]⟩
  unfold Program.fieldsOf
  rw [Tryz.underlying42]
  exact ⟨_, _, _, _, _, 3, i, rfl, ⟨by kernel_rfl, by kernel_rfl, by kernel_rfl⟩, ⟨by kernel_rfl, by kernel_rfl, by kernel_rfl, by kernel_rfl, by kernel_rfl, by kernel_rfl, hi, by kernel_rfl⟩, ⟨by kernel_rfl, by kernel_rfl, by kernel_rfl⟩, ⟨by kernel_rfl, by kernel_rfl, by kernel_rfl⟩, ⟨by kernel_rfl, by kernel_rfl, by kernel_rfl⟩⟩
set_option maxRecDepth 100000 in
theorem eq_inv (a b : Inv) (w : World) : (Op.equalIn 10000 42 (.agg (invA a)) (.agg (invA b))).run Tryz.prog w = .ok (eqI a b) w := by
  obtain ⟨f0, f1, f2, f3, f4, e, i, hf, ⟨k0, o0, n0⟩, ⟨k1, o1, n1, k1e, z1e, z1, hi, hp⟩, ⟨k2, o2, n2⟩, ⟨k3, o3, n3⟩, ⟨k4, o4, n4⟩⟩ := inv_facts
  rw [run_equalIn_struct w 9999 _ _ _ (by kernel_rfl) (by kernel_rfl), hf]
  unfold eqI
  refine int_step (d := 9998) k0 n0 (by rw [o0]; rfl) (by rw [o0]; rfl) ?_
  obtain ⟨j, hj⟩ : ∃ j, Tryz.prog.info? f1.type = some j := by
    cases h : Tryz.prog.info? f1.type with
    | none => rw [Program.underlying, h] at k1; cases k1
    | some j => exact ⟨j, rfl⟩
  refine field_step (x := .agg (arr a.want)) (y := .agg (arr b.want)) n1 ?_ ?_ (run_eq6d 9997 k1 hi k1e hp z1e a.want b.want) ?_
  · rw [run_part_arr k1 hj, o1, z1]; rfl
  · rw [run_part_arr k1 hj, o1, z1]; rfl
  refine int_step (d := 9998) k2 n2 (by rw [o2]; rfl) (by rw [o2]; rfl) ?_
  refine int_step (d := 9998) k3 n3 (by rw [o3]; rfl) (by rw [o3]; rfl) ?_
  refine int_step (d := 9998) k4 n4 (by rw [o4]; rfl) (by rw [o4]; rfl) ?_
  simp [Op.eqFields]
end Go.Proofs.YthehchdonmmpaaaGreatDoor.St
