/- Contracts of the Builder's writers, walked at this dump (its copy check's message is refused by the loader). -/
import Derived.Test.YtabkaaapkcadhaaLexP
import Derived.Lib.Builder
import Derived.Lib.AppendStr
namespace Go.Proofs.Ytabkaaapkcadhaa
open Go.ChangeShapes Go.WideShapes Go.ChangeAt Go.RowKit
namespace Bld
theorem size_builder : (Try.prog.info? 88).map (·.size) = some 2 := by kernel_rfl
theorem byte_info : (Try.prog.info? 5).map (fun i => (i.zero, i.size, i.bytes)) = some (some (.int .u8 0), 1, 1) := by kernel_rfl
theorem lies_builder : liesAt Try.prog Try.prog.depth 88 (2 / Try.prog.cellsOf 88) 0 88 1 = true := by kernel_rfl
attribute [local irreducible] World.shape?
section
variable (b : Nat) (w : World) (hsh : w.shape? b = some (88, 2))
include hsh
set_option maxRecDepth 100000 in
/-- the pointer to a builder turned into the other kind of pointer -/
theorem conv_to : (convert 85 117 (.pointer (some ⟨b, 0, none⟩))).run Try.prog w = .ok (.pointer (some ⟨b, 0, none⟩)) w := by
  obtain ⟨j, hj, hjs⟩ := Option.map_eq_some_iff.1 size_builder
  have hs := run_underlying (P := Try.prog) (w := w) Try.underlying85
  have hd := run_underlying (P := Try.prog) (w := w) Try.underlying117
  have h2 : ¬ j.size = 0 := by rw [hjs]; decide
  simp only [convert, Sem.run_bind, hs, hd, Result.andThen_ok]
  conv => lhs; whnf
  simp only [hsh]
  conv => lhs; whnf
  simp only [hsh]
  show Sem.run Try.prog ((pure (some 2) : Sem (Option Nat)) >>= _) w = _
  simp [sizeOf, typeInfo, hj, h2]
set_option maxRecDepth 100000 in
/-- .. and back -/
theorem conv_from : (convert 117 85 (.pointer (some ⟨b, 0, none⟩))).run Try.prog w = .ok (.pointer (some ⟨b, 0, none⟩)) w := by
  obtain ⟨j, hj, hjs⟩ := Option.map_eq_some_iff.1 size_builder
  have hs := run_underlying (P := Try.prog) (w := w) Try.underlying85
  have hd := run_underlying (P := Try.prog) (w := w) Try.underlying117
  have h2 : ¬ j.size = 0 := by rw [hjs]; decide
  simp only [convert, Sem.run_bind, hs, hd, Result.andThen_ok]
  conv => lhs; whnf
  simp only [hsh]
  show Sem.run Try.prog ((pure ⟨b, 0, none⟩ : Sem Addr) >>= _) w = _
  simp [sizeOf, typeInfo, hj, h2, variablesAt, hsh, lies_builder]
end
set_option maxRecDepth 100000 in
theorem copyCheck_used (b : Nat) (w : World) (h0 : w.cell? ⟨b, 0, none⟩ = some (.pointer (some ⟨b, 0, none⟩))) :
    Calls Try.prog 90 #[.pointer (some ⟨b, 0, none⟩)] w fun e w' => e = .returned (.tuple #[]) ∧ w = w' := by
  obtain ⟨j, hj, _⟩ := Option.map_eq_some_iff.1 size_builder
  go_enter Try.func90, Try.ntmps90
  go_wp2
  rw [Lib.run_neq_ptr_same w _ Try.underlying85 hj]
  go_wp2
  go_end0
  exact ⟨rfl, rfl⟩
set_option maxRecDepth 100000 in
theorem copyCheck_fresh (b : Nat) (w : World) (h0 : w.cell? ⟨b, 0, none⟩ = some (.pointer none)) (hsh : w.shape? b = some (88, 2)) (hfz : w.frozen? ⟨b, 0, none⟩ = false) :
    Calls Try.prog 90 #[.pointer (some ⟨b, 0, none⟩)] w fun e w' => e = .returned (.tuple #[]) ∧ w.setCell ⟨b, 0, none⟩ (.pointer (some ⟨b, 0, none⟩)) = w' := by
  go_enter Try.func90, Try.ntmps90
  go_wp2
  rw [conv_to b w hsh]
  simp only [Result.andThen]
  rw [Oper.upon_value]
  go_wp2
  rw [run_callFunc_extern Try.func94 (by kernel_rfl) (by kernel_rfl) (by kernel_rfl) (e := Extern.AbiNoEscape.same) (by kernel_rfl)]
  rw [Lib.run_noEscape]
  simp only [Result.andThen]
  rw [Oper.upon_value]
  go_wp2
  rw [conv_from b w hsh]
  simp only [Result.andThen]
  rw [Oper.upon_value]
  go_wp2
  go_end0
  exact ⟨rfl, rfl⟩
/-- the blocks of other types than e, but for block b, are as they were -/
def Keeps (e : TypeId) (b : Nat) (w w' : World) : Prop := ∀ g t cs, Blk w g t cs → t ≠ e → g ≠ b → Blk w' g t cs
section
variable {e : TypeId} {b : Nat} {w w1 w2 : World}
theorem Keeps.refl (e : TypeId) (b : Nat) (w : World) : Keeps e b w w := fun _ _ _ h _ _ => h
theorem Keeps.trans (h : Keeps e b w w1) (k : Keeps e b w1 w2) : Keeps e b w w2 := fun g t cs x ht hg => k g t cs (h g t cs x ht hg) ht hg
theorem Keeps.put (h : Keeps e b w w1) (o : Nat) (u : Value) : Keeps e b w (w1.setCell ⟨b, o, none⟩ u) := fun g t cs x ht hg => (h g t cs x ht hg).far hg u
theorem Keeps.alloc (h : Keeps e b w w1) (o : Obj) : Keeps e b w (w1.alloc o) := fun g t cs x ht hg => (h g t cs x ht hg).alloc o
theorem Keeps.grown (h : Keeps e b w w1) {base n size : Nat} {v : Value} {xs : List Value} (ho : w1.ownsRow base e size v n xs) (hg : w1.grownBy w2 v.ownBlock) : Keeps e b w w2 :=
  fun _ t cs x ht hb => (h _ t cs x ht hb).grown hg (fun e2 => own_apart ho (h _ t cs x ht hb) (Ne.symm ht) e2.symm)
end
theorem copyCheck_any (B b : Nat) (bs : List Value) (w : World) (h : Lib.IsBuilder 88 5 B b bs w) :
    Calls Try.prog 90 #[.pointer (some ⟨b, 0, none⟩)] w fun e w' => e = .returned (.tuple #[]) ∧ (Lib.BuilderAt 88 5 B b (.pointer (some ⟨b, 0, none⟩)) bs w' ∧ Below B w w' ∧ Keeps 5 b w w') := by
  rcases h with h | h
  · refine (copyCheck_fresh b w h.cell0 h.shape h.frozen0).mono ?_
    rintro e w' ⟨rfl, rfl⟩
    exact ⟨rfl, h.used _, (Below.refl B w).setCell (p := ⟨b, 0, none⟩) h.1 _, (Keeps.refl _ b w).put 0 _⟩
  · refine (copyCheck_used b w h.cell0).mono ?_
    rintro e w' ⟨rfl, rfl⟩
    exact ⟨rfl, h, Below.refl B _, Keeps.refl _ b _⟩
set_option maxHeartbeats 1000000 in
set_option maxRecDepth 100000 in
theorem writeByte_any (B b : Nat) (bs : List Value) (c : Int) (w : World) (h : Lib.IsBuilder 88 5 B b bs w) (hlen : bs.length + 1 ≤ 140737488355328) (hBw : B ≤ w.heap.size) :
    Calls Try.prog 67 #[.pointer (some ⟨b, 0, none⟩), .int .u8 c] w fun e w' => e = .returned .nilIface ∧ (Lib.IsBuilder 88 5 B b (bs ++ [.int .u8 c]) w' ∧ Below B w w' ∧ Keeps 5 b w w') := by
  obtain ⟨i0, hi, hz0, hz1, hz2⟩ := info_parts byte_info
  have HL := Lib.hid hlen
  have H := Lib.hid h
  clear hlen h
  go_enter Try.func67, Try.ntmps67
  go_wp2_with fail
  refine (copyCheck_any B b bs _ H.out).mono ?_
  rintro e w1 ⟨rfl, h1, hb1, q1⟩
  have Q1 := Lib.hid q1
  clear q1
  obtain ⟨hB, v, hbk, hown, hne⟩ := h1
  have K1 : Blk w1 b 88 #[.pointer (some ⟨b, 0, none⟩), v] := hbk
  have c1 := K1.c2
  have HB1 := Lib.hid hb1
  have hs1 := hb1.size
  have hlt := K1.lt
  clear hb1 hbk
  go_wp2_with (at_builtin; refine wpList_append_own _ rfl _ _ 86 rfl B 5 i0 (.int .u8 0) 1 1 Try.underlying86 hi hz0 hz1 hz2 rfl (by decide) _ _ _ rfl (hown.alloc _) ⟨w1.heap.size, 0, none⟩ 1 1 [.int .u8 c] rfl rfl ?c1 ?c2 ?c3 ?c4 ?c5 ?_)
  case c1 =>
    intro j u hj
    match j, hj with
    | 0, hj => simp at hj; subst hj; simp [Addr.add]
  case c2 => intro u hu; simp at hu; subst hu; rfl
  case c3 => have := HL.out; unfold maxLen; omega
  case c4 => have := HL.out; omega
  case c5 => simp; omega
  intro v' w2 hown' hgrow _
  have K2 := (K1.alloc (.cells #[.int .u8 c] 5)).grown hgrow (fun e => hne e.symm)
  have c2 := K2.c2
  obtain ⟨g, cap, rfl⟩ : ∃ g cap, v' = .slice (some ⟨g, 0, none⟩) (bs.length + 1) cap := by
    rcases hown'.2 with ⟨_, h0⟩ | ⟨g, cap, cur, hv, _⟩
    · omega
    · exact ⟨g, cap, hv⟩
  have HO := Lib.hid hown'
  have HG := Lib.hid hgrow
  have HW := Lib.hid hown
  clear hown' hgrow hown c1
  go_wp2
  go_ret
  refine ⟨rfl, .inr ?_, ?_, ?_⟩
  · exact Lib.BuilderAt.put (T := 88) (e := 5) hB K2 (bs' := bs ++ [.int .u8 c]) (by simpa using HO.out) (by decide)
  · exact ((HB1.out.alloc (by omega) _).grown HG.out (by simp; omega) (fun k hk => (HW.out.lt k hk).1)).setCell (p := ⟨b, 1, none⟩) hB _
  · exact ((Q1.out.alloc _).grown (HW.out.alloc _) HG.out).put 1 _
set_option maxHeartbeats 1000000 in
set_option maxRecDepth 100000 in
theorem writeString_any (B b : Nat) (bs : List Value) (s : ByteArray) (w : World) (h : Lib.IsBuilder 88 5 B b bs w) (hlen : bs.length + s.size ≤ 140737488355328) (hBw : B ≤ w.heap.size) :
    Calls Try.prog 68 #[.pointer (some ⟨b, 0, none⟩), .string s] w fun e w' => e = .returned (.tuple #[.int .i64 s.size, .nilIface]) ∧ (Lib.IsBuilder 88 5 B b (bs ++ Lib.strCells s) w' ∧ Below B w w' ∧ Keeps 5 b w w') := by
  obtain ⟨i0, hi, hz0, hz1, hz2⟩ := info_parts byte_info
  have HL := Lib.hid hlen
  have H := Lib.hid h
  clear hlen h
  go_enter Try.func68, Try.ntmps68
  go_wp2_with fail
  refine (copyCheck_any B b bs _ H.out).mono ?_
  rintro e w1 ⟨rfl, h1, hb1, q1⟩
  have Q1 := Lib.hid q1
  clear q1
  obtain ⟨hB, v, hbk, hown, hne⟩ := h1
  have K1 : Blk w1 b 88 #[.pointer (some ⟨b, 0, none⟩), v] := hbk
  have c1 := K1.c2
  have HB1 := Lib.hid hb1
  have hs1 := hb1.size
  have hlt := K1.lt
  clear hb1 hbk
  go_wp2_with (at_builtin; refine Lib.wpList_append_own_string _ rfl _ _ 86 9 rfl B 5 i0 Try.underlying86 Try.underlying9 hi hz0 hz1 hz2 _ _ _ rfl hown s rfl ?c3 ?c4 ?c5 ?_)
  case c3 => have := HL.out; unfold maxLen; omega
  case c4 => have := HL.out; omega
  case c5 => omega
  intro v' w2 hown' hgrow _
  have K2 := K1.grown hgrow (fun e => hne e.symm)
  have c2 := K2.c2
  obtain ⟨ao, n', cap, rfl⟩ : ∃ ao n' cap, v' = .slice ao n' cap := by
    rcases hown'.2 with ⟨hv, _⟩ | ⟨g, cap, cur, hv, _⟩
    · exact ⟨_, _, _, hv⟩
    · exact ⟨_, _, _, hv⟩
  have HO := Lib.hid hown'
  have HG := Lib.hid hgrow
  have HW := Lib.hid hown
  clear hown' hgrow hown c1
  go_wp2
  go_ret2
  refine ⟨rfl, .inr ?_, ?_, ?_⟩
  · exact Lib.BuilderAt.put (T := 88) (e := 5) hB K2 (bs' := bs ++ Lib.strCells s) (by simpa [Lib.strCells_length] using HO.out) (by decide)
  · exact (HB1.out.grown HG.out (by omega) (fun k hk => (HW.out.lt k hk).1)).setCell (p := ⟨b, 1, none⟩) hB _
  · exact (Q1.out.grown HW.out HG.out).put 1 _
end Bld
end Go.Proofs.Ytabkaaapkcadhaa
