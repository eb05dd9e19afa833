/- Law 12, Formats: the walk. Printed by gen_exV.py. -/
import Derived.Test.YtjjlhihocllgjaaDoorExU
import Derived.Test.YtjjlhihocllgjaaDoorExD
namespace Go.Proofs.YtjjlhihocllgjaaDoor.Ex
open Go.ChangeShapes Go.WideShapes Go.ChangeAt Go.RowKit Gn Cat Lex
set_option linter.unusedVariables false
set_option linter.unusedSimpArgs false
/-- the arguments of the laws -/
structure ArgX (w : World) (v : Value) (l : List Prod) (d : Nat) (e : Tree) : Prop where
  sl : PS w v l
  nm : ∀ p ∈ l, p.name.size ≤ maxLen
  tree : In d w.heap.size w e
  tab : Tab w
theorem beq_self {x : Int} : (x == x) = true := by simp
theorem beq_bytes {x : ByteArray} : (x.toList == x.toList) = true := by simp
set_option maxHeartbeats 4000000 in
set_option maxRecDepth 100000 in
theorem law_formats (l : List Prod) (v : Value) (d : Nat) (e : Tree) (w : World) (h : ArgX w v l d e) : Calls Tryd.prog 3 #[v, e.val] w (TrueP w) := by
  obtain ⟨A0, c0, rfl, hc0, hc1, _⟩ := ps_cases h.sl
  obtain ⟨op, p, vv, A, cb, ks⟩ := e
  dsimp only [Tree.val, Tree.op, Tree.want, Tree.value, Tree.a, Tree.c, Tree.args]
  have KE := Lib.hid (Blk.new w 27 #[.int .i64 op, .int .i64 (p 0), .int .i64 (p 1), .int .i64 (p 2), .int .i64 (p 3), .int .i64 (p 4), .int .i64 (p 5), .int .i64 vv, .slice A ks.length cb])
  have BE := Lib.hid (below_new w (.cells #[.int .i64 op, .int .i64 (p 0), .int .i64 (p 1), .int .i64 (p 2), .int .i64 (p 3), .int .i64 (p 4), .int .i64 (p 5), .int .i64 vv, .slice A ks.length cb] 27))
  have HT := Lib.hid (fun W (b : Below w.heap.size w W) => h.tab.keep b)
  have HI := Lib.hid (fun W (b : Below w.heap.size w W) => h.tree.keep b)
  have HS := Lib.hid (fun W (b : Below w.heap.size w W) => Sl.keep h.sl b)
  have HN := Lib.hid h.nm
  clear h
  
  have CW := Lib.hid (fun W (b : Below w.heap.size w W) => weigh_any d (.mk op p vv A cb ks) 61 w.heap.size W (HI.out W b) b.size (by decide) (by decide))
  dsimp only [Tree.val, Tree.op, Tree.want, Tree.value, Tree.a, Tree.c, Tree.args] at CW
  
  by_cases h10 : 10 < l.length
  · have q1 : decide ((10 : Int) < (l.length : Int)) = true := by simp; omega
    clear h10
    go_enter Tryd.func3, Tryd.ntmps3
    go_wp2_with fail
    refine (lives_any _ (HT.out _ BE.out)).mono ?_
    rintro r w2 ⟨rfl, dd⟩
    have B2 := Lib.hid (chain0 BE.out dd)
    go_wp2_with fail
    go_ret
    exact ⟨rfl, B2.out⟩
  · have q1 : decide ((10 : Int) < (l.length : Int)) = false := by simp; omega
    have C0 : (w.alloc (.cells #[.int .i64 op, .int .i64 (p 0), .int .i64 (p 1), .int .i64 (p 2), .int .i64 (p 3), .int .i64 (p 4), .int .i64 (p 5), .int .i64 vv, .slice A ks.length cb] 27)).cell? ⟨w.heap.size, 0, none⟩ = some (.int .i64 op) := KE.out.cell 0
    have C1 : (w.alloc (.cells #[.int .i64 op, .int .i64 (p 0), .int .i64 (p 1), .int .i64 (p 2), .int .i64 (p 3), .int .i64 (p 4), .int .i64 (p 5), .int .i64 vv, .slice A ks.length cb] 27)).cell? ⟨w.heap.size, 1, none⟩ = some (.int .i64 (p 0)) := KE.out.cell 1
    have C2 : (w.alloc (.cells #[.int .i64 op, .int .i64 (p 0), .int .i64 (p 1), .int .i64 (p 2), .int .i64 (p 3), .int .i64 (p 4), .int .i64 (p 5), .int .i64 vv, .slice A ks.length cb] 27)).cell? ⟨w.heap.size, 2, none⟩ = some (.int .i64 (p 1)) := KE.out.cell 2
    have C3 : (w.alloc (.cells #[.int .i64 op, .int .i64 (p 0), .int .i64 (p 1), .int .i64 (p 2), .int .i64 (p 3), .int .i64 (p 4), .int .i64 (p 5), .int .i64 vv, .slice A ks.length cb] 27)).cell? ⟨w.heap.size, 3, none⟩ = some (.int .i64 (p 2)) := KE.out.cell 3
    have C4 : (w.alloc (.cells #[.int .i64 op, .int .i64 (p 0), .int .i64 (p 1), .int .i64 (p 2), .int .i64 (p 3), .int .i64 (p 4), .int .i64 (p 5), .int .i64 vv, .slice A ks.length cb] 27)).cell? ⟨w.heap.size, 4, none⟩ = some (.int .i64 (p 3)) := KE.out.cell 4
    have C5 : (w.alloc (.cells #[.int .i64 op, .int .i64 (p 0), .int .i64 (p 1), .int .i64 (p 2), .int .i64 (p 3), .int .i64 (p 4), .int .i64 (p 5), .int .i64 vv, .slice A ks.length cb] 27)).cell? ⟨w.heap.size, 5, none⟩ = some (.int .i64 (p 4)) := KE.out.cell 5
    have C6 : (w.alloc (.cells #[.int .i64 op, .int .i64 (p 0), .int .i64 (p 1), .int .i64 (p 2), .int .i64 (p 3), .int .i64 (p 4), .int .i64 (p 5), .int .i64 vv, .slice A ks.length cb] 27)).cell? ⟨w.heap.size, 6, none⟩ = some (.int .i64 (p 5)) := KE.out.cell 6
    have C7 : (w.alloc (.cells #[.int .i64 op, .int .i64 (p 0), .int .i64 (p 1), .int .i64 (p 2), .int .i64 (p 3), .int .i64 (p 4), .int .i64 (p 5), .int .i64 vv, .slice A ks.length cb] 27)).cell? ⟨w.heap.size, 7, none⟩ = some (.int .i64 vv) := KE.out.cell 7
    have C8 : (w.alloc (.cells #[.int .i64 op, .int .i64 (p 0), .int .i64 (p 1), .int .i64 (p 2), .int .i64 (p 3), .int .i64 (p 4), .int .i64 (p 5), .int .i64 vv, .slice A ks.length cb] 27)).cell? ⟨w.heap.size, 8, none⟩ = some (.slice A ks.length cb) := KE.out.cell 8
    have Cl := KE.out.lt
    go_enter Tryd.func3, Tryd.ntmps3
    go_wp2_with fail
    refine (CW.out _ BE.out).mono ?_
    rintro r w2 ⟨rfl, d2⟩
    have K2 := Lib.hid (KE.out.below' d2)
    have B2 := Lib.hid (chain0 BE.out d2)
    clear d2 KE
    clear C0 C1 C2 C3 C4 C5 C6 C7 C8 Cl
    generalize hmn : min (preF d (.mk op p vv A cb ks)).length 61 = mn
    by_cases h60 : 60 < mn
    · have q2 : decide ((60 : Int) < (mn : Int)) = true := by simp; omega
      clear h60 hmn
      go_wp2_with fail
      refine (lives_any _ (HT.out _ B2.out)).mono ?_
      rintro r w3 ⟨rfl, dd⟩
      have B3 := Lib.hid (chain0 B2.out dd)
      go_wp2_with fail
      go_ret
      exact ⟨rfl, B3.out⟩
    · have q2 : decide ((60 : Int) < (mn : Int)) = false := by simp; omega
      have hsz : (preF d (.mk op p vv A cb ks)).length ≤ 60 := by omega
      clear h60 hmn
      have CF := Lib.hid (fun W (b : Below w.heap.size w W) => format_any l (.slice A0 l.length c0) d (.mk op p vv A cb ks) w.heap.size W ⟨HS.out W b, by omega, HN.out⟩ (HT.out W b) (HI.out W b) b.size (by omega))
      have CR := Lib.hid (fun W (b : Below w.heap.size w W) => rfmt_any l (.slice A0 l.length c0) d (.mk op p vv A cb ks) w.heap.size W ⟨HS.out W b, by omega, HN.out⟩ (HT.out W b) (HI.out W b) b.size (by omega))
      dsimp only [Tree.val, Tree.op, Tree.want, Tree.value, Tree.a, Tree.c, Tree.args] at CF CR
      generalize fmtX l d (.mk op p vv A cb ks) = pr at *
      obtain ⟨ps, pe⟩ := pr
      try dsimp only at CF CR
      have q3 := beq_self (x := pe)
      have q4 := beq_bytes (x := ps)
      have C0 : w2.cell? ⟨w.heap.size, 0, none⟩ = some (.int .i64 op) := K2.out.cell 0
      have C1 : w2.cell? ⟨w.heap.size, 1, none⟩ = some (.int .i64 (p 0)) := K2.out.cell 1
      have C2 : w2.cell? ⟨w.heap.size, 2, none⟩ = some (.int .i64 (p 1)) := K2.out.cell 2
      have C3 : w2.cell? ⟨w.heap.size, 3, none⟩ = some (.int .i64 (p 2)) := K2.out.cell 3
      have C4 : w2.cell? ⟨w.heap.size, 4, none⟩ = some (.int .i64 (p 3)) := K2.out.cell 4
      have C5 : w2.cell? ⟨w.heap.size, 5, none⟩ = some (.int .i64 (p 4)) := K2.out.cell 5
      have C6 : w2.cell? ⟨w.heap.size, 6, none⟩ = some (.int .i64 (p 5)) := K2.out.cell 6
      have C7 : w2.cell? ⟨w.heap.size, 7, none⟩ = some (.int .i64 vv) := K2.out.cell 7
      have C8 : w2.cell? ⟨w.heap.size, 8, none⟩ = some (.slice A ks.length cb) := K2.out.cell 8
      have Cl := K2.out.lt
      go_wp2_with fail
      refine (CF.out _ B2.out).mono ?_
      rintro r w3 ⟨rfl, d3⟩
      have K3 := Lib.hid (K2.out.below' d3)
      have B3 := Lib.hid (chain0 B2.out d3)
      clear d3 K2
      clear C0 C1 C2 C3 C4 C5 C6 C7 C8 Cl
      have C0 : w3.cell? ⟨w.heap.size, 0, none⟩ = some (.int .i64 op) := K3.out.cell 0
      have C1 : w3.cell? ⟨w.heap.size, 1, none⟩ = some (.int .i64 (p 0)) := K3.out.cell 1
      have C2 : w3.cell? ⟨w.heap.size, 2, none⟩ = some (.int .i64 (p 1)) := K3.out.cell 2
      have C3 : w3.cell? ⟨w.heap.size, 3, none⟩ = some (.int .i64 (p 2)) := K3.out.cell 3
      have C4 : w3.cell? ⟨w.heap.size, 4, none⟩ = some (.int .i64 (p 3)) := K3.out.cell 4
      have C5 : w3.cell? ⟨w.heap.size, 5, none⟩ = some (.int .i64 (p 4)) := K3.out.cell 5
      have C6 : w3.cell? ⟨w.heap.size, 6, none⟩ = some (.int .i64 (p 5)) := K3.out.cell 6
      have C7 : w3.cell? ⟨w.heap.size, 7, none⟩ = some (.int .i64 vv) := K3.out.cell 7
      have C8 : w3.cell? ⟨w.heap.size, 8, none⟩ = some (.slice A ks.length cb) := K3.out.cell 8
      have Cl := K3.out.lt
      go_wp2_with fail
      refine (CR.out _ B3.out).mono ?_
      rintro r w4 ⟨rfl, d4⟩
      have B4 := Lib.hid (chain0 B3.out d4)
      clear d4 K3
      clear C0 C1 C2 C3 C4 C5 C6 C7 C8 Cl
      go_wp2_with fail
      refine (lives_any _ (HT.out _ B4.out)).mono ?_
      rintro r w5 ⟨rfl, dd⟩
      have B5 := Lib.hid (chain0 B4.out dd)
      go_wp2_with fail
      go_ret
      exact ⟨rfl, B5.out⟩
end Go.Proofs.YtjjlhihocllgjaaDoor.Ex
