/- Contracts of the reference's replaced, contains and decimal. Printed by gen_eve1.py. -/
import Derived.Test.YtaikmgnpfbnjjaaGreatDoorPu23
import Derived.Test.YtaikmgnpfbnjjaaGreatDoorPu21
import Derived.Test.YtaikmgnpfbnjjaaGreatDoorPu24
import Derived.Laws.IdiomStrings
namespace Go.Proofs.YtaikmgnpfbnjjaaGreatDoor.Ev
open Go.ChangeShapes Go.WideShapes Go.ChangeAt Go.RowKit Gn Cat Lex Ros Se
set_option linter.unusedVariables false
set_option linter.unusedSimpArgs false
theorem u8_ne {x c : UInt8} {n : Int} (hn : n = (c.toNat : Int)) (h : x ≠ c) : ((x.toNat : Int) == n) = false := beq_eq_false_iff_ne.2 (fun e => h (UInt8.toNat_inj.1 (by omega)))
theorem u8_bne {x c : UInt8} {n : Int} (hn : n = (c.toNat : Int)) (h : x ≠ c) : ((x.toNat : Int) != n) = true := bne_iff_ne.2 (fun e => h (UInt8.toNat_inj.1 (by omega)))
/-- block b begins with the bytes l -/
structure BRow (w : World) (b : Nat) (l : List UInt8) : Prop where
  cell : ∀ (j : Nat) (h : j < l.length), w.cell? ⟨b, j, none⟩ = some (.int .u8 (l[j].toNat : Int))
  free : ∀ (j : Nat), j < l.length → w.frozen? ⟨b, j, none⟩ = false
theorem BRow.set {w : World} {b : Nat} {l : List UInt8} (h : BRow w b l) (k : Nat) (hk : k < l.length) (x : UInt8) : BRow (w.setCell ⟨b, k, none⟩ (.int .u8 (x.toNat : Int))) b (l.set k x) := by
  refine ⟨fun j hj => ?_, fun j hj => (World.frozen?_setCell _ _ _ _).trans (h.free j (by simpa using hj))⟩
  have hj' : j < l.length := by simpa using hj
  by_cases e : j = k
  · subst e
    rw [World.cell?_setCell_same w ⟨b, j, none⟩ _ (h.cell j hj')]
    simp
  · have h1 : (w.setCell ⟨b, k, none⟩ (.int .u8 (x.toNat : Int))).cell? ⟨b, j, none⟩ = w.cell? ⟨b, j, none⟩ := World.cell?_setCell_other w _ _ _ (fun e2 => e (by injection e2 with _ e3; exact e3.symm))
    rw [h1, h.cell j hj']
    simp [List.getElem_set_ne (Ne.symm e)]
theorem BRow.back {w : World} {b : Nat} {l : List UInt8} (h : BRow w b l) (n cap : Nat) (hn : n = l.length) : (convert 106 9 (.slice (some ⟨b, 0, none⟩) n cap)).run Tryz.prog w = .ok (.string ⟨l.toArray⟩) w := by
  subst hn
  refine run_convert_bytes_back (P := Tryz.prog) w 106 9 5 ⟨b, 0, none⟩ cap l (by kernel_rfl) (by kernel_rfl) (by kernel_rfl) ?_
  intro j hj
  have e : (⟨b, 0, none⟩ : Addr).add j = ⟨b, j, none⟩ := by unfold Addr.add; split <;> simp_all
  rw [e]; exact h.cell j hj
theorem bytes_of (w : World) (t : ByteArray) : ∃ cap W, (convert 9 106 (.string t)).run Tryz.prog w = .ok (.slice (some ⟨w.heap.size, 0, none⟩) t.size cap) W ∧ Below w.heap.size w W ∧ BRow W w.heap.size t.data.toList ∧ w.heap.size < W.heap.size := by
  refine ⟨_, _, run_bytes_of_string (P := Tryz.prog) w 9 106 5 t (by kernel_rfl) (by kernel_rfl) (by kernel_rfl), ((Below.refl _ _).drew).alloc (Nat.le_refl _) _, ?_, ?_⟩
  · generalize grownCap w t.size 0 5 = cap
    have hb : ∀ o, (w.drew.alloc o).heap[w.heap.size]? = some o := fun o => by
      show (w.heap.push o)[w.heap.size]? = _
      simp
    constructor
    · intro j hj
      rw [cell_of_row _ _ j _ _ _ (hb _)]
      rw [bytesRow_at t cap j (by simpa using hj)]
      simp
    · intro j hj
      have hj' : j < t.data.size := by simpa using hj
      simp only [World.frozen?, hb]
      have : t.data.size ≤ (bytesRow t cap).size := by simp [bytesRow]
      simp
      omega
  · show w.heap.size < (w.heap.push _).size
    simp
/-- the first k bytes replaced -/
def repA (a b : UInt8) (l : List UInt8) (k : Nat) : List UInt8 := replL a b (l.take k) ++ l.drop k
theorem repA_len (a b : UInt8) (l : List UInt8) (k : Nat) (hk : k ≤ l.length) : (repA a b l k).length = l.length := by
  unfold repA
  rw [List.length_append, repl_len, List.length_take, List.length_drop]
  omega
theorem rep_app_at (a b : UInt8) (l : List UInt8) (k : Nat) (hk : k < l.length) : ∀ h : k < (replL a b (l.take k) ++ l.drop k).length, (replL a b (l.take k) ++ l.drop k)[k]'h = l[k] := by
  intro h
  rw [List.getElem_append_right (by rw [repl_len, List.length_take]; omega)]
  simp only [repl_len, List.length_take, List.getElem_drop]
  congr 1
  omega
theorem repA_at (a b : UInt8) (l : List UInt8) (k : Nat) (hk : k < l.length) : ∀ h, (repA a b l k)[k]'h = l[k] := rep_app_at a b l k hk
theorem repA_next (a b : UInt8) (l : List UInt8) (k : Nat) (hk : k < l.length) : repA a b l (k + 1) = (repA a b l k).set k (if l[k] = a then b else l[k]) := by
  unfold repA
  have h1 : l.take (k + 1) = l.take k ++ [l[k]] := List.take_succ_eq_append_getElem hk
  have h2 : l.drop k = l[k] :: l.drop (k + 1) := (List.getElem_cons_drop hk).symm
  rw [h1, h2, List.set_append_right _ _ (by rw [repl_len, List.length_take]; omega)]
  have h3 : k - (replL a b (l.take k)).length = 0 := by rw [repl_len, List.length_take]; omega
  rw [h3]
  unfold replL
  rw [List.map_append, List.append_assoc]
  rfl
theorem repA_hit {a b : UInt8} {l : List UInt8} {k : Nat} (hk : k < l.length) (h : l[k] = a) : repA a b l (k + 1) = (repA a b l k).set k b := by rw [repA_next a b l k hk, if_pos h]
theorem repA_miss {a b : UInt8} {l : List UInt8} {k : Nat} (hk : k < l.length) (h : l[k] ≠ a) : repA a b l (k + 1) = repA a b l k := by
  rw [repA_next a b l k hk, if_neg h]
  apply List.ext_getElem
  · simp
  · intro i h1 h2
    by_cases e : k = i
    · subst e
      rw [List.getElem_set_self, repA_at a b l k hk h2]
    · rw [List.getElem_set_ne e]
theorem repA_full (a b : UInt8) (l : List UInt8) : repA a b l l.length = replL a b l := by
  unfold repA
  rw [List.take_length, List.drop_length, List.append_nil]
set_option maxHeartbeats 2000000 in
set_option maxRecDepth 100000 in
theorem replaced_any (s : ByteArray) (a b : UInt8) (w : World) (hs : s.size ≤ 5000) : Calls Tryz.prog 50 #[.string s, .int .u8 (a.toNat : Int), .int .u8 (b.toNat : Int)] w (StrPost (ofL (replL a b s.data.toList)) w) := by
  obtain ⟨cap, W, hcv, hbw, hrow, hlt⟩ := bytes_of w s
  have HROW := Lib.hid hrow
  have HBW := Lib.hid hbw
  have HLEN := Lib.hid (fun k (h : k ≤ s.size) => repA_len a b s.data.toList k h)
  have HAT := Lib.hid (fun k (h : k < s.size) => repA_at a b s.data.toList k h)
  have HHIT := Lib.hid (fun k (h : k < s.data.toList.length) => repA_hit (a := a) (b := b) h)
  have HMISS := Lib.hid (fun k (h : k < s.data.toList.length) => repA_miss (a := a) (b := b) h)
  have HFULL : Hid (repA a b s.data.toList s.size = replL a b s.data.toList) := repA_full a b s.data.toList
  have HZ : Hid (repA a b s.data.toList 0 = s.data.toList) := rfl
  have HR : Hid (ofL (replL a b s.data.toList) = (⟨(replL a b s.data.toList).toArray⟩ : ByteArray)) := rfl
  generalize ofL (replL a b s.data.toList) = r at *
  clear hrow hbw
  generalize hg : w.heap.size = g at *
  have HG := Lib.hid hg
  clear hg
  go_enter Tryz.func50, Tryz.ntmps50
  go_wp2_with fail
  go_loopw [8] (fun iv wr => ∃ k : Nat, k ≤ s.size ∧ iv = .int .i64 (k : Int) ∧ Hid (BRow wr g (repA a b s.data.toList k)) ∧ Hid (Below g w wr) ∧ g < wr.heap.size) (fun iv _ => s.size - (intOf iv).toNat)
  case atStart => exact ⟨0, by omega, rfl, by show BRow _ _ _; rw [HZ.out]; exact HROW.out, HBW.out, hlt⟩
  case round =>
    obtain ⟨k, hk, rfl, HB, HW, hl⟩ := hrel
    by_cases hks : k < s.size
    · have hd : decide ((k : Int) < (s.size : Int)) = true := decide_eq_true (by omega)
      have hlen := HLEN.out k hk
      have hsl : s.data.toList.length = s.size := rfl
      have hkl : k < (repA a b s.data.toList k).length := by omega
      have hcl := HB.out.cell k hkl
      have hfr := HB.out.free k hkl
      rw [HAT.out k hks hkl] at hcl
      have hi0 : (0 : Int) ≤ (k : Int) := by omega
      have hki : (k : Int) < (s.size : Int) := by omega
      by_cases he : s.data.toList[k]'(by omega) = a
      · have HN := Lib.hid (HHIT.out k (by omega) he)
        have HS := Lib.hid (HB.out.set k hkl b)
        rw [he] at hcl
        have hq : ((a.toNat : Int) == (a.toNat : Int)) = true := by simp
        generalize repA a b s.data.toList k = l0 at *
        clear he hkl hlen hsl
        go_wp2_with fail
        go_roundw
        case rel => exact ⟨k + 1, by omega, by simp, by show BRow _ _ _; rw [HN.out]; exact HS.out, HW.out.setCell (p := ⟨g, k, none⟩) (Nat.le_refl _) _, by rw [World.size_setCell]; exact hl⟩
        case measure => simp [intOf]; omega
      · have HN := Lib.hid (HMISS.out k (by omega) he)
        have hq : (((s.data.toList[k]'(by omega)).toNat : Int) == (a.toNat : Int)) = false := by
          simp
          intro h
          first | exact he h | exact he (UInt8.toNat_inj.1 (by omega)) | exact he (UInt8.toNat_inj.1 (Int.ofNat_inj.1 h))
        generalize s.data.toList[k]'(by omega) = x at *
        generalize hx : (x.toNat : Int) = xi at *
        clear he hkl hlen hsl hfr
        go_wp2_with fail
        go_roundw
        case rel => exact ⟨k + 1, by omega, by simp, by show BRow _ _ _; rw [HN.out]; exact HB.out, HW.out, hl⟩
        case measure => simp [intOf]; omega
    · obtain rfl : k = s.size := by omega
      have hd : decide ((s.size : Int) < (s.size : Int)) = false := decide_eq_false (by omega)
      have hb2 := HB.out.back s.size cap (HLEN.out s.size (Nat.le_refl _)).symm
      rw [HFULL.out] at hb2
      rw [← HR.out] at hb2
      go_wp2_with fail
      go_ret
      exact ⟨rfl, by rw [HG.out]; exact HW.out⟩
set_option maxRecDepth 100000 in
theorem rcontains_10 (s : ByteArray) (w : World) (hs : s.size ≤ 5000) : Calls Tryz.prog 49 #[.string s, .int .u8 10] w fun x w' => x = .returned (.bool (s.data.toList.contains 10)) ∧ Below w.heap.size w w' := by
  have CR := Lib.hid (fun W => replaced_any s 10 11 W hs)
  have hi : s.data.toList.contains 10 = !((ofL (replL 10 11 s.data.toList)).toList == s.toList) := by
    cases hx : s.data.toList.contains 10 with
    | false =>
      have : replL 10 11 s.data.toList = s.data.toList := (repl_same (by decide) _).2 hx
      rw [this, eqS_yes (a := ofL s.data.toList) (b := s) rfl]; rfl
    | true =>
      have : ofL (replL 10 11 s.data.toList) ≠ s := fun h => by
        have h2 : replL 10 11 s.data.toList = s.data.toList := congrArg (fun z : ByteArray => z.data.toList) h
        rw [(repl_same (by decide) _).1 h2] at hx
        exact absurd hx (by simp)
      rw [eqS_no this]; rfl
  rw [hi]
  have hn : ((ofL (replL 10 11 s.data.toList)).toList != s.toList) = !((ofL (replL 10 11 s.data.toList)).toList == s.toList) := rfl
  have HI := Lib.hid hi
  clear hi
  generalize ofL (replL 10 11 s.data.toList) = r at *
  go_enter Tryz.func49, Tryz.ntmps49
  go_wp2_with fail
  refine (CR.out _).mono ?_
  rintro x w1 ⟨rfl, d1⟩
  go_wp2_with fail
  go_ret
  exact ⟨rfl, d1⟩
set_option maxRecDepth 100000 in
theorem rcontains_32 (s : ByteArray) (w : World) (hs : s.size ≤ 5000) : Calls Tryz.prog 49 #[.string s, .int .u8 32] w fun x w' => x = .returned (.bool (s.data.toList.contains 32)) ∧ Below w.heap.size w w' := by
  have CR := Lib.hid (fun W => replaced_any s 32 33 W hs)
  have hi : s.data.toList.contains 32 = !((ofL (replL 32 33 s.data.toList)).toList == s.toList) := by
    cases hx : s.data.toList.contains 32 with
    | false =>
      have : replL 32 33 s.data.toList = s.data.toList := (repl_same (by decide) _).2 hx
      rw [this, eqS_yes (a := ofL s.data.toList) (b := s) rfl]; rfl
    | true =>
      have : ofL (replL 32 33 s.data.toList) ≠ s := fun h => by
        have h2 : replL 32 33 s.data.toList = s.data.toList := congrArg (fun z : ByteArray => z.data.toList) h
        rw [(repl_same (by decide) _).1 h2] at hx
        exact absurd hx (by simp)
      rw [eqS_no this]; rfl
  rw [hi]
  have hn : ((ofL (replL 32 33 s.data.toList)).toList != s.toList) = !((ofL (replL 32 33 s.data.toList)).toList == s.toList) := rfl
  have HI := Lib.hid hi
  clear hi
  generalize ofL (replL 32 33 s.data.toList) = r at *
  go_enter Tryz.func49, Tryz.ntmps49
  go_wp2_with fail
  refine (CR.out _).mono ?_
  rintro x w1 ⟨rfl, d1⟩
  go_wp2_with fail
  go_ret
  exact ⟨rfl, d1⟩
end Go.Proofs.YtaikmgnpfbnjjaaGreatDoor.Ev
