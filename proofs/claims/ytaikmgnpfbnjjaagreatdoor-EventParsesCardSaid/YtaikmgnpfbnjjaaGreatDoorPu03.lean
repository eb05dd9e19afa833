/- Contract of the reference's One. Contract of the reference's Tokens. Contracts of like and equal on equal lists. Plain: a scanner in memory, and what its calls compute. -/
import Derived.Test.YtaikmgnpfbnjjaaGreatDoorPu02
import Derived.Test.YtaikmgnpfbnjjaaGreatDoorPu01
namespace Go.Proofs.YtaikmgnpfbnjjaaGreatDoor
open Go.ChangeShapes Go.WideShapes Go.ChangeAt Go.RowKit
namespace Lex
/-- what One comes to -/
def OneR (l : List UInt8) (t : ByteArray) (w : World) (e : Ending) (w' : World) : Prop :=
  (match one l with
    | .ok p => e = .returned (.tuple #[.agg #[.int .i64 (p.kind : Int), .string (t.extract 0 p.len), .int .i64 (p.value : Int), .int .i64 0], .int .i64 0])
    | .error x => e = .returned (.tuple #[.agg #[.int .i64 0, .string ⟨#[]⟩, .int .i64 0, .int .i64 0], .int .i64 x])) ∧ Below w.heap.size w w'
theorem toList_cons (t : ByteArray) (h : 0 < t.size) : t.data.toList = t[0] :: t.data.toList.drop 1 := by
  have := drop_cons t 0 h
  simpa using this
theorem blk_result {x : Int} {w' : World} {tmps : Array Value} {c0 c1 c2 c3 : Value} {g : Nat} {fn : Func} {p u : Tmp}
    (h : fn.results = #[.cell p 144, .tmp u]) (hp : tmps.getD p undef = .pointer (some ⟨g, 0, none⟩)) (hx : tmps.getD u undef = .int .i64 x)
    (hg : Blk w' g 144 #[c0, c1, c2, c3]) : (results fn tmps).run Tryz.prog w' = .ok (.tuple #[.agg #[c0, c1, c2, c3], .int .i64 x]) w' :=
  results_blk_tmp h hp hg Tryz.underlying144 rfl (by kernel_rfl) hx
theorem refOne_let (t : ByteArray) (w : World) (hs : t.size ≤ maxLen) (ht : 0 < t.size) (hl : isLet t[0] = true) :
    Calls Tryz.prog 116 #[.string t] w (OneR t.data.toList t w) := by
  have hone : one t.data.toList = if 12 < runLen isInn t 0 then .error 3 else .ok ⟨1, runLen isInn t 0, 0⟩ := by
    have h1 : runLen isInn t 0 = span isInn (t.data.toList.drop 1) + 1 := by
      unfold runLen
      rw [drop_cons t 0 ht, span_cons (inn_of_let hl)]
    rw [h1]
    have h2 := toList_cons t ht
    generalize t.data.toList.drop 1 = l at *
    rw [h2]
    simp only [one, if_pos hl]
  have hle := runLen_le isInn t 0 (by omega)
  have h1 : runLen isInn t 0 = 1 + runLen isInn t 1 := (runLen_yes isInn t 0 ht (inn_of_let hl)).trans (Nat.add_comm _ _)
  have HO := Lib.hid hone
  have H1 := Lib.hid h1
  have RY := Lib.hid (runLen_yes isInn t)
  have RN := Lib.hid (runLen_no isInn t)
  have RE := Lib.hid (runLen_end isInn t)
  have RL := Lib.hid (runLen_le isInn t)
  clear hone h1
  unfold maxLen at hs
  have CL := Lib.hid rletter_any
  have CD := Lib.hid rdigit_any
  go_enter Tryz.func116, Tryz.ntmps116
  go_wp2_with (go_at_call 120; refine (CL.out _ _).mono ?_; rintro e w' ⟨rfl, rfl⟩; rw [hl])
  go_loop [4] (fun n => ∃ k : Nat, 1 ≤ k ∧ k ≤ t.size ∧ n = .int .i64 (k : Int) ∧ Hid (runLen isInn t 0 = k + runLen isInn t k)) (fun n => t.size - (intOf n).toNat)
  case atStart => exact ⟨1, by omega, by omega, rfl, H1⟩
  case round =>
    obtain ⟨k, hk1, hk, rfl, HR⟩ := hrel
    by_cases hlt : k < t.size
    · have hd : decide ((k : Int) < (t.size : Int)) = true := by simp; omega
      cases hp : isInn t[k] with
      | true =>
        have HR2 : Hid (runLen isInn t 0 = (k + 1) + runLen isInn t (k + 1)) := by
          have e1 := HR.out
          rw [RY.out k hlt hp] at e1
          show _ = _
          omega
        cases h2 : isLet t[k] with
        | true =>
          clear hp
          go_wp2_with (go_at_call 120; refine (CL.out _ _).mono ?_; rintro e w' ⟨rfl, rfl⟩; rw [h2])
          go_round
          case rel => exact ⟨k + 1, by omega, by omega, by go_num, HR2⟩
          case measure => simp [intOf]; omega
        | false =>
          cases h3 : isDig t[k] with
          | true =>
            clear hp
            go_wp2_with (first | (go_at_call 120; refine (CL.out _ _).mono ?_; rintro e w' ⟨rfl, rfl⟩; rw [h2]) | (go_at_call 139; refine (CD.out _ _).mono ?_; rintro e w' ⟨rfl, rfl⟩; rw [h3]))
            go_round
            case rel => exact ⟨k + 1, by omega, by omega, by go_num, HR2⟩
            case measure => simp [intOf]; omega
          | false =>
            have h95 : ((t[k].toNat : Int) == 95) = true := by
              simp [isInn, h2, h3] at hp
              simp; omega
            clear hp
            go_wp2_with (first | (go_at_call 120; refine (CL.out _ _).mono ?_; rintro e w' ⟨rfl, rfl⟩; rw [h2]) | (go_at_call 139; refine (CD.out _ _).mono ?_; rintro e w' ⟨rfl, rfl⟩; rw [h3]))
            go_round
            case rel => exact ⟨k + 1, by omega, by omega, by go_num, HR2⟩
            case measure => simp [intOf]; omega
      | false =>
        have h2 : isLet t[k] = false := by simp [isInn] at hp; exact hp.1
        have h3 : isDig t[k] = false := by simp [isInn] at hp; exact hp.2.1
        have h95 : ((t[k].toNat : Int) == 95) = false := by simp [isInn] at hp; simp; omega
        have hrk := RN.out k hlt hp
        have HK : Hid (runLen isInn t 0 = k) := by
          have e1 := HR.out
          show _ = _
          omega
        clear hp hrk
        by_cases h12 : 12 < k
        · have hd12 : decide ((12 : Int) < (k : Int)) = true := by simp; omega
          go_wp2_with (first | (go_at_call 120; refine (CL.out _ _).mono ?_; rintro e w' ⟨rfl, rfl⟩; rw [h2]) | (go_at_call 139; refine (CD.out _ _).mono ?_; rintro e w' ⟨rfl, rfl⟩; rw [h3]))
          refine bodyPost_ret (v := .tuple #[.agg #[.int .i64 0, .string ⟨#[]⟩, .int .i64 0, .int .i64 0], .int .i64 3]) (blk_result rfl rfl rfl (Blk.new _ _ _)) rfl ⟨?_, below_new _ _⟩
          rw [HO.out, HK.out, if_pos h12]
        · have hd12 : decide ((12 : Int) < (k : Int)) = false := by simp; omega
          go_wp2_with (first | (go_at_call 120; refine (CL.out _ _).mono ?_; rintro e w' ⟨rfl, rfl⟩; rw [h2]) | (go_at_call 139; refine (CD.out _ _).mono ?_; rintro e w' ⟨rfl, rfl⟩; rw [h3]))
          refine bodyPost_ret (v := .tuple #[.agg #[.int .i64 1, .string (t.extract 0 k), .int .i64 0, .int .i64 0], .int .i64 0]) (blk_result rfl rfl rfl (Blk.new _ _ _)) rfl ⟨?_, below_new _ _⟩
          rw [HO.out, HK.out, if_neg h12]
          rfl
    · have hd : decide ((k : Int) < (t.size : Int)) = false := by simp; omega
      have HK : Hid (runLen isInn t 0 = k) := by
        have e1 := HR.out
        have e2 := RE.out k (by omega)
        show _ = _
        omega
      by_cases h12 : 12 < k
      · have hd12 : decide ((12 : Int) < (k : Int)) = true := by simp; omega
        go_wp2_with fail
        refine bodyPost_ret (v := .tuple #[.agg #[.int .i64 0, .string ⟨#[]⟩, .int .i64 0, .int .i64 0], .int .i64 3]) (blk_result rfl rfl rfl (Blk.new _ _ _)) rfl ⟨?_, below_new _ _⟩
        rw [HO.out, HK.out, if_pos h12]
      · have hd12 : decide ((12 : Int) < (k : Int)) = false := by simp; omega
        go_wp2_with fail
        refine bodyPost_ret (v := .tuple #[.agg #[.int .i64 1, .string (t.extract 0 k), .int .i64 0, .int .i64 0], .int .i64 0]) (blk_result rfl rfl rfl (Blk.new _ _ _)) rfl ⟨?_, below_new _ _⟩
        rw [HO.out, HK.out, if_neg h12]
        rfl

theorem valT_part (t : ByteArray) (n : Nat) (hd : ∀ k (h : k < t.size), k < n → isDig t[k] = true) (hn : n ≤ t.size) : ∀ k, k ≤ n → valT t k + 1 ≤ 10 ^ k
  | 0, _ => by simp [valT, val]
  | k + 1, h => by
    have h1 := valT_part t n hd hn k (by omega)
    rw [valT_snoc t k (by omega), Nat.pow_succ]
    have h2 := dig_le (hd k (by omega) (by omega))
    omega
set_option maxHeartbeats 1600000 in
theorem refOne_dig (t : ByteArray) (w : World) (hs : t.size ≤ maxLen) (ht : 0 < t.size) (hl : isLet t[0] = false) (hg : isDig t[0] = true) :
    Calls Tryz.prog 116 #[.string t] w (OneR t.data.toList t w) := by
  have hone : one t.data.toList = if 1 < runLen isDig t 0 ∧ t[0].toNat = 48 then .error 2 else if 9 < runLen isDig t 0 then .error 4 else .ok ⟨2, runLen isDig t 0, valT t (runLen isDig t 0)⟩ := by
    have h1 : runLen isDig t 0 = span isDig (t.data.toList.drop 1) + 1 := by
      unfold runLen
      rw [drop_cons t 0 ht, span_cons hg]
    rw [h1]
    unfold valT
    have h2 := toList_cons t ht
    generalize t.data.toList.drop 1 = l at *
    rw [h2]
    simp only [one, if_neg (show ¬ isLet t[0] = true by simp [hl]), if_pos hg]
  have hle := runLen_le isDig t 0 (by omega)
  have hdg : ∀ k (h : k < t.size), k < runLen isDig t 0 → isDig t[k] = true := fun k h hk => span_all isDig t.data.toList k hk (by exact h)
  have hvt : ∀ k, k ≤ runLen isDig t 0 → runLen isDig t 0 ≤ 9 → valT t k < 1000000000 := fun k hk h9 => by
    have h1 := valT_part t (runLen isDig t 0) hdg (by omega) k hk
    have h2 : 10 ^ k ≤ 10 ^ 9 := Nat.pow_le_pow_right (by omega) (by omega)
    omega
  have HO := Lib.hid hone
  have VT := Lib.hid hvt
  have HD := Lib.hid hdg
  have VN := Lib.hid (valT_snoc t)
  have H1 : Hid (runLen isDig t 0 = 1 + runLen isDig t 1) := (runLen_yes isDig t 0 ht hg).trans (Nat.add_comm _ _)
  have RY := Lib.hid (runLen_yes isDig t)
  have RN := Lib.hid (runLen_no isDig t)
  have RE := Lib.hid (runLen_end isDig t)
  clear hone hvt hdg
  unfold maxLen at hs
  have CL := Lib.hid rletter_any
  have CD := Lib.hid rdigit_any
  go_enter Tryz.func116, Tryz.ntmps116
  go_wp2_with (first | (go_at_call 120; refine (CL.out _ _).mono ?_; rintro e w' ⟨rfl, rfl⟩; rw [hl]) | (go_at_call 139; refine (CD.out _ _).mono ?_; rintro e w' ⟨rfl, rfl⟩; rw [hg]))
  go_loop [4] (fun n => ∃ k : Nat, 1 ≤ k ∧ k ≤ t.size ∧ n = .int .i64 (k : Int) ∧ Hid (runLen isDig t 0 = k + runLen isDig t k)) (fun n => t.size - (intOf n).toNat)
  case atStart => exact ⟨1, by omega, by omega, rfl, H1⟩
  case round =>
    obtain ⟨k, hk1, hk, rfl, HR⟩ := hrel
    by_cases hlt : k < t.size
    · have hd : decide ((k : Int) < (t.size : Int)) = true := by simp; omega
      cases hp : isDig t[k] with
      | true =>
        have HR2 : Hid (runLen isDig t 0 = (k + 1) + runLen isDig t (k + 1)) := by
          have e1 := HR.out
          rw [RY.out k hlt hp] at e1
          show _ = _
          omega
        go_wp2_with (go_at_call 139; refine (CD.out _ _).mono ?_; rintro e w' ⟨rfl, rfl⟩; rw [hp])
        go_round
        case rel => exact ⟨k + 1, by omega, by omega, by go_num, HR2⟩
        case measure => simp [intOf]; omega
      | false =>
        have hrk := RN.out k hlt hp
        have HK : Hid (runLen isDig t 0 = k) := by
          have e1 := HR.out
          show _ = _
          omega
        clear hrk
        have VS := Lib.hid (fun j (hj : j ≤ k) (h9 : k ≤ 9) => VT.out j (by rw [HK.out]; exact hj) (by rw [HK.out]; exact h9))
        by_cases h1 : 1 < k
        · have hd1 : decide ((1 : Int) < (k : Int)) = true := by simp; omega
          by_cases h48 : t[0].toNat = 48
          · have hz : ((t[0].toNat : Int) == 48) = true := by simp; omega
            go_wp2_with (go_at_call 139; refine (CD.out _ _).mono ?_; rintro e w' ⟨rfl, rfl⟩; rw [hp])
            refine bodyPost_ret (v := .tuple #[.agg #[.int .i64 0, .string ⟨#[]⟩, .int .i64 0, .int .i64 0], .int .i64 2]) (blk_result rfl rfl rfl (Blk.new _ _ _)) rfl ⟨?_, below_new _ _⟩
            rw [HO.out, HK.out, if_pos ⟨h1, h48⟩]

          · have hz : ((t[0].toNat : Int) == 48) = false := by simp; omega
            have HN1 : Hid (¬ (1 < k ∧ t[0].toNat = 48)) := fun h => h48 h.2
            by_cases h9 : 9 < k
            · have hd9 : decide ((9 : Int) < (k : Int)) = true := by simp; omega
              go_wp2_with (go_at_call 139; refine (CD.out _ _).mono ?_; rintro e w' ⟨rfl, rfl⟩; rw [hp])
              refine bodyPost_ret (v := .tuple #[.agg #[.int .i64 0, .string ⟨#[]⟩, .int .i64 0, .int .i64 0], .int .i64 4]) (blk_result rfl rfl rfl (Blk.new _ _ _)) rfl ⟨?_, below_new _ _⟩
              rw [HO.out, HK.out, if_neg HN1.out, if_pos h9]

            · have hd9 : decide ((9 : Int) < (k : Int)) = false := by simp; omega
              have VS := Lib.hid (fun j (hj : j ≤ k) => VS.out j hj (by omega))
              clear h48
              go_wp2_with (go_at_call 139; refine (CD.out _ _).mono ?_; rintro e w' ⟨rfl, rfl⟩; rw [hp])
              go_loop [5, 6] (fun v i => ∃ j : Nat, j ≤ k ∧ i = .int .i64 (j : Int) ∧ v = .int .i64 (valT t j : Nat)) (fun _ i => k - (intOf i).toNat)
              case atStart => exact ⟨0, by omega, rfl, rfl⟩
              case round =>
                obtain ⟨j, hj, rfl, rfl⟩ := hrel
                by_cases hjt : j < k
                · have hd2 : decide ((j : Int) < (k : Int)) = true := by simp; omega
                  have hjs : j < t.size := by omega
                  have hv := VS.out j hj
                  have hb := dig_le (HD.out j hjs (by have := HK.out; omega))
                  have hx : ((t[j].toNat : Int) - 48) % 256 = (t[j].toNat : Int) - 48 := by omega
                  go_wp2_with fail
                  go_round
                  case rel => exact ⟨j + 1, by omega, by go_num, by rw [VN.out j hjs]; go_num⟩
                  case measure => simp [intOf]; omega
                · obtain rfl : j = k := by omega
                  have hd2 : decide ((j : Int) < (j : Int)) = false := by simp
                  go_wp2_with fail
                  refine bodyPost_ret (v := .tuple #[.agg #[.int .i64 2, .string (t.extract 0 j), .int .i64 (valT t j : Nat), .int .i64 0], .int .i64 0]) (blk_result rfl rfl rfl (Blk.new _ _ _)) rfl ⟨?_, below_new _ _⟩
                  rw [HO.out, HK.out, if_neg HN1.out, if_neg h9]
                  rfl

        · have hd1 : decide ((1 : Int) < (k : Int)) = false := by simp; omega
          have HN1 : Hid (¬ (1 < k ∧ t[0].toNat = 48)) := fun h => h1 h.1
          have h9 : ¬ 9 < k := by omega
          have hd9 : decide ((9 : Int) < (k : Int)) = false := by simp; omega
          have VS := Lib.hid (fun j (hj : j ≤ k) => VS.out j hj (by omega))
          go_wp2_with (go_at_call 139; refine (CD.out _ _).mono ?_; rintro e w' ⟨rfl, rfl⟩; rw [hp])
          go_loop [5, 6] (fun v i => ∃ j : Nat, j ≤ k ∧ i = .int .i64 (j : Int) ∧ v = .int .i64 (valT t j : Nat)) (fun _ i => k - (intOf i).toNat)
          case atStart => exact ⟨0, by omega, rfl, rfl⟩
          case round =>
            obtain ⟨j, hj, rfl, rfl⟩ := hrel
            by_cases hjt : j < k
            · have hd2 : decide ((j : Int) < (k : Int)) = true := by simp; omega
              have hjs : j < t.size := by omega
              have hv := VS.out j hj
              have hb := dig_le (HD.out j hjs (by have := HK.out; omega))
              have hx : ((t[j].toNat : Int) - 48) % 256 = (t[j].toNat : Int) - 48 := by omega
              go_wp2_with fail
              go_round
              case rel => exact ⟨j + 1, by omega, by go_num, by rw [VN.out j hjs]; go_num⟩
              case measure => simp [intOf]; omega
            · obtain rfl : j = k := by omega
              have hd2 : decide ((j : Int) < (j : Int)) = false := by simp
              go_wp2_with fail
              refine bodyPost_ret (v := .tuple #[.agg #[.int .i64 2, .string (t.extract 0 j), .int .i64 (valT t j : Nat), .int .i64 0], .int .i64 0]) (blk_result rfl rfl rfl (Blk.new _ _ _)) rfl ⟨?_, below_new _ _⟩
              rw [HO.out, HK.out, if_neg HN1.out, if_neg h9]
              rfl

    · have hd : decide ((k : Int) < (t.size : Int)) = false := by simp; omega
      have HK : Hid (runLen isDig t 0 = k) := by
        have e1 := HR.out
        have e2 := RE.out k (by omega)
        show _ = _
        omega
      have VS := Lib.hid (fun j (hj : j ≤ k) (h9 : k ≤ 9) => VT.out j (by rw [HK.out]; exact hj) (by rw [HK.out]; exact h9))
      by_cases h1 : 1 < k
      · have hd1 : decide ((1 : Int) < (k : Int)) = true := by simp; omega
        by_cases h48 : t[0].toNat = 48
        · have hz : ((t[0].toNat : Int) == 48) = true := by simp; omega
          go_wp2_with fail
          refine bodyPost_ret (v := .tuple #[.agg #[.int .i64 0, .string ⟨#[]⟩, .int .i64 0, .int .i64 0], .int .i64 2]) (blk_result rfl rfl rfl (Blk.new _ _ _)) rfl ⟨?_, below_new _ _⟩
          rw [HO.out, HK.out, if_pos ⟨h1, h48⟩]

        · have hz : ((t[0].toNat : Int) == 48) = false := by simp; omega
          have HN1 : Hid (¬ (1 < k ∧ t[0].toNat = 48)) := fun h => h48 h.2
          by_cases h9 : 9 < k
          · have hd9 : decide ((9 : Int) < (k : Int)) = true := by simp; omega
            go_wp2_with fail
            refine bodyPost_ret (v := .tuple #[.agg #[.int .i64 0, .string ⟨#[]⟩, .int .i64 0, .int .i64 0], .int .i64 4]) (blk_result rfl rfl rfl (Blk.new _ _ _)) rfl ⟨?_, below_new _ _⟩
            rw [HO.out, HK.out, if_neg HN1.out, if_pos h9]

          · have hd9 : decide ((9 : Int) < (k : Int)) = false := by simp; omega
            have VS := Lib.hid (fun j (hj : j ≤ k) => VS.out j hj (by omega))
            clear h48
            go_wp2_with fail
            go_loop [5, 6] (fun v i => ∃ j : Nat, j ≤ k ∧ i = .int .i64 (j : Int) ∧ v = .int .i64 (valT t j : Nat)) (fun _ i => k - (intOf i).toNat)
            case atStart => exact ⟨0, by omega, rfl, rfl⟩
            case round =>
              obtain ⟨j, hj, rfl, rfl⟩ := hrel
              by_cases hjt : j < k
              · have hd2 : decide ((j : Int) < (k : Int)) = true := by simp; omega
                have hjs : j < t.size := by omega
                have hv := VS.out j hj
                have hb := dig_le (HD.out j hjs (by have := HK.out; omega))
                have hx : ((t[j].toNat : Int) - 48) % 256 = (t[j].toNat : Int) - 48 := by omega
                go_wp2_with fail
                go_round
                case rel => exact ⟨j + 1, by omega, by go_num, by rw [VN.out j hjs]; go_num⟩
                case measure => simp [intOf]; omega
              · obtain rfl : j = k := by omega
                have hd2 : decide ((j : Int) < (j : Int)) = false := by simp
                go_wp2_with fail
                refine bodyPost_ret (v := .tuple #[.agg #[.int .i64 2, .string (t.extract 0 j), .int .i64 (valT t j : Nat), .int .i64 0], .int .i64 0]) (blk_result rfl rfl rfl (Blk.new _ _ _)) rfl ⟨?_, below_new _ _⟩
                rw [HO.out, HK.out, if_neg HN1.out, if_neg h9]
                rfl

      · have hd1 : decide ((1 : Int) < (k : Int)) = false := by simp; omega
        have HN1 : Hid (¬ (1 < k ∧ t[0].toNat = 48)) := fun h => h1 h.1
        have h9 : ¬ 9 < k := by omega
        have hd9 : decide ((9 : Int) < (k : Int)) = false := by simp; omega
        have VS := Lib.hid (fun j (hj : j ≤ k) => VS.out j hj (by omega))
        go_wp2_with fail
        go_loop [5, 6] (fun v i => ∃ j : Nat, j ≤ k ∧ i = .int .i64 (j : Int) ∧ v = .int .i64 (valT t j : Nat)) (fun _ i => k - (intOf i).toNat)
        case atStart => exact ⟨0, by omega, rfl, rfl⟩
        case round =>
          obtain ⟨j, hj, rfl, rfl⟩ := hrel
          by_cases hjt : j < k
          · have hd2 : decide ((j : Int) < (k : Int)) = true := by simp; omega
            have hjs : j < t.size := by omega
            have hv := VS.out j hj
            have hb := dig_le (HD.out j hjs (by have := HK.out; omega))
            have hx : ((t[j].toNat : Int) - 48) % 256 = (t[j].toNat : Int) - 48 := by omega
            go_wp2_with fail
            go_round
            case rel => exact ⟨j + 1, by omega, by go_num, by rw [VN.out j hjs]; go_num⟩
            case measure => simp [intOf]; omega
          · obtain rfl : j = k := by omega
            have hd2 : decide ((j : Int) < (j : Int)) = false := by simp
            go_wp2_with fail
            refine bodyPost_ret (v := .tuple #[.agg #[.int .i64 2, .string (t.extract 0 j), .int .i64 (valT t j : Nat), .int .i64 0], .int .i64 0]) (blk_result rfl rfl rfl (Blk.new _ _ _)) rfl ⟨?_, below_new _ _⟩
            rw [HO.out, HK.out, if_neg HN1.out, if_neg h9]
            rfl

theorem refOne_mark (t : ByteArray) (w : World) (hs : t.size ≤ maxLen) (ht : 0 < t.size) (hl : isLet t[0] = false) (hg : isDig t[0] = false) :
    Calls Tryz.prog 116 #[.string t] w (OneR t.data.toList t w) := by
  have hone : one t.data.toList = if isMark t[0] then .ok ⟨3, 1, 0⟩ else .error 2 := by
    have h2 := toList_cons t ht
    generalize t.data.toList.drop 1 = l at *
    rw [h2]
    simp only [one, if_neg (show ¬ isLet t[0] = true by simp [hl]), if_neg (show ¬ isDig t[0] = true by simp [hg])]
  have HO := Lib.hid hone
  clear hone
  unfold maxLen at hs
  have CL := Lib.hid rletter_any
  have CD := Lib.hid rdigit_any
  have CM := Lib.hid rmark_any
  cases hm : isMark t[0] with
  | true =>
    have HM := Lib.hid hm
    clear hm
    go_enter Tryz.func116, Tryz.ntmps116
    go_wp2_with (first | (go_at_call 120; refine (CL.out _ _).mono ?_; rintro e w' ⟨rfl, rfl⟩; rw [hl]) | (go_at_call 139; refine (CD.out _ _).mono ?_; rintro e w' ⟨rfl, rfl⟩; rw [hg]) | (go_at_call 140; refine (CM.out _ _).mono ?_; rintro e w' ⟨rfl, rfl⟩; rw [HM.out]))
    refine bodyPost_ret (v := .tuple #[.agg #[.int .i64 3, .string (t.extract 0 1), .int .i64 0, .int .i64 0], .int .i64 0]) (blk_result rfl rfl rfl (Blk.new _ _ _)) rfl ⟨?_, below_new _ _⟩
    rw [HO.out, if_pos HM.out]
    rfl
  | false =>
    have HM := Lib.hid hm
    clear hm
    go_enter Tryz.func116, Tryz.ntmps116
    go_wp2_with (first | (go_at_call 120; refine (CL.out _ _).mono ?_; rintro e w' ⟨rfl, rfl⟩; rw [hl]) | (go_at_call 139; refine (CD.out _ _).mono ?_; rintro e w' ⟨rfl, rfl⟩; rw [hg]) | (go_at_call 140; refine (CM.out _ _).mono ?_; rintro e w' ⟨rfl, rfl⟩; rw [HM.out]))
    refine bodyPost_ret (v := .tuple #[.agg #[.int .i64 0, .string ⟨#[]⟩, .int .i64 0, .int .i64 0], .int .i64 2]) (blk_result rfl rfl rfl (Blk.new _ _ _)) rfl ⟨?_, below_new _ _⟩
    rw [HO.out, if_neg (by rw [HM.out]; exact Bool.false_ne_true)]
theorem refOne_any (t : ByteArray) (w : World) (hs : t.size ≤ maxLen) (ht : 0 < t.size) : Calls Tryz.prog 116 #[.string t] w (OneR t.data.toList t w) := by
  cases hl : isLet t[0] with
  | true => exact refOne_let t w hs ht hl
  | false =>
    cases hg : isDig t[0] with
    | true => exact refOne_dig t w hs ht hl hg
    | false => exact refOne_mark t w hs ht hl hg
end Lex
end Go.Proofs.YtaikmgnpfbnjjaaGreatDoor
namespace Go.Proofs.YtaikmgnpfbnjjaaGreatDoor
open Go.ChangeShapes Go.WideShapes Go.ChangeAt Go.RowKit
namespace Lex
theorem rtok_info : (Tryz.prog.info? 144).map (fun i => (i.zero, i.size, i.bytes)) = some (some (.agg #[.int .i64 0, .string ⟨#[]⟩, .int .i64 0, .int .i64 0]), 4, 40) := by kernel_rfl
theorem rest_list (s : ByteArray) (k : Nat) : (s.extract k s.size).data.toList = s.data.toList.drop k := by
  have h : s.data.toList.length = s.size := rfl
  simp [List.extract]
  rw [List.take_of_length_le (by rw [List.length_drop, h]; exact Nat.le_refl _)]
theorem refOne_good (s : ByteArray) (k : Nat) (w : World) (hs : s.size ≤ maxLen) (hk : k < s.size) (p : Piece) (h : one (s.data.toList.drop k) = .ok p) :
    Calls Tryz.prog 116 #[.string (s.extract k s.size)] w fun e w' => e = .returned (.tuple #[.agg #[.int .i64 (p.kind : Int), .string (s.extract k (k + p.len)), .int .i64 (p.value : Int), .int .i64 0], .int .i64 0]) ∧ Below w.heap.size w w' := by
  have h0 := refOne_any (s.extract k s.size) w (by simp; omega) (by simp; omega)
  refine h0.mono fun e w' he => ?_
  have hl := (one_len h).2
  unfold OneR at he
  rw [rest_list, h] at he
  have hx : (s.extract k s.size).extract 0 p.len = s.extract k (k + p.len) := by
    have hl2 : p.len ≤ s.size - k := by rw [List.length_drop] at hl; exact hl
    rw [ByteArray.extract_extract, Nat.add_zero, Nat.min_eq_left (by omega)]
  dsimp only at he
  rw [hx] at he
  exact he
theorem refOne_bad (s : ByteArray) (k : Nat) (w : World) (hs : s.size ≤ maxLen) (hk : k < s.size) (x : Int) (h : one (s.data.toList.drop k) = .error x) :
    Calls Tryz.prog 116 #[.string (s.extract k s.size)] w fun e w' => e = .returned (.tuple #[.agg #[.int .i64 0, .string ⟨#[]⟩, .int .i64 0, .int .i64 0], .int .i64 x]) ∧ Below w.heap.size w w' := by
  have h0 := refOne_any (s.extract k s.size) w (by simp; omega) (by simp; omega)
  refine h0.mono fun e w' he => ?_
  unfold OneR at he
  rw [rest_list, h] at he
  exact he
theorem refTokens_long (s : ByteArray) (w : World) (hs : s.size ≤ maxLen) (h : 4000 < s.size) : Calls Tryz.prog 92 #[.string s] w (TokPost 144 (lex s) w) := by
  have hx : lex s = .error 3 := by unfold lex; rw [if_pos h]
  rw [hx]
  unfold maxLen at hs
  have hd : decide ((4000 : Int) < (s.size : Int)) = true := by simp; omega
  go_enter Tryz.func92, Tryz.ntmps92
  go_wp2_with fail
  go_ret2
  exact TokPost.bad (Below.refl _ _)
set_option maxRecDepth 100000 in
set_option maxHeartbeats 800000 in
theorem refTokens_short (s : ByteArray) (w : World) (h : s.size ≤ 4000) : Calls Tryz.prog 92 #[.string s] w (TokPost 144 (lex s) w) := by
  have hx : lex s = lexGo s (s.size + 1) 0 [] := by unfold lex; rw [if_neg (by omega)]
  rw [hx]
  have hd0 : decide ((4000 : Int) < (s.size : Int)) = false := by simp; omega
  obtain ⟨i0, hi0, hz0, hz1, hz2⟩ := info_parts rtok_info
  go_enter Tryz.func92, Tryz.ntmps92
  go_wp2_with fail
  go_loopw [4, 5] (fun v i wr => ∃ (k f : Nat) (L : List Tok), k ≤ s.size ∧ s.size < k + f ∧ L.length ≤ k ∧ i = .int .i64 (k : Int) ∧ Hid (lexGo s f k L = lexGo s (s.size + 1) 0 []) ∧ Hid (wr.ownsRow w.heap.size 144 4 v L.length (cellsOf L)) ∧ Hid (Below w.heap.size w wr)) (fun _ i _ => s.size - (intOf i).toNat)
  case atStart => exact ⟨0, s.size + 1, [], by omega, by omega, by simp, rfl, rfl, World.ownsRow_nil _ _ _ _, Below.refl _ _⟩
  case round =>
    obtain ⟨k, f, L, hk, hf, hL, rfl, HX, HO, HB⟩ := hrel
    obtain ⟨f, rfl⟩ : ∃ g, f = g + 1 := ⟨f - 1, by omega⟩
    by_cases hlt : k < s.size
    · have hd : decide ((k : Int) < (s.size : Int)) = true := by simp; omega
      have hby := s[k].toNat_lt
      by_cases h32 : s[k].toNat = 32
      · have hsp : ((s[k].toNat : Int) == 32) = true := by simp; omega
        have HX2 : Hid (lexGo s f (k + 1) L = lexGo s (s.size + 1) 0 []) := (lexGo_space hlt h32).symm.trans HX.out
        clear h32
        go_wp2_with fail
        go_roundw
        case rel => exact ⟨k + 1, f, L, by omega, by omega, by omega, by go_num, HX2, HO, HB⟩
        case measure => simp [intOf]; omega
      · have hsp : ((s[k].toNat : Int) == 32) = false := by simp; omega
        cases ho : one (s.data.toList.drop k) with
        | error x =>
          have HX2 := Lib.hid ((lexGo_err (f := f) (l := L) hlt h32 ho).symm.trans HX.out)
          have hx0 : (x != 0) = true := by rcases one_err ho with e | e | e <;> subst e <;> rfl
          have C1 := Lib.hid (fun w => refOne_bad s k w (by unfold maxLen; omega) hlt x ho)
          clear ho h32 HX
          go_wp2_with (go_at_call 116; refine (C1.out _).mono ?_; rintro e w1 ⟨rfl, b1⟩)
          go_ret2
          rw [← HX2.out]
          exact TokPost.bad ((chain0 HB.out b1).alloc (chain0 HB.out b1).size _)
        | ok p =>
          have HX2 := Lib.hid ((lexGo_tok (f := f) (l := L) hlt h32 ho).symm.trans HX.out)
          have C1 := Lib.hid (fun w => refOne_good s k w (by unfold maxLen; omega) hlt p ho)
          have hp := one_len ho
          have hzz : (s.extract k (k + p.len)).size = p.len := by simp at hp ⊢; omega
          have hpl : p.len ≤ s.size - k := by simpa using hp.2
          have hp1 := hp.1
          have HT : Hid ((oneTok s k p).cells = [.int .i64 (p.kind : Int), .string (s.extract k (k + p.len)), .int .i64 (p.value : Int), .int .i64 (k : Int)]) := rfl
          generalize oneTok s k p = tk at *
          generalize s.extract k (k + p.len) = t at *
          have HZ := Lib.hid hzz
          clear ho h32 HX hzz hp
          go_wp2_with fail
          refine (C1.out _).mono ?_
          rintro e w1 ⟨rfl, b1⟩
          have B1 := Lib.hid (chain0 HB.out b1)
          have O1 : Hid (w1.ownsRow w.heap.size 144 4 u4 L.length (cellsOf L)) := own_below HO.out b1
          clear b1 HB HO
          go_wp2_with (at_builtin; refine wpList_append_own _ rfl (.tmp 33) (.tmp 35) _ rfl w.heap.size 144 i0 _ 4 40 Tryz.underlying115 hi0 hz0 hz1 hz2 rfl (by decide) u4 L.length (cellsOf L) rfl ((O1.out.alloc _).alloc _) ⟨w1.heap.size + 1, 0, none⟩ 1 1 [.int .i64 (p.kind : Int), .string t, .int .i64 (p.value : Int), .int .i64 (k : Int)] rfl rfl ?c1 ?c2 ?c3 ?c4 ?c5 ?_)
          case c1 =>
            intro j u hj
            have hz : w1.heap.size + 1 = (w1.alloc (.cells #[.int .i64 (p.kind : Int), .string t, .int .i64 (p.value : Int), .int .i64 (k : Int)] 144)).heap.size := by simp
            rw [hz]
            exact four_new _ _ _ _ _ _ j u hj
          case c2 => exact one_cells4 rfl rfl rfl rfl
          case c3 => unfold maxLen; omega
          case c4 => omega
          case c5 => have := B1.out.size; simp; omega
          intro v' w2 hown hgr _
          have hB := ((Blk.new w1 144 #[.int .i64 (p.kind : Int), .string t, .int .i64 (p.value : Int), .int .i64 (k : Int)]).alloc (.cells #[.int .i64 (p.kind : Int), .string t, .int .i64 (p.value : Int), .int .i64 (k : Int)] 144)).grown hgr (fun e => by have := (O1.out.lt _ e.symm).2; omega)
          have hc := hB.c4
          have O2 : Hid (w2.ownsRow w.heap.size 144 4 v' (L ++ [tk]).length (cellsOf (L ++ [tk]))) := by
            rw [cellsOf_snoc, HT.out, List.length_append]
            exact hown
          have B2 : Hid (Below w.heap.size w w2) := ((B1.out.alloc B1.out.size _).alloc (by have := B1.out.size; simp; omega) _).grown hgr (by have := B1.out.size; simp; omega) (fun k hk => (O1.out.lt k hk).1)
          clear hB hgr hown O1 B1
          have hts : (t.size : Int) = (p.len : Int) := by rw [HZ.out]
          have HS := Lib.hid hts
          have hi1 : (0 : Int) ≤ (k : Int) + (t.size : Int) := by omega
          have hi2 : (k : Int) + (t.size : Int) ≤ 4000 := by omega
          clear hts
          go_wp2_with fail
          go_roundw
          case rel => exact ⟨k + p.len, f, L ++ [tk], by omega, by omega, by rw [List.length_append]; simp; omega, by rw [HS.out]; go_num, HX2, O2, B2⟩
          case measure => have := HS.out; simp [intOf]; omega
    · obtain rfl : k = s.size := by omega
      have hd : decide ((s.size : Int) < (s.size : Int)) = false := by simp
      go_wp2_with fail
      go_ret2
      rw [← HX.out, lexGo_end (Nat.le_refl _)]
      exact TokPost.good HO.out HB.out
end Lex
end Go.Proofs.YtaikmgnpfbnjjaaGreatDoor
namespace Go.Proofs.YtaikmgnpfbnjjaaGreatDoor
open Go.ChangeShapes Go.WideShapes Go.ChangeAt Go.RowKit
namespace Lex
theorem sl_cases {w : World} {v : Value} {L : List Tok} (h : Sl w 4 v L.length (cellsOf L)) : ∃ A c, v = .slice A L.length c ∧ L.length ≤ c ∧ c ≤ maxLen ∧ (0 < L.length → ∃ b o, A = some ⟨b, o, none⟩ ∧ b < w.heap.size ∧ TokRow w b o L) := by
  obtain ⟨_, A, c, h1, h2, h3, h4⟩ := h
  exact ⟨A, c, h1, h2, h3, h4⟩
end Lex
end Go.Proofs.YtaikmgnpfbnjjaaGreatDoor
namespace Go.Proofs.YtaikmgnpfbnjjaaGreatDoor
open Go.ChangeShapes Go.WideShapes Go.ChangeAt Go.RowKit

/-- w' is w but for block g and new blocks -/
structure Only (g : Nat) (w w' : World) : Prop where
  os : w'.os = w.os
  tape : w'.tape = w.tape
  output : w'.output = w.output
  size : w.heap.size ≤ w'.heap.size
  block : ∀ k, k < w.heap.size → k ≠ g → w'.heap[k]? = w.heap[k]?
section
variable {g B : Nat} {w w1 w2 : World}
theorem Only.refl (g : Nat) (w : World) : Only g w w := ⟨rfl, rfl, rfl, Nat.le_refl _, fun _ _ _ => rfl⟩
theorem Only.trans (h : Only g w w1) (k : Only g w1 w2) : Only g w w2 :=
  ⟨k.os.trans h.os, k.tape.trans h.tape, k.output.trans h.output, Nat.le_trans h.size k.size, fun i hi hne => (k.block i (Nat.lt_of_lt_of_le hi h.size) hne).trans (h.block i hi hne)⟩
theorem Only.of_below (g : Nat) (h : Below w.heap.size w w1) : Only g w w1 := ⟨h.os, h.tape, h.output, h.size, fun k hk _ => h.block k hk⟩
theorem Only.then_below (h : Only g w w1) (k : Below w1.heap.size w1 w2) : Only g w w2 := h.trans (Only.of_below g k)
theorem Only.put (h : Only g w w1) (o : Nat) (u : Value) : Only g w (w1.setCell ⟨g, o, none⟩ u) :=
  h.trans ⟨rfl, rfl, rfl, by simp [World.setCell], fun k _ hne => Below.heap_setCell _ _ _ _ hne⟩
theorem Only.alloc (h : Only g w w1) (o : Obj) : Only g w (w1.alloc o) := h.then_below (below_new w1 o)
theorem Only.drew (h : Only g w w1) : Only g w w1.drew := ⟨h.os, h.tape, h.output, h.size, h.block⟩
theorem Only.below (h : Only g w w1) (hb : B ≤ g) (hs : B ≤ w.heap.size) : Below B w w1 := ⟨h.os, h.tape, h.output, h.size, fun k hk => h.block k (by omega) (by omega)⟩
theorem Only.after_below {w0 : World} (b : Below w0.heap.size w0 w) (h : Only g w w1) (hg : w0.heap.size ≤ g) : Below w0.heap.size w0 w1 := b.trans (h.below hg b.size)
/-- a store far from g that lies in a new block -/
theorem Only.put_new (h : Only g w w1) {p : Addr} (hp : w.heap.size ≤ p.block) (u : Value) : Only g w (w1.setCell p u) :=
  ⟨h.os, h.tape, h.output, by have := h.size; simpa [World.setCell] using this, fun k hk hne => (Below.heap_setCell _ _ _ _ (by omega)).trans (h.block k hk hne)⟩
theorem Blk.only {t : TypeId} {cs : Array Value} {b : Nat} (h : Blk w b t cs) (o : Only g w w1) (hne : b ≠ g) : Blk w1 b t cs := (o.block b h.lt hne).trans h
end

namespace Lex
def peekT (L : List Tok) (e : Int) : Tok := if e = 0 then L.headD Tok.none else Tok.none
def nextL (L : List Tok) (e : Int) : List Tok := if e = 0 then L.tail else L
def failE (e x : Int) : Int := if e = 0 then x else e
def wrongE (L : List Tok) (e : Int) : Int := failE (if L = [] then failE e 1 else e) 2
def endE (L : List Tok) (e : Int) : Int := if e = 0 ∧ L ≠ [] then 3 else e
/-- a scanner at block g, its tokens' row in a block of the element type -/
def Scan (ts te : TypeId) (w : World) (g : Nat) (L : List Tok) (e : Int) : Prop :=
  ∃ A c, Blk w g ts #[.slice A L.length c, .int .i64 e] ∧ L.length ≤ c ∧ c ≤ maxLen ∧ (0 < L.length → ∃ b o cs, A = some ⟨b, o, none⟩ ∧ Blk w b te cs ∧ TokRow w b o L)
section
variable {ts te : TypeId} {w w' : World} {g : Nat} {L : List Tok} {e : Int}
theorem TokRow.keep {b o : Nat} {cs : Array Value} (h : TokRow w b o L) (h1 : Blk w b te cs) (h2 : Blk w' b te cs) : TokRow w' b o L := by
  intro j u hu
  rw [h2.cell, ← h1.cell]
  exact h j u hu
theorem Scan.lt (h : Scan ts te w g L e) : g < w.heap.size := by
  obtain ⟨A, c, hb, _⟩ := h
  exact hb.lt
theorem Scan.below (h : Scan ts te w g L e) (hb : Below w.heap.size w w') : Scan ts te w' g L e := by
  obtain ⟨A, c, h1, h2, h3, h4⟩ := h
  refine ⟨A, c, h1.below' hb, h2, h3, fun hn => ?_⟩
  obtain ⟨b, o, cs, e1, e2, e3⟩ := h4 hn
  exact ⟨b, o, cs, e1, e2.below' hb, e3.keep e2 (e2.below' hb)⟩
theorem Scan.other {g' : Nat} {ts' : TypeId} {cs' : Array Value} (h : Scan ts te w g L e) (hb : Only g' w w') (hg : Blk w g' ts' cs') (h1 : ts' ≠ ts) (h2 : ts' ≠ te) : Scan ts te w' g L e := by
  obtain ⟨A, c, k1, k2, k3, k4⟩ := h
  refine ⟨A, c, k1.only hb (k1.apart hg (Ne.symm h1)), k2, k3, fun hn => ?_⟩
  obtain ⟨b, o, cs, e1, e2, e3⟩ := k4 hn
  have := e2.only hb (e2.apart hg (Ne.symm h2))
  exact ⟨b, o, cs, e1, this, e3.keep e2 this⟩
theorem Scan.fail (h : Scan ts te w g L e) (hne : te ≠ ts) (x : Int) : Scan ts te (w.setCell ⟨g, 1, none⟩ (.int .i64 x)) g L x := by
  obtain ⟨A, c, k1, k2, k3, k4⟩ := h
  refine ⟨A, c, k1.put 1 _, k2, k3, fun hn => ?_⟩
  obtain ⟨b, o, cs, e1, e2, e3⟩ := k4 hn
  have := e2.far (p := ⟨g, 1, none⟩) (e2.apart k1 hne) (.int .i64 x)
  exact ⟨b, o, cs, e1, this, e3.keep e2 this⟩
theorem TokRow.tail {b o : Nat} {t : Tok} (h : TokRow w b o (t :: L)) : TokRow w b (o + 4) L := by
  intro j u hu
  have := h (4 + j) u (by
    show (t.cells ++ cellsOf L)[4 + j]? = some u
    rw [List.getElem?_append_right (by simp)]
    simpa using hu)
  rw [Nat.add_assoc]
  exact this
/-- the parts of a scanner that has a next token -/
theorem Scan.cons {t : Tok} (h : Scan ts te w g (t :: L) e) : ∃ b o c cs, Blk w g ts #[.slice (some ⟨b, o, none⟩) (L.length + 1) c, .int .i64 e] ∧ L.length + 1 ≤ c ∧ c ≤ maxLen ∧ Blk w b te cs ∧ TokRow w b o (t :: L) := by
  obtain ⟨A, c, k1, k2, k3, k4⟩ := h
  obtain ⟨b, o, cs, rfl, e2, e3⟩ := k4 (by simp)
  exact ⟨b, o, c, cs, k1, by simpa using k2, k3, e2, e3⟩
theorem Scan.nil_ (h : Scan ts te w g [] e) : ∃ A c, Blk w g ts #[.slice A 0 c, .int .i64 e] := by
  obtain ⟨A, c, k1, _⟩ := h
  exact ⟨A, c, k1⟩
theorem Scan.step {t : Tok} {b o c : Nat} {cs : Array Value} (k1 : Blk w g ts #[.slice (some ⟨b, o, none⟩) (L.length + 1) c, .int .i64 e]) (k2 : L.length + 1 ≤ c) (k3 : c ≤ maxLen) (e2 : Blk w b te cs) (e3 : TokRow w b o (t :: L)) (hne : te ≠ ts) {A : Option Addr} (hA : c ≠ 1 → A = some ⟨b, o + 4, none⟩) :
    Scan ts te (w.setCell ⟨g, 0, none⟩ (.slice A L.length (c - 1))) g L e := by
  refine ⟨A, c - 1, k1.put 0 _, by omega, by omega, fun hn => ?_⟩
  have h1 := e2.far (p := ⟨g, 0, none⟩) (e2.apart k1 hne) (.slice A L.length (c - 1))
  exact ⟨b, o + 4, cs, hA (by omega), h1, (e3.keep e2 h1).tail⟩
theorem Scan.mk2 {wF : World} {t : Tok} {b o c : Nat} {cs : Array Value} {A : Option Addr} (k1 : Blk wF g ts #[.slice A L.length (c - 1), .int .i64 e]) (k2 : L.length + 1 ≤ c) (k3 : c ≤ maxLen) (e2 : Blk w b te cs) (e3 : TokRow w b o (t :: L)) (e4 : Blk wF b te cs) (hA : c ≠ 1 → A = some ⟨b, o + 4, none⟩) :
    Scan ts te wF g L e :=
  ⟨A, c - 1, k1, by omega, by omega, fun hn => ⟨b, o + 4, cs, hA (by omega), e4, (e3.keep e2 e4).tail⟩⟩
end
/-- four stores into a block -/
abbrev put4 (w : World) (g : Nat) (a b c d : Value) : World := (((w.setCell ⟨g, 0, none⟩ a).setCell ⟨g, 1, none⟩ b).setCell ⟨g, 2, none⟩ c).setCell ⟨g, 3, none⟩ d
section
variable {w w0 : World} {g B : Nat} {t : TypeId} {a b c d : Value}
theorem put4_blk {x y z u : Value} (h : Blk w g t #[x, y, z, u]) : Blk (put4 w g a b c d) g t #[a, b, c, d] := (((h.put 0 a).put 1 b).put 2 c).put 3 d
theorem put4_far {g' : Nat} {t' : TypeId} {cs : Array Value} (h : Blk w g' t' cs) (hne : g' ≠ g) : Blk (put4 w g a b c d) g' t' cs := (((h.far hne a).far hne b).far hne c).far hne d
theorem put4_below (h : Below B w0 w) (hg : B ≤ g) : Below B w0 (put4 w g a b c d) := (((h.setCell hg a).setCell hg b).setCell hg c).setCell hg d
theorem put4_only {g' : Nat} (h : Only g' w0 w) (hg : w0.heap.size ≤ g) : Only g' w0 (put4 w g a b c d) := (((h.put_new (p := ⟨g, 0, none⟩) hg a).put_new (p := ⟨g, 1, none⟩) hg b).put_new (p := ⟨g, 2, none⟩) hg c).put_new (p := ⟨g, 3, none⟩) hg d
end
end Lex
end Go.Proofs.YtaikmgnpfbnjjaaGreatDoor
