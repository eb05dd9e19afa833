/- The examples of the chapter hold. Printed by gen_prh.py. The laws ProceedsFees, ProceedsChecks, ProceedsTexts: walks. Printed by gen_pri.py. -/
import Derived.Test.YtfopmaeaclbknaaDoorPk41
namespace Go.Proofs.YtfopmaeaclbknaaDoor.Pr
open Go.ChangeShapes Go.WideShapes Go.ChangeAt Go.RowKit Go.Maps Go.WideMaps Gn Cat Lex So
set_option linter.unusedVariables false
set_option linter.unusedSimpArgs false
theorem sel_nil : selR saleL [] = .error 1 := by kernel_rfl
theorem sell_nil (w : World) : SellP w (.slice none 0 0) [] := ⟨Sl.nil w 2, (fun x hx => by cases hx), (fun x hx => by cases hx), by show 0 * 40 ≤ _; omega⟩
def selX : Sel := ⟨⟨#[120]⟩, .slice none 0 0, []⟩
theorem decS_small {n : Nat} (h : n < 10) : decS (n : Int) = ⟨#[UInt8.ofNat (48 + n)]⟩ := by
  unfold decS
  rw [show Lib.itoa (n : Int) = Lib.decDigits n by unfold Lib.itoa; rw [if_neg (by omega), Int.toNat_natCast], Am.dec_small h]
def txt1 : ByteArray := ⟨#[120, 32, 49, 32, 50, 32, 51, 10, 116, 111, 116, 97, 108, 32, 51, 10]⟩
theorem fmt1 : fmtSh [selX] [⟨0, 1, 2⟩] ⟨#[]⟩ 0 = txt1 := by
  rw [fmtSh, if_neg (by decide), fmtSh, line1, line3]
  have e1 : decS 1 = ⟨#[49]⟩ := decS_small (n := 1) (by omega)
  have e2 : decS 2 = ⟨#[50]⟩ := decS_small (n := 2) (by omega)
  have e3 : decS (1 + 2) = ⟨#[51]⟩ := decS_small (n := 3) (by omega)
  have e4 : decS (0 + (1 + 2)) = ⟨#[51]⟩ := decS_small (n := 3) (by omega)
  show (⟨#[]⟩ ++ (selX.name) ++ ⟨#[32]⟩ ++ decS 1 ++ ⟨#[32]⟩ ++ decS 2 ++ ⟨#[32]⟩ ++ decS (1 + 2) ++ ⟨#[10]⟩ ++ ⟨#[116, 111, 116, 97, 108, 32]⟩ ++ decS (0 + (1 + 2)) ++ ⟨#[10]⟩ : ByteArray) = txt1
  rw [e1, e2, e3, e4]
  rfl
theorem txt1_eq : (txt1.toList == [120, 32, 49, 32, 50, 32, 51, 10, 116, 111, 116, 97, 108, 32, 51, 10]) = true := by
  first
    | kernel_rfl
    | decide +kernel
    | (unfold txt1; simp [ByteArray.toList, ByteArray.toList.loop])
theorem sellX (w : World) (g : Nat) (h : Blk w g 102 #[.string ⟨#[120]⟩, .slice none 0 0]) : SellP w (.slice (some ⟨g, 0, none⟩) 1 1) [selX] := ⟨sl_of_cells (n := 1) h rfl (by omega), (fun x hx => by
    simp only [List.mem_cons, List.not_mem_nil, or_false] at hx
    rw [hx]
    exact ⟨by show 1 ≤ maxLen; unfold maxLen; omega, Sl.nil w 1⟩), (fun x hx => by
    simp only [List.mem_cons, List.not_mem_nil, or_false] at hx
    rw [hx]; show 0 ≤ 1000; omega), by show 1 * 40 ≤ _; omega⟩
abbrev TruePost (w : World) (e : Ending) (w' : World) : Prop := e = .returned (.bool true) ∧ Below w.heap.size w w'
set_option maxHeartbeats 8000000 in
set_option maxRecDepth 100000 in
theorem awake_any (w : World) (ht : Am.Tab w) : Calls Tryd.prog 30 #[] w (TruePost w) := by
  have HT := Lib.hid (fun W (b : Below w.heap.size w W) => tab_keep ht b)
  have B0 := Lib.hid (below_new w (.cells #[.int .i64 0, .int .i64 1, .int .i64 1, .int .i64 0, .int .i64 0, .int .i64 0, .int .i64 0, .int .i64 4, .int .i64 7, .int .i64 11] 79))
  have I0 : Hid (InvS (w.alloc (.cells #[.int .i64 0, .int .i64 1, .int .i64 1, .int .i64 0, .int .i64 0, .int .i64 0, .int .i64 0, .int .i64 4, .int .i64 7, .int .i64 11] 79)) (.slice (some ⟨w.heap.size, 0, none⟩) 1 1) [inv1]) := sl_of_cells (n := 1) (cs := [inv1].flatMap Inv.cells) (Blk.new w 79 _) rfl (by omega)
  clear ht
  go_enter Tryd.func30, Tryd.ntmps30
  go_wp2_with fail
  generalize w.alloc (.cells #[.int .i64 0, .int .i64 1, .int .i64 1, .int .i64 0, .int .i64 0, .int .i64 0, .int .i64 0, .int .i64 4, .int .i64 7, .int .i64 11] 79) = w0 at *
  generalize w.heap.size = gl at I0
  refine (sale_any w0).mono ?_
  rintro e w1 ⟨vp, gp, rfl, spp, d1⟩
  have Sp := Lib.hid spp
  have B1 := Lib.hid (chain0 B0.out d1)
  replace I0 := Lib.hid (I0.out.keep d1)
  clear d1 spp
  go_wp2_with fail
  refine (two_any w1).mono ?_
  rintro e w2 ⟨hp, ap, bp, rfl, l2p, l1p, d2⟩
  have Lp := Lib.hid l2p
  have B2 := Lib.hid (chain0 B1.out d2)
  replace I0 := Lib.hid (I0.out.keep d2)
  replace Sp := Lib.hid (Sp.out.keep d2)
  clear d2 l2p l1p
  go_wp2_with fail
  refine (divide_any saleL 1 [selA ap, selB bp] [inv1] vp _ _ _ _ _ _ w2 Sp.out Lp.out I0.out (by decide)).mono ?_
  intro e w3 hp
  rw [div1] at hp
  obtain ⟨vx, rfl, x0, d3⟩ := hp
  have X0 := Lib.hid x0
  have B3 := Lib.hid (chain0 B2.out d3)
  replace I0 := Lib.hid (I0.out.keep d3)
  replace Sp := Lib.hid (Sp.out.keep d3)
  replace Lp := Lib.hid (Lp.out.keep d3)
  clear d3 x0
  go_wp2_with fail
  refine (sale_any w3).mono ?_
  rintro e w4 ⟨vq, gq, rfl, spq, d4⟩
  have Sq := Lib.hid spq
  have B4 := Lib.hid (chain0 B3.out d4)
  replace I0 := Lib.hid (I0.out.keep d4)
  replace Sp := Lib.hid (Sp.out.keep d4)
  replace Lp := Lib.hid (Lp.out.keep d4)
  replace X0 := Lib.hid (X0.out.keep d4)
  clear d4 spq
  go_wp2_with fail
  refine (two_any w4).mono ?_
  rintro e w5 ⟨hq, aq, bq, rfl, l2q, l1q, d5⟩
  have Lq := Lib.hid l1q
  have B5 := Lib.hid (chain0 B4.out d5)
  replace I0 := Lib.hid (I0.out.keep d5)
  replace Sp := Lib.hid (Sp.out.keep d5)
  replace Lp := Lib.hid (Lp.out.keep d5)
  replace X0 := Lib.hid (X0.out.keep d5)
  replace Sq := Lib.hid (Sq.out.keep d5)
  clear d5 l2q l1q
  go_wp2_with fail
  refine (divide_any saleL 1 [selA aq] [inv1] vq _ _ _ _ _ _ w5 Sq.out Lq.out I0.out (by decide)).mono ?_
  intro e w6 hp
  rw [div2] at hp
  obtain ⟨rfl, d6⟩ := hp
  have B6 := Lib.hid (chain0 B5.out d6)
  replace I0 := Lib.hid (I0.out.keep d6)
  replace Sp := Lib.hid (Sp.out.keep d6)
  replace Lp := Lib.hid (Lp.out.keep d6)
  replace X0 := Lib.hid (X0.out.keep d6)
  replace Sq := Lib.hid (Sq.out.keep d6)
  replace Lq := Lib.hid (Lq.out.keep d6)
  clear d6
  go_wp2_with fail
  refine (sale_any w6).mono ?_
  rintro e w7 ⟨vr, gr, rfl, spr, d7⟩
  have Sr := Lib.hid spr
  have B7 := Lib.hid (chain0 B6.out d7)
  replace I0 := Lib.hid (I0.out.keep d7)
  replace Sp := Lib.hid (Sp.out.keep d7)
  replace Lp := Lib.hid (Lp.out.keep d7)
  replace X0 := Lib.hid (X0.out.keep d7)
  replace Sq := Lib.hid (Sq.out.keep d7)
  replace Lq := Lib.hid (Lq.out.keep d7)
  clear d7 spr
  go_wp2_with fail
  refine (two_any w7).mono ?_
  rintro e w8 ⟨hr, ar, br, rfl, l2r, l1r, d8⟩
  have Lr := Lib.hid l2r
  have B8 := Lib.hid (chain0 B7.out d8)
  replace I0 := Lib.hid (I0.out.keep d8)
  replace Sp := Lib.hid (Sp.out.keep d8)
  replace Lp := Lib.hid (Lp.out.keep d8)
  replace X0 := Lib.hid (X0.out.keep d8)
  replace Sq := Lib.hid (Sq.out.keep d8)
  replace Lq := Lib.hid (Lq.out.keep d8)
  replace Sr := Lib.hid (Sr.out.keep d8)
  have d9 := below_new w8 (.cells #[.int .i64 0, .int .i64 1, .int .i64 0, .int .i64 0, .int .i64 0, .int .i64 0, .int .i64 0, .int .i64 4, .int .i64 7, .int .i64 11] 79)
  have I2 : Hid (InvS (w8.alloc (.cells #[.int .i64 0, .int .i64 1, .int .i64 0, .int .i64 0, .int .i64 0, .int .i64 0, .int .i64 0, .int .i64 4, .int .i64 7, .int .i64 11] 79)) (.slice (some ⟨w8.heap.size, 0, none⟩) 1 1) [inv2]) := sl_of_cells (n := 1) (cs := [inv2].flatMap Inv.cells) (Blk.new w8 79 _) rfl (by omega)
  replace d9 := Lib.hid d9
  clear d8 l2r l1r
  go_wp2_with fail
  generalize (w8.alloc (.cells #[.int .i64 0, .int .i64 1, .int .i64 0, .int .i64 0, .int .i64 0, .int .i64 0, .int .i64 0, .int .i64 4, .int .i64 7, .int .i64 11] 79)) = w9 at *
  generalize w8.heap.size = gi at I2
  replace d9 := d9.out
  have B9 := Lib.hid (chain0 B8.out d9)
  replace I0 := Lib.hid (I0.out.keep d9)
  replace Sp := Lib.hid (Sp.out.keep d9)
  replace Lp := Lib.hid (Lp.out.keep d9)
  replace X0 := Lib.hid (X0.out.keep d9)
  replace Sq := Lib.hid (Sq.out.keep d9)
  replace Lq := Lib.hid (Lq.out.keep d9)
  replace Sr := Lib.hid (Sr.out.keep d9)
  replace Lr := Lib.hid (Lr.out.keep d9)
  clear d9
  refine (divide_any saleL 1 [selA ar, selB br] [inv2] vr _ _ _ _ _ _ w9 Sr.out Lr.out I2.out (by decide)).mono ?_
  intro e w10 hp
  rw [div3] at hp
  obtain ⟨rfl, d10⟩ := hp
  have B10 := Lib.hid (chain0 B9.out d10)
  replace I0 := Lib.hid (I0.out.keep d10)
  replace Sp := Lib.hid (Sp.out.keep d10)
  replace Lp := Lib.hid (Lp.out.keep d10)
  replace X0 := Lib.hid (X0.out.keep d10)
  replace Sq := Lib.hid (Sq.out.keep d10)
  replace Lq := Lib.hid (Lq.out.keep d10)
  replace Sr := Lib.hid (Sr.out.keep d10)
  replace Lr := Lib.hid (Lr.out.keep d10)
  replace I2 := Lib.hid (I2.out.keep d10)
  clear d10
  go_wp2_with fail
  refine (fee_any 199 10 w10).mono ?_
  rintro e w11 ⟨rfl, d11⟩
  rw [fee1]
  have B11 := Lib.hid (chain0 B10.out d11)
  replace I0 := Lib.hid (I0.out.keep d11)
  replace Sp := Lib.hid (Sp.out.keep d11)
  replace Lp := Lib.hid (Lp.out.keep d11)
  replace X0 := Lib.hid (X0.out.keep d11)
  replace Sq := Lib.hid (Sq.out.keep d11)
  replace Lq := Lib.hid (Lq.out.keep d11)
  replace Sr := Lib.hid (Sr.out.keep d11)
  replace Lr := Lib.hid (Lr.out.keep d11)
  replace I2 := Lib.hid (I2.out.keep d11)
  clear d11
  go_wp2_with fail
  refine (fee_any 1 101 w11).mono ?_
  rintro e w12 ⟨rfl, d12⟩
  rw [fee2]
  have B12 := Lib.hid (chain0 B11.out d12)
  replace I0 := Lib.hid (I0.out.keep d12)
  replace Sp := Lib.hid (Sp.out.keep d12)
  replace Lp := Lib.hid (Lp.out.keep d12)
  replace X0 := Lib.hid (X0.out.keep d12)
  replace Sq := Lib.hid (Sq.out.keep d12)
  replace Lq := Lib.hid (Lq.out.keep d12)
  replace Sr := Lib.hid (Sr.out.keep d12)
  replace Lr := Lib.hid (Lr.out.keep d12)
  replace I2 := Lib.hid (I2.out.keep d12)
  clear d12
  go_wp2_with fail
  refine (shares_any [⟨0, 1, 2⟩, ⟨1, 3, 5⟩] vx w12 (by decide) X0.out).mono ?_
  rintro e w13 ⟨vz, rfl, z0, d13⟩
  have Z0 := Lib.hid z0
  have B13 := Lib.hid (chain0 B12.out d13)
  replace I0 := Lib.hid (I0.out.keep d13)
  replace Sp := Lib.hid (Sp.out.keep d13)
  replace Lp := Lib.hid (Lp.out.keep d13)
  replace X0 := Lib.hid (X0.out.keep d13)
  replace Sq := Lib.hid (Sq.out.keep d13)
  replace Lq := Lib.hid (Lq.out.keep d13)
  replace Sr := Lib.hid (Sr.out.keep d13)
  replace Lr := Lib.hid (Lr.out.keep d13)
  replace I2 := Lib.hid (I2.out.keep d13)
  have d14 := below_new w13 (.cells #[.int .i64 0, .int .i64 1, .int .i64 2, .int .i64 1, .int .i64 3, .int .i64 5] 100)
  have Y0 : Hid (ShrS (w13.alloc (.cells #[.int .i64 0, .int .i64 1, .int .i64 2, .int .i64 1, .int .i64 3, .int .i64 5] 100)) (.slice (some ⟨w13.heap.size, 0, none⟩) 2 2) [⟨0, 1, 2⟩, ⟨1, 3, 5⟩]) := sl_of_cells (n := 2) (cs := ([⟨0, 1, 2⟩, ⟨1, 3, 5⟩] : List Shr).flatMap Shr.cells) (Blk.new w13 100 _) rfl (by omega)
  replace d14 := Lib.hid d14
  clear d13 z0
  go_wp2_with fail
  generalize (w13.alloc (.cells #[.int .i64 0, .int .i64 1, .int .i64 2, .int .i64 1, .int .i64 3, .int .i64 5] 100)) = w14 at *
  generalize w13.heap.size = gy at Y0
  replace d14 := d14.out
  have B14 := Lib.hid (chain0 B13.out d14)
  replace I0 := Lib.hid (I0.out.keep d14)
  replace Sp := Lib.hid (Sp.out.keep d14)
  replace Lp := Lib.hid (Lp.out.keep d14)
  replace X0 := Lib.hid (X0.out.keep d14)
  replace Sq := Lib.hid (Sq.out.keep d14)
  replace Lq := Lib.hid (Lq.out.keep d14)
  replace Sr := Lib.hid (Sr.out.keep d14)
  replace Lr := Lib.hid (Lr.out.keep d14)
  replace I2 := Lib.hid (I2.out.keep d14)
  replace Z0 := Lib.hid (Z0.out.keep d14)
  clear d14
  refine (rsame_yes [⟨0, 1, 2⟩, ⟨1, 3, 5⟩] vz _ w14 (by decide) Z0.out Y0.out).mono ?_
  rintro e w15 ⟨rfl, d15⟩
  have B15 := Lib.hid (chain0 B14.out d15)
  replace I0 := Lib.hid (I0.out.keep d15)
  replace Sp := Lib.hid (Sp.out.keep d15)
  replace Lp := Lib.hid (Lp.out.keep d15)
  replace X0 := Lib.hid (X0.out.keep d15)
  replace Sq := Lib.hid (Sq.out.keep d15)
  replace Lq := Lib.hid (Lq.out.keep d15)
  replace Sr := Lib.hid (Sr.out.keep d15)
  replace Lr := Lib.hid (Lr.out.keep d15)
  replace I2 := Lib.hid (I2.out.keep d15)
  replace Z0 := Lib.hid (Z0.out.keep d15)
  clear d15
  go_wp2_with fail
  clear I0 Sp Lp X0 Sq Lq Sr Lr I2 Z0 Y0
  refine (sale_any w15).mono ?_
  rintro e w16 ⟨vu, gu, rfl, spu, d16⟩
  have Su := Lib.hid spu
  have B16 := Lib.hid (chain0 B15.out d16)
  clear d16 spu
  go_wp2_with fail
  refine (two_any w16).mono ?_
  rintro e w17 ⟨hu, au, bu, rfl, l2u, l1u, d17⟩
  have Lu := Lib.hid l2u
  have B17 := Lib.hid (chain0 B16.out d17)
  replace Su := Lib.hid (Su.out.keep d17)
  clear d17 l2u l1u
  go_wp2_with fail
  refine (selCheck_any saleL [selA au, selB bu] vu _ _ _ _ w17 Su.out Lu.out).mono ?_
  rintro e w18 ⟨rfl, d18⟩
  rw [show errOf (selR saleL [selA au, selB bu]) = 0 by rw [sel_ok]; rfl]
  have B18 := Lib.hid (chain0 B17.out d18)
  replace Su := Lib.hid (Su.out.keep d18)
  replace Lu := Lib.hid (Lu.out.keep d18)
  clear d18
  go_wp2_with fail
  refine (sale_any w18).mono ?_
  rintro e w19 ⟨vt, gt, rfl, spt, d19⟩
  have St := Lib.hid spt
  have B19 := Lib.hid (chain0 B18.out d19)
  replace Su := Lib.hid (Su.out.keep d19)
  replace Lu := Lib.hid (Lu.out.keep d19)
  clear d19 spt
  go_wp2_with fail
  refine (selCheck_any saleL [] vt _ _ _ _ w19 St.out (sell_nil w19)).mono ?_
  rintro e w20 ⟨rfl, d20⟩
  rw [show errOf (selR saleL []) = 1 by rw [sel_nil]; rfl]
  have B20 := Lib.hid (chain0 B19.out d20)
  replace Su := Lib.hid (Su.out.keep d20)
  replace Lu := Lib.hid (Lu.out.keep d20)
  replace St := Lib.hid (St.out.keep d20)
  have d21 := below_new w20 (.cells #[.string ⟨#[120]⟩, .slice none 0 0] 102)
  have d22 := below_new (w20.alloc (.cells #[.string ⟨#[120]⟩, .slice none 0 0] 102)) (.cells #[.int .i64 0, .int .i64 1, .int .i64 2] 75)
  have N1 := Lib.hid ((Blk.new w20 102 #[.string ⟨#[120]⟩, .slice none 0 0]).alloc (.cells #[.int .i64 0, .int .i64 1, .int .i64 2] 75))
  have N2 := Lib.hid (Blk.new (w20.alloc (.cells #[.string ⟨#[120]⟩, .slice none 0 0] 102)) 75 #[.int .i64 0, .int .i64 1, .int .i64 2])
  have BB := Lib.hid (chain0 B20.out (chain0 d21 d22))
  clear d21 d22 d20
  rw [World.size_alloc] at N2
  go_wp2_with fail
  generalize ((w20.alloc (.cells #[.string ⟨#[120]⟩, .slice none 0 0] 102)).alloc (.cells #[.int .i64 0, .int .i64 1, .int .i64 2] 75)) = W2 at *
  generalize w20.heap.size = gs at *
  have SS : SellP W2 (.slice (some ⟨gs, 0, none⟩) 1 1) [selX] := sellX W2 gs N1.out
  have SX : ShrS W2 (.slice (some ⟨gs + 1, 0, none⟩) 1 1) [⟨0, 1, 2⟩] := sl_of_cells (n := 1) (cs := ([⟨0, 1, 2⟩] : List Shr).flatMap Shr.cells) N2.out rfl (by omega)
  have TT := HT.out W2 BB.out
  refine (sformat_any [selX] [⟨0, 1, 2⟩] _ _ W2 SS (fun x hx => by
    simp only [List.mem_cons, List.not_mem_nil, or_false] at hx
    rw [hx]; show 1 ≤ 100; omega) (by decide) SX TT).mono ?_
  rintro e w9 ⟨rfl, d9⟩
  rw [fmt1]
  have BE := Lib.hid (chain0 BB.out d9)
  have TX := Lib.hid txt1_eq
  generalize txt1 = X1 at *
  clear d9 SS SX TT N1 N2
  go_wp2_with fail
  go_ret
  exact ⟨congrArg (fun b => Ending.returned (.bool b)) TX.out, BE.out⟩
end Go.Proofs.YtfopmaeaclbknaaDoor.Pr
namespace Go.Proofs.YtfopmaeaclbknaaDoor.Pr
open Go.ChangeShapes Go.WideShapes Go.ChangeAt Go.RowKit Go.Maps Go.WideMaps Gn Cat Lex So
set_option linter.unusedVariables false
set_option linter.unusedSimpArgs false
set_option maxHeartbeats 4000000
theorem law_fees (d p : Int) (w : World) (ht : Am.Tab w) : Calls Tryd.prog 10 #[.int .i64 d, .int .i64 p] w (TruePost w) := by
  have CA := Lib.hid (fun W (b : Below w.heap.size w W) => awake_any W (tab_keep ht b))
  have C1 := Lib.hid (fee_any d p w)
  have C2 := Lib.hid (fun W => rfee_any d p W)
  clear ht
  by_cases hr : 0 ≤ d ∧ d ≤ 1000000 ∧ 0 ≤ p ∧ p ≤ 100
  · have e : feeV d p = .tuple #[.int .i64 ((d * p).tdiv 100), .int .i64 (d - (d * p).tdiv 100), .int .i64 0] := by unfold feeV; rw [if_pos hr]
    rw [e] at C1 C2
    have hs : 0 ≤ (d * p).tdiv 100 ∧ (d * p).tdiv 100 ≤ d := by
      have h1 : 0 ≤ d * p := Int.mul_nonneg hr.1 hr.2.2.1
      have h2 : d * p ≤ d * 100 := Int.mul_le_mul_of_nonneg_left hr.2.2.2 hr.1
      rw [Int.tdiv_eq_ediv_of_nonneg h1]
      omega
    have q : (wrap64 ((d * p).tdiv 100 + (d - (d * p).tdiv 100)) == d) = true := by
      rw [show (d * p).tdiv 100 + (d - (d * p).tdiv 100) = d by omega]
      rw [show wrap64 d = d by unfold wrap64; omega]
      exact beq_self_eq_true _
    generalize (d * p).tdiv 100 = f at *
    clear e hr hs
    have q1 : (f == f) = true := beq_self_eq_true _
    have q2 : (d - f == d - f) = true := beq_self_eq_true _
    go_enter Tryd.func10, Tryd.ntmps10
    go_wp2_with fail
    refine C1.out.mono ?_
    rintro e w1 ⟨rfl, d1⟩
    have D1 := Lib.hid d1
    clear d1
    go_wp2_with fail
    refine (C2.out w1).mono ?_
    rintro e w2 ⟨rfl, d2⟩
    have D2 := Lib.hid (chain0 D1.out d2)
    clear d2
    go_wp2_with fail
    refine (CA.out w2 D2.out).mono ?_
    rintro e w3 ⟨rfl, d3⟩
    have D3 := Lib.hid (chain0 D2.out d3)
    clear d3
    go_wp2_with fail
    go_ret
    exact ⟨rfl, D3.out⟩
  · have e : feeV d p = .tuple #[.int .i64 0, .int .i64 0, .int .i64 4] := by unfold feeV; rw [if_neg hr]
    rw [e] at C1 C2
    clear e hr
    go_enter Tryd.func10, Tryd.ntmps10
    go_wp2_with fail
    refine C1.out.mono ?_
    rintro e w1 ⟨rfl, d1⟩
    have D1 := Lib.hid d1
    clear d1
    go_wp2_with fail
    refine (C2.out w1).mono ?_
    rintro e w2 ⟨rfl, d2⟩
    have D2 := Lib.hid (chain0 D1.out d2)
    clear d2
    go_wp2_with fail
    refine (CA.out w2 D2.out).mono ?_
    rintro e w3 ⟨rfl, d3⟩
    have D3 := Lib.hid (chain0 D2.out d3)
    clear d3
    go_wp2_with fail
    go_ret
    exact ⟨rfl, D3.out⟩
theorem few_out {n1 n2 m : Nat} {l : List Sel} (h : fewS n1 n2 l m = true) : n1 ≤ 8 ∧ n2 ≤ 10 ∧ l.length ≤ 12 ∧ (∀ x ∈ l, x.name.size ≤ 100 ∧ x.ps.length ≤ 12) ∧ m ≤ 20 := by
  unfold fewS fewB at h
  simp only [Bool.and_eq_true, decide_eq_true_eq, List.all_eq_true] at h
  exact ⟨h.1, h.2.1, h.2.2.1.1, fun x hx => by
    have := h.2.2.1.2 x hx
    unfold smallSel at this
    simp only [Bool.and_eq_true, decide_eq_true_eq] at this
    omega, h.2.2.2⟩
/-- the setup's products as the call gets them -/
structure SetF (w : World) (v1 : Value) (ps : List Prod) : Prop where
  sl : PS w v1 ps
  names : ∀ p ∈ ps, p.name.size ≤ maxLen
/-- the sellers as the call gets them -/
structure SellF (w : World) (v : Value) (l : List Sel) : Prop where
  sl : SelS w v l
  ok : SelOk w l
  size : l.length * 40 ≤ 140737488355328
theorem SetF.set {w : World} {v1 : Value} {ps : List Prod} (h : SetF w v1 ps) (hl : ps.length ≤ 8) : SetP w v1 ps := ⟨h.sl, by omega, h.names⟩
theorem SellF.sell {w : World} {v : Value} {l : List Sel} (h : SellF w v l) (hl : ∀ x ∈ l, x.name.size ≤ 100 ∧ x.ps.length ≤ 12) : SellP w v l := ⟨h.sl, h.ok, fun x hx => by have := (hl x hx).2; omega, h.size⟩
theorem SetF.keep {w w' : World} {v1 : Value} {ps : List Prod} (h : SetF w v1 ps) (b : Below w.heap.size w w') : SetF w' v1 ps := ⟨h.sl.keep b, h.names⟩
theorem SellF.keep {w w' : World} {v : Value} {l : List Sel} (h : SellF w v l) (b : Below w.heap.size w w') : SellF w' v l := ⟨h.sl.keep b, h.ok.keep b, h.size⟩
theorem setup_at (w : World) (t : TypeId) (a b c d : Value) : ∀ W, Below (w.alloc (.cells #[a, b, c, d] t)).heap.size (w.alloc (.cells #[a, b, c, d] t)) W → W.cell? ⟨w.heap.size, 0, none⟩ = some a ∧ W.cell? ⟨w.heap.size, 1, none⟩ = some b ∧ W.cell? ⟨w.heap.size, 2, none⟩ = some c ∧ W.cell? ⟨w.heap.size, 3, none⟩ = some d := fun W bw =>
  have K := (Blk.new w t #[a, b, c, d]).below' bw
  ⟨K.cell 0, K.cell 1, K.cell 2, K.cell 3⟩
theorem law_checks (ps : List Prod) (l : List Sel) (A1 A2 : Option Addr) (n2 c1 c2 : Nat) (v3 v4 v : Value) (w : World) (hs : SetF w (.slice A1 ps.length c1) ps) (hl : SellF w v l) (ht : Am.Tab w) : Calls Tryd.prog 9 #[.agg #[.slice A1 ps.length c1, .slice A2 n2 c2, v3, v4], v] w (TruePost w) := by
  have CA := Lib.hid (fun W (b : Below w.heap.size w W) => awake_any W (tab_keep ht b))
  have CF := Lib.hid (fun W (b : Below w.heap.size w W) => few_any A1 A2 ps.length n2 c1 c2 v3 v4 l v none 0 0 W hl.size (hl.ok.keep b) (hl.sl.keep b))
  have b0 := below_new w (.cells #[.slice A1 ps.length c1, .slice A2 n2 c2, v3, v4] 48)
  have HAT := Lib.hid (setup_at w 48 (.slice A1 ps.length c1) (.slice A2 n2 c2) v3 v4)
  obtain ⟨w0, hw0⟩ : ∃ W, W = w.alloc (.cells #[.slice A1 ps.length c1, .slice A2 n2 c2, v3, v4] 48) := ⟨_, rfl⟩
  have HW0 := Lib.hid hw0.symm
  rw [← hw0] at HAT b0
  have B0 := Lib.hid b0
  clear hw0 b0
  obtain ⟨Al, cl, rfl, _⟩ := sl_parts hl.sl
  by_cases hf : fewS ps.length n2 l 0 = true
  · obtain ⟨k1, k2, k3, k4, _⟩ := few_out hf
    rw [hf] at CF
    have C1 := Lib.hid (fun W (b : Below w.heap.size w W) => selCheck_any ps l (.slice A1 ps.length c1) (.slice A2 n2 c2) v3 v4 (.slice Al l.length cl) W ((hs.keep b).set k1) ((hl.keep b).sell k4))
    have C2 := Lib.hid (fun W (b : Below w.heap.size w W) => sellers_any l (.slice Al l.length cl) W hl.size (hl.ok.keep b) (hl.sl.keep b))
    have C3 := Lib.hid (fun W v' (b : Below w.heap.size w W) (hz : SelS W v' l) => rselCheck_any ps l (.slice A1 ps.length c1) (.slice A2 n2 c2) v3 v4 v' W ((hs.keep b).set k1) ⟨hz, hl.ok.keep b, fun x hx => by have := (k4 x hx).2; omega, hl.size⟩)
    clear hf k1 k2 k3 k4 hs hl ht
    generalize selR ps l = R at *
    have q : (errOf R == errOf R) = true := beq_self_eq_true _
    generalize errOf R = r at *
    generalize ps.length = n1 at *
    generalize l.length = nl at *
    go_enter Tryd.func9, Tryd.ntmps9
    go_wp2_with fail
    rw [HW0.out]
    have E0 := Lib.hid (Below.refl w0.heap.size w0)
    refine (CF.out w0 B0.out).mono ?_
    rintro e w1 ⟨rfl, d1⟩
    have E1 := Lib.hid (chain0 E0.out d1)
    have D1 := Lib.hid (chain0 B0.out E1.out)
    clear d1
    have hat := HAT.out w1 E1.out
    go_wp2_with fail
    clear hat
    have ED := Lib.hid E1.out.drew
    have hat := HAT.out _ ED.out
    go_region_held3 (fun w' => w'.cell? ⟨w.heap.size, 0, none⟩ = some (.slice A1 n1 c1) ∧ w'.cell? ⟨w.heap.size, 1, none⟩ = some (.slice A2 n2 c2) ∧ w'.cell? ⟨w.heap.size, 2, none⟩ = some v3 ∧ w'.cell? ⟨w.heap.size, 3, none⟩ = some v4) (first | exact hat | exact HAT.out _ ED.out | go_keep) (first
      | (go_at_call 37; with_reducible refine (C1.out _ (chain0 B0.out ED.out)).mono ?_; rintro e w9 ⟨rfl, dd⟩; replace ED := Lib.hid (chain0 ED.out dd); replace hat := HAT.out _ ED.out; clear dd)
      | (go_at_call 33; with_reducible refine (C2.out _ (chain0 B0.out ED.out)).mono ?_; rintro e w9 ⟨v', rfl, z3, dd⟩; replace ED := Lib.hid (chain0 ED.out dd); replace hat := HAT.out _ ED.out; clear dd; have Z3 := Lib.hid z3; clear z3)
      | (go_at_call 38; with_reducible refine (C3.out _ _ (chain0 B0.out ED.out) Z3.out).mono ?_; rintro e w9 ⟨rfl, dd⟩; replace ED := Lib.hid (chain0 ED.out dd); replace hat := HAT.out _ ED.out; clear dd)
      | (go_at_call 30; with_reducible refine (CA.out _ (chain0 B0.out ED.out)).mono ?_; rintro e w9 ⟨rfl, dd⟩; replace ED := Lib.hid (chain0 ED.out dd); replace hat := HAT.out _ ED.out; clear dd)
      )
    go_wp2_with fail
    go_ret
    exact ⟨rfl, chain0 B0.out ED.out⟩
  · rw [Bool.not_eq_true] at hf
    rw [hf] at CF
    clear hf hs hl ht
    generalize ps.length = n1 at *
    generalize l.length = nl at *
    go_enter Tryd.func9, Tryd.ntmps9
    go_wp2_with fail
    rw [HW0.out]
    have E0 := Lib.hid (Below.refl w0.heap.size w0)
    refine (CF.out w0 B0.out).mono ?_
    rintro e w1 ⟨rfl, d1⟩
    have E1 := Lib.hid (chain0 E0.out d1)
    have D1 := Lib.hid (chain0 B0.out E1.out)
    clear d1
    have hat := HAT.out w1 E1.out
    go_wp2_with fail
    clear hat
    refine (CA.out w1 (chain0 B0.out E1.out)).mono ?_
    rintro e w2 ⟨rfl, d2⟩
    have E2 := Lib.hid (chain0 E1.out d2)
    have D2 := Lib.hid (chain0 B0.out E2.out)
    clear d2
    go_wp2_with fail
    go_ret
    exact ⟨rfl, D2.out⟩
theorem law_texts (l : List Sel) (xs : List Shr) (v vx : Value) (w : World) (hl : SellF w v l) (hx : ShrS w vx xs) (ht : Am.Tab w) : Calls Tryd.prog 11 #[v, vx] w (TruePost w) := by
  have CA := Lib.hid (fun W (b : Below w.heap.size w W) => awake_any W (tab_keep ht b))
  have C1 := Lib.hid (fun W (b : Below w.heap.size w W) => sellers_any l v W hl.size (hl.ok.keep b) (hl.sl.keep b))
  have C2 := Lib.hid (fun W v' (b : Below w.heap.size w W) (hz : SelS W v' l) => refFew_any l v' W (hl.ok.keep b) hz)
  have D0 := Lib.hid (Below.refl w.heap.size w)
  by_cases hf : fewB l = true
  case neg =>
    rw [Bool.not_eq_true] at hf
    rw [hf] at C2
    obtain ⟨Al, cl, rfl, _⟩ := sl_parts hl.sl
    obtain ⟨Ax, cx, rfl, _⟩ := sl_parts hx
    clear hf hl hx ht
    generalize l.length = nl at *
    generalize xs.length = nx at *
    go_enter Tryd.func11, Tryd.ntmps11
    go_wp2_with fail
    refine (C1.out w D0.out).mono ?_
    rintro e w1 ⟨v1, rfl, z1, d1⟩
    have D1 := Lib.hid (chain0 D0.out d1)
    have Z1 := Lib.hid z1
    clear z1
    clear d1
    go_wp2_with fail
    refine (C2.out w1 v1 D1.out Z1.out).mono ?_
    rintro e w2 ⟨rfl, d2⟩
    have D2 := Lib.hid (chain0 D1.out d2)
    clear d2
    go_wp2_with fail
    refine (CA.out w2 D2.out).mono ?_
    rintro e w3 ⟨rfl, d3⟩
    have D3 := Lib.hid (chain0 D2.out d3)
    clear d3
    go_wp2_with fail
    go_ret
    exact ⟨rfl, D3.out⟩
  have hf2 : l.length ≤ 12 ∧ (∀ x ∈ l, x.name.size ≤ 100 ∧ x.ps.length ≤ 12) := by
    have h := hf
    unfold fewB at h
    simp only [Bool.and_eq_true, decide_eq_true_eq, List.all_eq_true] at h
    exact ⟨h.1, fun x hx => by
      have := h.2 x hx
      unfold smallSel at this
      simp only [Bool.and_eq_true, decide_eq_true_eq] at this
      omega⟩
  obtain ⟨k3, k4⟩ := hf2
  rw [hf] at C2
  by_cases hn : xs.length ≤ 20
  case neg =>
    have y1 : decide (20 < xs.length) = true := decide_eq_true (by omega)
    have y2 : decide ((20 : Int) < (xs.length : Int)) = true := decide_eq_true (by omega)
    obtain ⟨Al, cl, rfl, _⟩ := sl_parts hl.sl
    obtain ⟨Ax, cx, rfl, _⟩ := sl_parts hx
    clear hf hl hx ht hn k3 k4
    generalize l.length = nl at *
    generalize xs.length = nx at *
    go_enter Tryd.func11, Tryd.ntmps11
    go_wp2_with fail
    refine (C1.out w D0.out).mono ?_
    rintro e w1 ⟨v1, rfl, z1, d1⟩
    have D1 := Lib.hid (chain0 D0.out d1)
    have Z1 := Lib.hid z1
    clear z1
    clear d1
    go_wp2_with fail
    refine (C2.out w1 v1 D1.out Z1.out).mono ?_
    rintro e w2 ⟨rfl, d2⟩
    have D2 := Lib.hid (chain0 D1.out d2)
    clear d2
    go_wp2_with fail
    refine (CA.out w2 D2.out).mono ?_
    rintro e w3 ⟨rfl, d3⟩
    have D3 := Lib.hid (chain0 D2.out d3)
    clear d3
    go_wp2_with fail
    go_ret
    exact ⟨rfl, D3.out⟩
  have y1 : decide (20 < xs.length) = false := decide_eq_false (by omega)
  have y2 : decide ((20 : Int) < (xs.length : Int)) = false := decide_eq_false (by omega)
  have C3 := Lib.hid (fun W (b : Below w.heap.size w W) => shares_any xs vx W (by omega) (hx.keep b))
  have C4 := Lib.hid (fun W (b : Below w.heap.size w W) => sformat_any l xs v vx W ((hl.keep b).sell k4) (fun x hx => (k4 x hx).1) hn (hx.keep b) (tab_keep ht b))
  have C5 := Lib.hid (fun W v' vy (b : Below w.heap.size w W) (hz : SelS W v' l) (hy : ShrS W vy xs) => rsformat_any l xs v' vy W ⟨hz, hl.ok.keep b, fun x hx => by have := (k4 x hx).2; omega, hl.size⟩ (fun x hx => (k4 x hx).1) hn hy (tab_keep ht b))
  obtain ⟨Al, cl, rfl, _⟩ := sl_parts hl.sl
  obtain ⟨Ax, cx, rfl, _⟩ := sl_parts hx
  have q : ((fmtSh l xs ⟨#[]⟩ 0).toList == (fmtSh l xs ⟨#[]⟩ 0).toList) = true := beq_self_eq_true _
  clear hf hl hx ht hn k3 k4
  generalize fmtSh l xs ⟨#[]⟩ 0 = t at *
  generalize l.length = nl at *
  generalize xs.length = nx at *
  go_enter Tryd.func11, Tryd.ntmps11
  go_wp2_with fail
  refine (C1.out w D0.out).mono ?_
  rintro e w1 ⟨v1, rfl, z1, d1⟩
  have D1 := Lib.hid (chain0 D0.out d1)
  have Z1 := Lib.hid z1
  clear z1
  clear d1
  go_wp2_with fail
  refine (C2.out w1 v1 D1.out Z1.out).mono ?_
  rintro e w2 ⟨rfl, d2⟩
  have D2 := Lib.hid (chain0 D1.out d2)
  clear d2
  go_wp2_with fail
  refine (C4.out w2 D2.out).mono ?_
  rintro e w3 ⟨rfl, d3⟩
  have D3 := Lib.hid (chain0 D2.out d3)
  clear d3
  go_wp2_with fail
  refine (C1.out w3 D3.out).mono ?_
  rintro e w4 ⟨v3, rfl, z3, d4⟩
  have D4 := Lib.hid (chain0 D3.out d4)
  have Z3 := Lib.hid z3
  clear z3
  clear d4
  go_wp2_with fail
  refine (C3.out w4 D4.out).mono ?_
  rintro e w5 ⟨v4, rfl, z4, d5⟩
  have D5 := Lib.hid (chain0 D4.out d5)
  have Z4 := Lib.hid z4
  replace Z3 := Lib.hid (Z3.out.keep d5)
  clear z4
  clear d5
  go_wp2_with fail
  refine (C5.out w5 _ _ D5.out Z3.out Z4.out).mono ?_
  rintro e w6 ⟨rfl, d6⟩
  have D6 := Lib.hid (chain0 D5.out d6)
  clear d6
  go_wp2_with fail
  refine (CA.out w6 D6.out).mono ?_
  rintro e w7 ⟨rfl, d7⟩
  have D7 := Lib.hid (chain0 D6.out d7)
  clear d7
  go_wp2_with fail
  go_ret
  exact ⟨rfl, D7.out⟩
end Go.Proofs.YtfopmaeaclbknaaDoor.Pr
