/- A part of the proof of the card in the last text. -/
import Derived.KernelRfl
import Derived.Test.YtdpoipifjknhkaaGreatDoorProg
import Derived.Test.YtdpoipifjknhkaaGreatDoorT05
section
namespace Go.QZ
open Go Go.Abs Go.Proofs
variable {Φ : World → Prop}
set_option maxRecDepth 100000
def ac6 : ACode :=
 (.seq (.region [⟨(some 3), .fbox 5 (.tmp 0), none⟩,
 ⟨(some 4), .fbox 6 (.tmp 1), none⟩,
 ⟨(some 5), .box 50 6 (.tmp 2), none⟩,
 ⟨(some 6), .mov (.val (.bool false)), none⟩] (some [3, 4, 5]))
 (.seq (.region [⟨(some 9), .callF 9 [], none⟩,
 ⟨(some 7), .mov (.tmp 9), none⟩] (some [3, 4, 5, 7]))
 (.seq (.seq (.region [⟨(some 10), .load (some 5) (.tmp 3), none⟩,
 ⟨(some 11), .callF 18 [(.tmp 10)], none⟩,
 ⟨(some 12), .un .not (.tmp 11), none⟩,
 ⟨(some 13), .mov (.tmp 12), none⟩,
 ⟨(some 14), .load (some 6) (.tmp 4), (some (13, false))⟩,
 ⟨(some 15), .callF 19 [(.tmp 14), (.val (.int .i64 40))], (some (13, false))⟩,
 ⟨(some 16), .un .not (.tmp 15), (some (13, false))⟩,
 ⟨(some 17), .pick (.tmp 13) (.val (.bool true)) (.tmp 16), none⟩,
 ⟨(some 18), .mov (.tmp 17), none⟩,
 ⟨(some 19), .load (some 6) (.tmp 5), (some (18, false))⟩,
 ⟨(some 20), .callF 19 [(.tmp 19), (.val (.int .i64 40))], (some (18, false))⟩,
 ⟨(some 21), .un .not (.tmp 20), (some (18, false))⟩,
 ⟨(some 22), .pick (.tmp 18) (.val (.bool true)) (.tmp 21), none⟩] (some [3, 4, 5, 7, 22]))
 (.cond (.tmp 22) (.seq (.region [⟨(some 23), .mov (.tmp 7), none⟩,
 ⟨(some 6), .mov (.tmp 23), none⟩] (some [6]))
 .ret)
 .skip))
 (.seq (.region [⟨(some 24), .fieldAddr 5 (.tmp 5), none⟩,
 ⟨none, .store 1 (.tmp 24) (.val .nils), none⟩] (some [3, 4, 5, 7]))
 (.seq (.seq (.region [⟨(some 8), .mov (.val (.int .i64 0)), none⟩] (some [3, 4, 5, 7, 8]))
 (.block 0 (.loop (.seq (.seq (.region [⟨(some 25), .mov (.tmp 8), none⟩,
 ⟨(some 26), .fieldAddr 5 (.tmp 4), none⟩,
 ⟨(some 27), .load none (.tmp 26), none⟩,
 ⟨(some 28), .len .slice (.tmp 27), none⟩,
 ⟨(some 29), .bin .num .lss (.tmp 25) (.tmp 28), none⟩] (some [3, 4, 5, 7, 8, 29]))
 (.cond (.tmp 29) .skip
 (.exit 0)))
 (.seq (.block 1 (.seq (.draw [⟨⟨(some 32), .load (some 5) (.tmp 3), none⟩, false, 0, false⟩,
 ⟨⟨(some 33), .fieldAddr 5 (.tmp 4), none⟩, false, 0, false⟩,
 ⟨⟨(some 34), .load none (.tmp 33), none⟩, false, 0, false⟩,
 ⟨⟨(some 35), .mov (.tmp 8), none⟩, false, 0, false⟩,
 ⟨⟨(some 36), .elemAddr 2 (.tmp 34) (.tmp 35), none⟩, false, 0, false⟩,
 ⟨⟨(some 37), .fieldAddr 0 (.tmp 36), none⟩, false, 0, false⟩,
 ⟨⟨(some 38), .load none (.tmp 37), none⟩, false, 0, false⟩,
 ⟨⟨(some 39), .callF 23 [(.tmp 32), (.tmp 38)], none⟩, false, 0, false⟩] (some [3, 4, 5, 7, 8, 39]))
 (.cond (.tmp 39) (.draw [⟨⟨(some 40), .fieldAddr 5 (.tmp 5), none⟩, false, 0, false⟩,
 ⟨⟨(some 41), .load none (.tmp 40), none⟩, false, 0, false⟩,
 ⟨⟨(some 42), .fieldAddr 5 (.tmp 4), none⟩, false, 0, false⟩,
 ⟨⟨(some 43), .load none (.tmp 42), none⟩, false, 0, false⟩,
 ⟨⟨(some 44), .mov (.tmp 8), none⟩, false, 0, false⟩,
 ⟨⟨(some 45), .elemAddr 2 (.tmp 43) (.tmp 44), none⟩, false, 0, false⟩,
 ⟨⟨(some 46), .load (some 2) (.tmp 45), none⟩, false, 0, false⟩,
 ⟨⟨(some 47), .fslice 2 [(.tmp 46)], none⟩, false, 0, false⟩,
 ⟨⟨(some 48), .append 58 2 32 (.tmp 41) (.tmp 47), none⟩, true, 0, false⟩,
 ⟨⟨(some 49), .fieldAddr 5 (.tmp 5), none⟩, false, 0, false⟩,
 ⟨⟨none, .store 1 (.tmp 49) (.tmp 48), none⟩, true, 0, false⟩] (some [3, 4, 5, 7, 8]))
 .skip)))
 (.region [⟨(some 30), .mov (.tmp 8), none⟩,
 ⟨(some 31), .bin .num .add (.tmp 30) (.val (.int .i64 1)), none⟩,
 ⟨(some 8), .mov (.tmp 31), none⟩] (some [3, 4, 5, 7, 8])))))))
 (.seq (.draw [⟨⟨(some 50), .mov (.tmp 7), none⟩, false, 0, false⟩,
 ⟨⟨(some 51), .mov (.tmp 50), none⟩, false, 0, false⟩,
 ⟨⟨(some 52), .load (some 5) (.tmp 3), (some (51, true))⟩, false, 0, false⟩,
 ⟨⟨(some 53), .load (some 6) (.tmp 4), (some (51, true))⟩, false, 0, false⟩,
 ⟨⟨(some 54), .callF 22 [(.tmp 52), (.tmp 53)], (some (51, true))⟩, false, 0, false⟩,
 ⟨⟨(some 55), .load (some 5) (.tmp 3), (some (51, true))⟩, false, 0, false⟩,
 ⟨⟨(some 56), .load (some 6) (.tmp 5), (some (51, true))⟩, false, 0, false⟩,
 ⟨⟨(some 57), .callF 22 [(.tmp 55), (.tmp 56)], (some (51, true))⟩, false, 0, false⟩,
 ⟨⟨(some 58), .bin .bool .eql (.tmp 54) (.tmp 57), (some (51, true))⟩, false, 0, false⟩,
 ⟨⟨(some 59), .pick (.tmp 51) (.tmp 58) (.val (.bool false)), none⟩, false, 0, false⟩,
 ⟨⟨(some 6), .mov (.tmp 59), none⟩, false, 0, false⟩] (some [6]))
 .ret))))))
theorem cc6 : compF Tryz.prog [3, 4, 47] Tryz.f6 = some ac6 := by kernel_rfl
theorem go6 {args : List AV} {h0 : AHeap} {Q : AEnd → AHeap → Prop} (hl : args.length ≤ 60) (h : HLow h0.length h0 → Ewp Tryz.prog Φ h0.length ac6 (ebodyQ Φ [(.tmp 6)] h0.length Q) (argEnv args 0) h0) : S Tryz.prog Φ 6 args h0 Q :=
 S_of_codeW Tryz.func6 rfl rfl cc6 (by kernel_rfl) hl h
def ac9 : ACode :=
 (.seq (.region [⟨(some 0), .mov (.val (.bool false)), none⟩] (some []))
 (.seq (.region [⟨(some 20), .callF 13 [(.val (.str [105, 110, 115, 105, 100, 101, 32, 97, 49, 32, 110, 111, 100, 101, 32, 119, 104, 101, 114, 101, 32, 99, 108, 97, 115, 115, 32, 61, 32, 34, 99, 97, 102, 101, 34, 32, 97, 110, 100, 32, 110, 111, 116, 32, 40, 104, 111, 117, 114, 115, 32, 111, 114, 32, 108, 101, 118, 101, 108, 32, 62, 32, 50, 41]))], none⟩,
 ⟨(some 19), .mov (.tmp 20), none⟩,
 ⟨(some 21), .extract (.tmp 19) 0, none⟩,
 ⟨(some 22), .extract (.tmp 19) 1, none⟩,
 ⟨(some 23), .extract (.tmp 19) 2, none⟩,
 ⟨(some 1), .alloc 28 14 (.agg [(.int .i64 0), (.int .i64 0), (.int .i64 0), (.str []), (.str []), (.int .i64 0), .nils, (.str []), (.int .i64 0), (.int .i64 0), (.int .i64 0), (.str []), (.str []), (.int .i64 0)]), none⟩,
 ⟨none, .store 14 (.tmp 1) (.tmp 21), none⟩,
 ⟨(some 2), .mov (.tmp 22), none⟩,
 ⟨(some 3), .mov (.tmp 23), none⟩] (some [1, 2]))
 (.seq (.region [⟨(some 25), .callF 13 [(.val (.str [110, 101, 97, 114, 101, 115, 116, 32, 48, 32, 116, 111, 32, 49, 32, 49, 32, 97, 110, 121]))], none⟩,
 ⟨(some 24), .mov (.tmp 25), none⟩,
 ⟨(some 26), .extract (.tmp 24) 0, none⟩,
 ⟨(some 27), .extract (.tmp 24) 1, none⟩,
 ⟨(some 28), .extract (.tmp 24) 2, none⟩,
 ⟨(some 4), .alloc 28 14 (.agg [(.int .i64 0), (.int .i64 0), (.int .i64 0), (.str []), (.str []), (.int .i64 0), .nils, (.str []), (.int .i64 0), (.int .i64 0), (.int .i64 0), (.str []), (.str []), (.int .i64 0)]), none⟩,
 ⟨none, .store 14 (.tmp 4) (.tmp 26), none⟩,
 ⟨(some 5), .mov (.tmp 27), none⟩,
 ⟨(some 6), .mov (.tmp 28), none⟩] (some [1, 2, 5, 6]))
 (.seq (.region [⟨(some 30), .callF 13 [(.val (.str [97, 108, 108, 32, 110, 111, 100, 101, 32, 119, 104, 101, 114, 101, 32, 110, 111, 116]))], none⟩,
 ⟨(some 29), .mov (.tmp 30), none⟩,
 ⟨(some 31), .extract (.tmp 29) 0, none⟩,
 ⟨(some 32), .extract (.tmp 29) 1, none⟩,
 ⟨(some 33), .extract (.tmp 29) 2, none⟩,
 ⟨(some 7), .alloc 28 14 (.agg [(.int .i64 0), (.int .i64 0), (.int .i64 0), (.str []), (.str []), (.int .i64 0), .nils, (.str []), (.int .i64 0), (.int .i64 0), (.int .i64 0), (.str []), (.str []), (.int .i64 0)]), none⟩,
 ⟨none, .store 14 (.tmp 7) (.tmp 31), none⟩,
 ⟨(some 8), .mov (.tmp 32), none⟩,
 ⟨(some 9), .mov (.tmp 33), none⟩] (some [1, 2, 5, 6, 8, 9]))
 (.seq (.region [⟨(some 35), .callF 13 [(.val (.str [114, 101, 97, 99, 104, 32, 110, 49, 32, 105, 110, 32, 51, 48, 32, 98, 121, 32, 99, 97, 114, 32, 97, 116, 32, 54, 48, 48, 32, 119, 97, 121]))], none⟩,
 ⟨(some 34), .mov (.tmp 35), none⟩,
 ⟨(some 36), .extract (.tmp 34) 0, none⟩,
 ⟨(some 37), .extract (.tmp 34) 1, none⟩,
 ⟨(some 38), .extract (.tmp 34) 2, none⟩,
 ⟨(some 10), .alloc 28 14 (.agg [(.int .i64 0), (.int .i64 0), (.int .i64 0), (.str []), (.str []), (.int .i64 0), .nils, (.str []), (.int .i64 0), (.int .i64 0), (.int .i64 0), (.str []), (.str []), (.int .i64 0)]), none⟩,
 ⟨none, .store 14 (.tmp 10) (.tmp 36), none⟩,
 ⟨(some 11), .mov (.tmp 37), none⟩,
 ⟨(some 12), .mov (.tmp 38), none⟩] (some [1, 2, 5, 6, 8, 9, 10, 11]))
 (.seq (.region [⟨(some 40), .load (some 14) (.tmp 1), none⟩,
 ⟨(some 41), .callF 11 [(.tmp 40)], none⟩,
 ⟨(some 39), .mov (.tmp 41), none⟩,
 ⟨(some 42), .extract (.tmp 39) 0, none⟩,
 ⟨(some 43), .extract (.tmp 39) 1, none⟩,
 ⟨(some 13), .mov (.tmp 42), none⟩,
 ⟨(some 14), .mov (.tmp 43), none⟩] (some [1, 2, 5, 6, 8, 9, 10, 11, 13, 14]))
 (.seq (.seq (.region [⟨(some 44), .mov (.tmp 2), none⟩,
 ⟨(some 45), .bin .num .neq (.tmp 44) (.val (.int .i64 0)), none⟩,
 ⟨(some 46), .mov (.tmp 45), none⟩,
 ⟨(some 47), .fieldAddr 2 (.tmp 1), (some (46, false))⟩,
 ⟨(some 48), .fieldAddr 4 (.tmp 47), (some (46, false))⟩,
 ⟨(some 49), .load none (.tmp 48), (some (46, false))⟩,
 ⟨(some 50), .len .slice (.tmp 49), (some (46, false))⟩,
 ⟨(some 51), .bin .num .neq (.tmp 50) (.val (.int .i64 2)), (some (46, false))⟩,
 ⟨(some 52), .pick (.tmp 46) (.val (.bool true)) (.tmp 51), none⟩,
 ⟨(some 53), .mov (.tmp 52), none⟩,
 ⟨(some 54), .fieldAddr 2 (.tmp 1), (some (53, false))⟩,
 ⟨(some 55), .fieldAddr 4 (.tmp 54), (some (53, false))⟩,
 ⟨(some 56), .load none (.tmp 55), (some (53, false))⟩,
 ⟨(some 57), .elemAddr 5 (.tmp 56) (.val (.int .i64 1)), (some (53, false))⟩,
 ⟨(some 58), .fieldAddr 4 (.tmp 57), (some (53, false))⟩,
 ⟨(some 59), .load none (.tmp 58), (some (53, false))⟩,
 ⟨(some 60), .len .slice (.tmp 59), (some (53, false))⟩,
 ⟨(some 61), .bin .num .neq (.tmp 60) (.val (.int .i64 1)), (some (53, false))⟩,
 ⟨(some 62), .pick (.tmp 53) (.val (.bool true)) (.tmp 61), none⟩] (some [1, 5, 6, 8, 9, 10, 11, 13, 14, 62]))
 (.cond (.tmp 62) (.seq (.region [⟨(some 0), .mov (.val (.bool false)), none⟩] (some [0]))
 .ret)
 .skip))
 (.seq (.region [⟨(some 63), .build [(.str []), (.str [])] [(0, 1, (.val (.str [99, 108, 97, 115, 115]))), (1, 1, (.val (.str [99, 97, 102, 101])))], none⟩,
 ⟨(some 64), .build [(.str []), (.str [])] [(0, 1, (.val (.str [108, 101, 118, 101, 108]))), (1, 1, (.val (.str [50])))], none⟩,
 ⟨(some 65), .fslice 2 [(.tmp 63), (.tmp 64)], none⟩,
 ⟨(some 66), .build [(.str []), (.int .i64 0), (.int .i64 0), (.int .i64 0), .nils, .nils] [(5, 1, (.tmp 65))], none⟩,
 ⟨(some 15), .alloc 50 6 (.agg [(.str []), (.int .i64 0), (.int .i64 0), (.int .i64 0), .nils, .nils]), none⟩,
 ⟨none, .store 6 (.tmp 15) (.tmp 66), none⟩] (some [1, 5, 6, 8, 9, 10, 11, 13, 14, 15]))
 (.seq (.region [⟨(some 67), .fieldAddr 0 (.tmp 1), none⟩,
 ⟨(some 68), .load none (.tmp 67), none⟩,
 ⟨(some 69), .bin .num .eql (.tmp 68) (.val (.int .i64 2)), none⟩,
 ⟨(some 70), .mov (.tmp 69), none⟩,
 ⟨(some 71), .fieldAddr 1 (.tmp 1), (some (70, true))⟩,
 ⟨(some 72), .load none (.tmp 71), (some (70, true))⟩,
 ⟨(some 73), .bin .num .eql (.tmp 72) (.val (.int .i64 1)), (some (70, true))⟩,
 ⟨(some 74), .pick (.tmp 70) (.tmp 73) (.val (.bool false)), none⟩,
 ⟨(some 75), .mov (.tmp 74), none⟩,
 ⟨(some 76), .fieldAddr 7 (.tmp 1), (some (75, true))⟩,
 ⟨(some 77), .load none (.tmp 76), (some (75, true))⟩,
 ⟨(some 78), .bin .str .eql (.tmp 77) (.val (.str [97, 49])), (some (75, true))⟩,
 ⟨(some 79), .pick (.tmp 75) (.tmp 78) (.val (.bool false)), none⟩,
 ⟨(some 80), .mov (.tmp 79), none⟩,
 ⟨(some 81), .fieldAddr 2 (.tmp 1), (some (80, true))⟩,
 ⟨(some 82), .fieldAddr 0 (.tmp 81), (some (80, true))⟩,
 ⟨(some 83), .load none (.tmp 82), (some (80, true))⟩,
 ⟨(some 84), .bin .num .eql (.tmp 83) (.val (.int .i64 5)), (some (80, true))⟩,
 ⟨(some 85), .pick (.tmp 80) (.tmp 84) (.val (.bool false)), none⟩,
 ⟨(some 86), .mov (.tmp 85), none⟩,
 ⟨(some 87), .fieldAddr 2 (.tmp 1), (some (86, true))⟩,
 ⟨(some 88), .fieldAddr 4 (.tmp 87), (some (86, true))⟩,
 ⟨(some 89), .load none (.tmp 88), (some (86, true))⟩,
 ⟨(some 90), .elemAddr 5 (.tmp 89) (.val (.int .i64 0)), (some (86, true))⟩,
 ⟨(some 91), .fieldAddr 0 (.tmp 90), (some (86, true))⟩,
 ⟨(some 92), .load none (.tmp 91), (some (86, true))⟩,
 ⟨(some 93), .bin .num .eql (.tmp 92) (.val (.int .i64 3)), (some (86, true))⟩,
 ⟨(some 94), .pick (.tmp 86) (.tmp 93) (.val (.bool false)), none⟩,
 ⟨(some 95), .mov (.tmp 94), none⟩,
 ⟨(some 96), .fieldAddr 2 (.tmp 1), (some (95, true))⟩,
 ⟨(some 97), .fieldAddr 4 (.tmp 96), (some (95, true))⟩,
 ⟨(some 98), .load none (.tmp 97), (some (95, true))⟩,
 ⟨(some 99), .elemAddr 5 (.tmp 98) (.val (.int .i64 1)), (some (95, true))⟩,
 ⟨(some 100), .fieldAddr 4 (.tmp 99), (some (95, true))⟩,
 ⟨(some 101), .load none (.tmp 100), (some (95, true))⟩,
 ⟨(some 102), .elemAddr 5 (.tmp 101) (.val (.int .i64 0)), (some (95, true))⟩,
 ⟨(some 103), .fieldAddr 0 (.tmp 102), (some (95, true))⟩,
 ⟨(some 104), .load none (.tmp 103), (some (95, true))⟩,
 ⟨(some 105), .bin .num .eql (.tmp 104) (.val (.int .i64 6)), (some (95, true))⟩,
 ⟨(some 106), .pick (.tmp 95) (.tmp 105) (.val (.bool false)), none⟩,
 ⟨(some 107), .mov (.tmp 106), none⟩,
 ⟨(some 108), .mov (.tmp 5), (some (107, true))⟩,
 ⟨(some 109), .bin .num .eql (.tmp 108) (.val (.int .i64 10)), (some (107, true))⟩,
 ⟨(some 110), .pick (.tmp 107) (.tmp 109) (.val (.bool false)), none⟩,
 ⟨(some 111), .mov (.tmp 110), none⟩,
 ⟨(some 112), .mov (.tmp 6), (some (111, true))⟩,
 ⟨(some 113), .bin .num .eql (.tmp 112) (.val (.int .i64 8)), (some (111, true))⟩,
 ⟨(some 114), .pick (.tmp 111) (.tmp 113) (.val (.bool false)), none⟩,
 ⟨(some 115), .mov (.tmp 114), none⟩,
 ⟨(some 116), .mov (.tmp 8), (some (115, true))⟩,
 ⟨(some 117), .bin .num .eql (.tmp 116) (.val (.int .i64 6)), (some (115, true))⟩,
 ⟨(some 118), .pick (.tmp 115) (.tmp 117) (.val (.bool false)), none⟩,
 ⟨(some 119), .mov (.tmp 118), none⟩,
 ⟨(some 120), .mov (.tmp 9), (some (119, true))⟩,
 ⟨(some 121), .bin .num .eql (.tmp 120) (.val (.int .i64 18)), (some (119, true))⟩,
 ⟨(some 122), .pick (.tmp 119) (.tmp 121) (.val (.bool false)), none⟩,
 ⟨(some 16), .mov (.tmp 122), none⟩] (some [1, 10, 11, 13, 14, 15, 16]))
 (.seq (.region [⟨(some 123), .mov (.tmp 11), none⟩,
 ⟨(some 124), .bin .num .eql (.tmp 123) (.val (.int .i64 0)), none⟩,
 ⟨(some 125), .mov (.tmp 124), none⟩,
 ⟨(some 126), .fieldAddr 13 (.tmp 10), (some (125, true))⟩,
 ⟨(some 127), .load none (.tmp 126), (some (125, true))⟩,
 ⟨(some 128), .bin .num .eql (.tmp 127) (.val (.int .i64 600)), (some (125, true))⟩,
 ⟨(some 129), .pick (.tmp 125) (.tmp 128) (.val (.bool false)), none⟩,
 ⟨(some 130), .mov (.tmp 129), none⟩,
 ⟨(some 131), .load (some 14) (.tmp 10), (some (130, true))⟩,
 ⟨(some 132), .build [.nils] [], (some (130, true))⟩,
 ⟨(some 133), .callF 28 [(.tmp 131), (.tmp 132)], (some (130, true))⟩,
 ⟨(some 134), .bin .num .eql (.tmp 133) (.val (.int .i64 8)), (some (130, true))⟩,
 ⟨(some 135), .pick (.tmp 130) (.tmp 134) (.val (.bool false)), none⟩,
 ⟨(some 136), .mov (.tmp 135), none⟩,
 ⟨(some 137), .load (some 14) (.tmp 1), (some (136, true))⟩,
 ⟨(some 138), .build [.nils] [], (some (136, true))⟩,
 ⟨(some 139), .callF 28 [(.tmp 137), (.tmp 138)], (some (136, true))⟩,
 ⟨(some 140), .bin .num .eql (.tmp 139) (.val (.int .i64 11)), (some (136, true))⟩,
 ⟨(some 141), .pick (.tmp 136) (.tmp 140) (.val (.bool false)), none⟩,
 ⟨(some 142), .mov (.tmp 141), none⟩,
 ⟨(some 143), .mov (.tmp 14), (some (142, true))⟩,
 ⟨(some 144), .bin .num .eql (.tmp 143) (.val (.int .i64 0)), (some (142, true))⟩,
 ⟨(some 145), .pick (.tmp 142) (.tmp 144) (.val (.bool false)), none⟩,
 ⟨(some 146), .mov (.tmp 145), none⟩,
 ⟨(some 147), .mov (.tmp 13), (some (146, true))⟩,
 ⟨(some 148), .bin .str .eql (.tmp 147) (.val (.str [105, 110, 115, 105, 100, 101, 32, 97, 49, 32, 110, 111, 100, 101, 32, 119, 104, 101, 114, 101, 32, 99, 108, 97, 115, 115, 32, 61, 32, 34, 99, 97, 102, 101, 34, 32, 97, 110, 100, 32, 110, 111, 116, 32, 40, 104, 111, 117, 114, 115, 32, 111, 114, 32, 108, 101, 118, 101, 108, 32, 62, 32, 50, 41])), (some (146, true))⟩,
 ⟨(some 149), .pick (.tmp 146) (.tmp 148) (.val (.bool false)), none⟩,
 ⟨(some 17), .mov (.tmp 149), none⟩] (some [1, 15, 16, 17]))
 (.seq (.region [⟨(some 150), .load (some 6) (.tmp 15), none⟩,
 ⟨(some 18), .alloc 50 6 (.agg [(.str []), (.int .i64 0), (.int .i64 0), (.int .i64 0), .nils, .nils]), none⟩,
 ⟨none, .store 6 (.tmp 18) (.tmp 150), none⟩] (some [1, 15, 16, 17, 18]))
 (.seq (.region [⟨(some 151), .bslice 58 2 [], none⟩,
 ⟨(some 152), .fieldAddr 5 (.tmp 15), none⟩,
 ⟨(some 153), .load none (.tmp 152), none⟩,
 ⟨(some 154), .append 58 2 32 (.tmp 151) (.tmp 153), none⟩,
 ⟨(some 155), .fieldAddr 5 (.tmp 18), none⟩,
 ⟨none, .store 1 (.tmp 155) (.tmp 154), none⟩] (some [1, 15, 16, 17, 18]))
 (.seq (.region [⟨(some 156), .fieldAddr 5 (.tmp 18), none⟩,
 ⟨(some 157), .load none (.tmp 156), none⟩,
 ⟨(some 158), .elemAddr 2 (.tmp 157) (.val (.int .i64 1)), none⟩,
 ⟨(some 159), .fieldAddr 1 (.tmp 158), none⟩,
 ⟨none, .store 1 (.tmp 159) (.val (.str [51])), none⟩] (some [1, 15, 16, 17, 18]))
 (.seq (.region [⟨(some 160), .mov (.tmp 16), none⟩,
 ⟨(some 161), .mov (.tmp 160), none⟩,
 ⟨(some 162), .mov (.tmp 17), (some (161, true))⟩,
 ⟨(some 163), .pick (.tmp 161) (.tmp 162) (.val (.bool false)), none⟩,
 ⟨(some 164), .mov (.tmp 163), none⟩,
 ⟨(some 165), .fieldAddr 2 (.tmp 1), (some (164, true))⟩,
 ⟨(some 166), .load (some 5) (.tmp 165), (some (164, true))⟩,
 ⟨(some 167), .load (some 6) (.tmp 15), (some (164, true))⟩,
 ⟨(some 168), .callF 22 [(.tmp 166), (.tmp 167)], (some (164, true))⟩,
 ⟨(some 169), .pick (.tmp 164) (.tmp 168) (.val (.bool false)), none⟩,
 ⟨(some 170), .mov (.tmp 169), none⟩,
 ⟨(some 171), .fieldAddr 2 (.tmp 1), (some (170, true))⟩,
 ⟨(some 172), .load (some 5) (.tmp 171), (some (170, true))⟩,
 ⟨(some 173), .load (some 6) (.tmp 18), (some (170, true))⟩,
 ⟨(some 174), .callF 22 [(.tmp 172), (.tmp 173)], (some (170, true))⟩,
 ⟨(some 175), .un .not (.tmp 174), (some (170, true))⟩,
 ⟨(some 176), .pick (.tmp 170) (.tmp 175) (.val (.bool false)), none⟩,
 ⟨(some 177), .mov (.tmp 176), none⟩,
 ⟨(some 178), .load (some 14) (.tmp 1), (some (177, true))⟩,
 ⟨(some 179), .callF 12 [(.tmp 178)], (some (177, true))⟩,
 ⟨(some 180), .pick (.tmp 177) (.tmp 179) (.val (.bool false)), none⟩,
 ⟨(some 0), .mov (.tmp 180), none⟩] (some [0]))
 .ret))))))))))))))
theorem cc9 : compF Tryz.prog [65] Tryz.f9 = some ac9 := by kernel_rfl
theorem go9 {args : List AV} {h0 : AHeap} {Q : AEnd → AHeap → Prop} (hl : args.length ≤ 181) (h : HLow h0.length h0 → Ewp Tryz.prog Φ h0.length ac9 (ebodyQ Φ [(.tmp 0)] h0.length Q) (argEnv args 0) h0) : S Tryz.prog Φ 9 args h0 Q :=
 S_of_codeW Tryz.func9 rfl rfl cc9 (by kernel_rfl) hl h
def ac11 : ACode :=
 (.seq (.region [⟨(some 1), .fbox 14 (.tmp 0), none⟩,
 ⟨(some 2), .mov (.val (.str [])), none⟩,
 ⟨(some 3), .mov (.val (.int .i64 0)), none⟩] (some [1]))
 (.seq (.seq (.region [⟨(some 7), .load (some 14) (.tmp 1), none⟩,
 ⟨(some 8), .callF 12 [(.tmp 7)], none⟩,
 ⟨(some 9), .un .not (.tmp 8), none⟩] (some [1, 9]))
 (.cond (.tmp 9) (.seq (.region [⟨(some 2), .mov (.val (.str [])), none⟩,
 ⟨(some 3), .mov (.val (.int .i64 1)), none⟩] (some [2, 3]))
 .ret)
 .skip))
 (.seq (.region [⟨(some 10), .fieldAddr 8 (.tmp 1), none⟩,
 ⟨(some 11), .load none (.tmp 10), none⟩,
 ⟨(some 12), .callF 30 [(.tmp 11)], none⟩,
 ⟨(some 4), .mov (.tmp 12), none⟩] (some [1, 4]))
 (.seq (.region [⟨(some 13), .bslice 9 1 [(.val (.str [97, 108, 108]))], none⟩,
 ⟨(some 5), .mov (.tmp 13), none⟩] (some [1, 4, 5]))
 (.seq (.seq (.region [⟨(some 14), .fieldAddr 0 (.tmp 1), none⟩,
 ⟨(some 15), .load none (.tmp 14), none⟩] (some [1, 4, 5, 15]))
 (.block 0 (.seq (.region [⟨(some 17), .bin .num .eql (.tmp 15) (.val (.int .i64 2)), none⟩,
 ⟨(some 16), .mov (.tmp 17), none⟩] (some [1, 4, 5, 15, 16]))
 (.cond (.tmp 16) (.region [⟨(some 18), .fieldAddr 7 (.tmp 1), none⟩,
 ⟨(some 19), .load none (.tmp 18), none⟩,
 ⟨(some 20), .bslice 9 1 [(.val (.str [105, 110, 115, 105, 100, 101])), (.tmp 19)], none⟩,
 ⟨(some 5), .mov (.tmp 20), none⟩] (some [1, 5]))
 (.seq (.region [⟨(some 22), .bin .num .eql (.tmp 15) (.val (.int .i64 3)), none⟩,
 ⟨(some 21), .mov (.tmp 22), none⟩] (some [1, 4, 5, 15, 21]))
 (.cond (.tmp 21) (.region [⟨(some 23), .fieldAddr 7 (.tmp 1), none⟩,
 ⟨(some 24), .load none (.tmp 23), none⟩,
 ⟨(some 25), .mov (.tmp 4), none⟩,
 ⟨(some 26), .bslice 9 1 [(.val (.str [97, 108, 111, 110, 103])), (.tmp 24), (.val (.str [98, 121])), (.tmp 25)], none⟩,
 ⟨(some 5), .mov (.tmp 26), none⟩] (some [1, 5]))
 (.seq (.region [⟨(some 28), .bin .num .eql (.tmp 15) (.val (.int .i64 4)), none⟩,
 ⟨(some 27), .mov (.tmp 28), none⟩] (some [1, 4, 5, 15, 27]))
 (.cond (.tmp 27) (.draw [⟨⟨(some 29), .mov (.tmp 4), none⟩, false, 0, false⟩,
 ⟨⟨(some 30), .fieldAddr 9 (.tmp 1), none⟩, false, 0, false⟩,
 ⟨⟨(some 31), .fieldAddr 0 (.tmp 30), none⟩, false, 0, false⟩,
 ⟨⟨(some 32), .load none (.tmp 31), none⟩, false, 0, false⟩,
 ⟨⟨(some 33), .callF 30 [(.tmp 32)], none⟩, false, 0, false⟩,
 ⟨⟨(some 34), .fieldAddr 9 (.tmp 1), none⟩, false, 0, false⟩,
 ⟨⟨(some 35), .fieldAddr 1 (.tmp 34), none⟩, false, 0, false⟩,
 ⟨⟨(some 36), .load none (.tmp 35), none⟩, false, 0, false⟩,
 ⟨⟨(some 37), .callF 30 [(.tmp 36)], none⟩, false, 0, false⟩,
 ⟨⟨(some 38), .bslice 9 1 [(.val (.str [110, 101, 97, 114, 101, 115, 116])), (.tmp 29), (.val (.str [116, 111])), (.tmp 33), (.tmp 37)], none⟩, true, 0, false⟩,
 ⟨⟨(some 5), .mov (.tmp 38), none⟩, false, 0, false⟩] (some [1, 5]))
 (.seq (.region [⟨(some 40), .bin .num .eql (.tmp 15) (.val (.int .i64 5)), none⟩,
 ⟨(some 39), .mov (.tmp 40), none⟩] (some [1, 4, 5, 15, 39]))
 (.cond (.tmp 39) (.draw [⟨⟨(some 41), .fieldAddr 7 (.tmp 1), none⟩, false, 0, false⟩,
 ⟨⟨(some 42), .load none (.tmp 41), none⟩, false, 0, false⟩,
 ⟨⟨(some 43), .mov (.tmp 4), none⟩, false, 0, false⟩,
 ⟨⟨(some 44), .fieldAddr 12 (.tmp 1), none⟩, false, 0, false⟩,
 ⟨⟨(some 45), .load none (.tmp 44), none⟩, false, 0, false⟩,
 ⟨⟨(some 46), .fieldAddr 13 (.tmp 1), none⟩, false, 0, false⟩,
 ⟨⟨(some 47), .load none (.tmp 46), none⟩, false, 0, false⟩,
 ⟨⟨(some 48), .callF 30 [(.tmp 47)], none⟩, false, 0, false⟩,
 ⟨⟨(some 49), .bslice 9 1 [(.val (.str [114, 101, 97, 99, 104])), (.tmp 42), (.val (.str [105, 110])), (.tmp 43), (.val (.str [98, 121])), (.tmp 45), (.val (.str [97, 116])), (.tmp 48)], none⟩, true, 0, false⟩,
 ⟨⟨(some 5), .mov (.tmp 49), none⟩, false, 0, false⟩] (some [1, 5]))
 (.seq (.region [⟨(some 51), .bin .num .eql (.tmp 15) (.val (.int .i64 6)), none⟩,
 ⟨(some 50), .mov (.tmp 51), none⟩] (some [1, 5, 50]))
 (.cond (.tmp 50) (.region [⟨(some 52), .fieldAddr 11 (.tmp 1), none⟩,
 ⟨(some 53), .load none (.tmp 52), none⟩,
 ⟨(some 54), .bslice 9 1 [(.val (.str [99, 111, 117, 110, 116])), (.tmp 53)], none⟩,
 ⟨(some 5), .mov (.tmp 54), none⟩] (some [1, 5]))
 .skip))))))))))))
 (.seq (.draw [⟨⟨(some 55), .mov (.tmp 5), none⟩, false, 0, false⟩,
 ⟨⟨(some 56), .callF 31 [], none⟩, false, 0, false⟩,
 ⟨⟨(some 57), .fieldAddr 1 (.tmp 1), none⟩, false, 0, false⟩,
 ⟨⟨(some 58), .load none (.tmp 57), none⟩, false, 0, false⟩,
 ⟨⟨(some 59), .elemAddr 1 (.tmp 56) (.tmp 58), none⟩, false, 0, false⟩,
 ⟨⟨(some 60), .load none (.tmp 59), none⟩, false, 0, false⟩,
 ⟨⟨(some 61), .fslice 1 [(.tmp 60)], none⟩, false, 0, false⟩,
 ⟨⟨(some 62), .append 9 1 16 (.tmp 55) (.tmp 61), none⟩, true, 0, false⟩,
 ⟨⟨(some 5), .mov (.tmp 62), none⟩, false, 0, false⟩] (some [1, 5]))
 (.seq (.seq (.region [⟨(some 63), .fieldAddr 2 (.tmp 1), none⟩,
 ⟨(some 64), .fieldAddr 0 (.tmp 63), none⟩,
 ⟨(some 65), .load none (.tmp 64), none⟩,
 ⟨(some 66), .bin .num .neq (.tmp 65) (.val (.int .i64 1)), none⟩] (some [1, 5, 66]))
 (.cond (.tmp 66) (.region [⟨(some 67), .mov (.tmp 5), none⟩,
 ⟨(some 68), .fieldAddr 2 (.tmp 1), none⟩,
 ⟨(some 69), .load (some 5) (.tmp 68), none⟩,
 ⟨(some 70), .callF 32 [(.tmp 69)], none⟩,
 ⟨(some 71), .fslice 1 [(.val (.str [119, 104, 101, 114, 101])), (.tmp 70)], none⟩,
 ⟨(some 72), .append 9 1 16 (.tmp 67) (.tmp 71), none⟩,
 ⟨(some 5), .mov (.tmp 72), none⟩] (some [5]))
 .skip))
 (.seq (.region [⟨(some 73), .mov (.tmp 5), none⟩,
 ⟨(some 74), .callF 33 [(.tmp 73), (.val (.str [32]))], none⟩,
 ⟨(some 6), .mov (.tmp 74), none⟩] (some [6]))
 (.seq (.seq (.region [⟨(some 75), .mov (.tmp 6), none⟩,
 ⟨(some 76), .len .str (.tmp 75), none⟩,
 ⟨(some 77), .bin .num .gtr (.tmp 76) (.val (.int .i64 20000)), none⟩] (some [6, 77]))
 (.cond (.tmp 77) (.seq (.region [⟨(some 2), .mov (.val (.str [])), none⟩,
 ⟨(some 3), .mov (.val (.int .i64 2)), none⟩] (some [2, 3]))
 .ret)
 .skip))
 (.seq (.region [⟨(some 78), .mov (.tmp 6), none⟩,
 ⟨(some 2), .mov (.tmp 78), none⟩,
 ⟨(some 3), .mov (.val (.int .i64 0)), none⟩] (some [2, 3]))
 .ret))))))))))
theorem cc11 : compF Tryz.prog [1, 61, 71] Tryz.f11 = some ac11 := by kernel_rfl
theorem go11 {args : List AV} {h0 : AHeap} {Q : AEnd → AHeap → Prop} (hl : args.length ≤ 79) (h : HLow h0.length h0 → Ewp Tryz.prog Φ h0.length ac11 (ebodyQ Φ [(.tmp 2), (.tmp 3)] h0.length Q) (argEnv args 0) h0) : S Tryz.prog Φ 11 args h0 Q :=
 S_of_codeW Tryz.func11 rfl rfl cc11 (by kernel_rfl) hl h
def ac12 : ACode :=
 (.seq (.region [⟨(some 1), .fbox 14 (.tmp 0), none⟩,
 ⟨(some 2), .mov (.val (.bool false)), none⟩] (some [1]))
 (.seq (.seq (.draw [⟨⟨(some 6), .fieldAddr 1 (.tmp 1), none⟩, false, 0, false⟩,
 ⟨⟨(some 7), .load none (.tmp 6), none⟩, false, 0, false⟩,
 ⟨⟨(some 8), .bin .num .lss (.tmp 7) (.val (.int .i64 0)), none⟩, false, 0, false⟩,
 ⟨⟨(some 9), .mov (.tmp 8), none⟩, false, 0, false⟩,
 ⟨⟨(some 10), .fieldAddr 1 (.tmp 1), (some (9, false))⟩, false, 0, false⟩,
 ⟨⟨(some 11), .load none (.tmp 10), (some (9, false))⟩, false, 0, false⟩,
 ⟨⟨(some 12), .callF 31 [], (some (9, false))⟩, false, 0, false⟩,
 ⟨⟨(some 13), .len .slice (.tmp 12), (some (9, false))⟩, false, 0, false⟩,
 ⟨⟨(some 14), .bin .num .geq (.tmp 11) (.tmp 13), (some (9, false))⟩, false, 0, false⟩,
 ⟨⟨(some 15), .pick (.tmp 9) (.val (.bool true)) (.tmp 14), none⟩, false, 0, false⟩,
 ⟨⟨(some 16), .mov (.tmp 15), none⟩, false, 0, false⟩,
 ⟨⟨(some 17), .fieldAddr 2 (.tmp 1), (some (16, false))⟩, false, 0, false⟩,
 ⟨⟨(some 18), .load (some 5) (.tmp 17), (some (16, false))⟩, false, 0, false⟩,
 ⟨⟨(some 19), .callF 34 [(.tmp 18)], (some (16, false))⟩, false, 0, false⟩,
 ⟨⟨(some 20), .un .not (.tmp 19), (some (16, false))⟩, false, 0, false⟩,
 ⟨⟨(some 21), .pick (.tmp 16) (.val (.bool true)) (.tmp 20), none⟩, false, 0, false⟩] (some [1, 21]))
 (.cond (.tmp 21) (.seq (.region [⟨(some 2), .mov (.val (.bool false)), none⟩] (some [2]))
 .ret)
 .skip))
 (.seq (.region [⟨(some 3), .mov (.val (.fn 35 [] [])), none⟩] (some [1, 3]))
 (.seq (.region [⟨(some 22), .fieldAddr 0 (.tmp 1), none⟩,
 ⟨(some 23), .load none (.tmp 22), none⟩,
 ⟨(some 24), .fieldAddr 1 (.tmp 1), none⟩,
 ⟨(some 25), .load none (.tmp 24), none⟩,
 ⟨(some 26), .build [(.int .i64 0), (.int .i64 0), (.int .i64 0), (.str []), (.str []), (.int .i64 0), .nils, (.str []), (.int .i64 0), (.int .i64 0), (.int .i64 0), (.str []), (.str []), (.int .i64 0)] [(0, 1, (.tmp 23)), (1, 1, (.tmp 25))], none⟩,
 ⟨(some 4), .alloc 28 14 (.agg [(.int .i64 0), (.int .i64 0), (.int .i64 0), (.str []), (.str []), (.int .i64 0), .nils, (.str []), (.int .i64 0), (.int .i64 0), (.int .i64 0), (.str []), (.str []), (.int .i64 0)]), none⟩,
 ⟨none, .store 14 (.tmp 4) (.tmp 26), none⟩] (some [1, 3, 4]))
 (.seq (.region [⟨(some 5), .mov (.val (.bool true)), none⟩] (some [1, 3, 4, 5]))
 (.seq (.seq (.region [⟨(some 27), .fieldAddr 0 (.tmp 1), none⟩,
 ⟨(some 28), .load none (.tmp 27), none⟩] (some [1, 3, 4, 5, 28]))
 (.block 0 (.seq (.region [⟨(some 30), .bin .num .eql (.tmp 28) (.val (.int .i64 1)), none⟩,
 ⟨(some 29), .mov (.tmp 30), none⟩] (some [1, 3, 4, 5, 28, 29]))
 (.cond (.tmp 29) .skip
 (.seq (.region [⟨(some 32), .bin .num .eql (.tmp 28) (.val (.int .i64 2)), none⟩,
 ⟨(some 31), .mov (.tmp 32), none⟩] (some [1, 3, 4, 28, 31]))
 (.cond (.tmp 31) (.draw [⟨⟨(some 33), .fieldAddr 7 (.tmp 1), none⟩, false, 0, false⟩,
 ⟨⟨(some 34), .load none (.tmp 33), none⟩, false, 0, false⟩,
 ⟨⟨(some 35), .fieldAddr 7 (.tmp 1), none⟩, false, 0, false⟩,
 ⟨⟨(some 36), .load none (.tmp 35), none⟩, false, 0, false⟩,
 ⟨⟨(some 37), .callF 36 [(.tmp 36)], none⟩, false, 0, false⟩,
 ⟨⟨(some 38), .fieldAddr 7 (.tmp 4), none⟩, false, 0, false⟩,
 ⟨⟨none, .store 1 (.tmp 38) (.tmp 34), none⟩, true, 0, false⟩,
 ⟨⟨(some 5), .mov (.tmp 37), none⟩, false, 0, false⟩] (some [1, 4, 5]))
 (.seq (.region [⟨(some 40), .bin .num .eql (.tmp 28) (.val (.int .i64 3)), none⟩,
 ⟨(some 39), .mov (.tmp 40), none⟩] (some [1, 3, 4, 28, 39]))
 (.cond (.tmp 39) (.draw [⟨⟨(some 41), .fieldAddr 7 (.tmp 1), none⟩, false, 0, false⟩,
 ⟨⟨(some 42), .load none (.tmp 41), none⟩, false, 0, false⟩,
 ⟨⟨(some 43), .fieldAddr 8 (.tmp 1), none⟩, false, 0, true⟩,
 ⟨⟨(some 44), .load none (.tmp 43), none⟩, false, 0, true⟩,
 ⟨⟨(some 45), .fieldAddr 7 (.tmp 1), none⟩, false, 0, false⟩,
 ⟨⟨(some 46), .load none (.tmp 45), none⟩, false, 0, false⟩,
 ⟨⟨(some 47), .callF 36 [(.tmp 46)], none⟩, false, 0, false⟩,
 ⟨⟨(some 48), .mov (.tmp 47), none⟩, false, 0, false⟩,
 ⟨⟨(some 49), .mov (.tmp 3), (some (48, true))⟩, false, 0, false⟩,
 ⟨⟨(some 50), .fieldAddr 8 (.tmp 1), (some (48, true))⟩, false, 0, false⟩,
 ⟨⟨(some 51), .load none (.tmp 50), (some (48, true))⟩, false, 0, false⟩,
 ⟨⟨(some 52), .callV (.tmp 49) [(.tmp 51), (.val (.int .i64 0)), (.val (.int .i64 1048576))], (some (48, true))⟩, false, 0, false⟩,
 ⟨⟨(some 53), .pick (.tmp 48) (.tmp 52) (.val (.bool false)), none⟩, false, 0, true⟩,
 ⟨⟨(some 54), .fieldAddr 7 (.tmp 4), none⟩, false, 0, false⟩,
 ⟨⟨none, .store 1 (.tmp 54) (.tmp 42), none⟩, true, 0, false⟩,
 ⟨⟨(some 55), .fieldAddr 8 (.tmp 4), none⟩, false, 0, false⟩,
 ⟨⟨none, .store 1 (.tmp 55) (.tmp 44), none⟩, true, 0, false⟩,
 ⟨⟨(some 5), .mov (.tmp 53), none⟩, false, 0, false⟩] (some [1, 4, 5]))
 (.seq (.region [⟨(some 57), .bin .num .eql (.tmp 28) (.val (.int .i64 4)), none⟩,
 ⟨(some 56), .mov (.tmp 57), none⟩] (some [1, 3, 4, 28, 56]))
 (.cond (.tmp 56) (.draw [⟨⟨(some 58), .fieldAddr 8 (.tmp 1), none⟩, false, 0, false⟩,
 ⟨⟨(some 59), .load none (.tmp 58), none⟩, false, 0, false⟩,
 ⟨⟨(some 60), .fieldAddr 9 (.tmp 1), none⟩, false, 0, true⟩,
 ⟨⟨(some 61), .load (some 2) (.tmp 60), none⟩, false, 0, true⟩,
 ⟨⟨(some 62), .mov (.tmp 3), none⟩, false, 0, false⟩,
 ⟨⟨(some 63), .fieldAddr 8 (.tmp 1), none⟩, false, 0, false⟩,
 ⟨⟨(some 64), .load none (.tmp 63), none⟩, false, 0, false⟩,
 ⟨⟨(some 65), .callV (.tmp 62) [(.tmp 64), (.val (.int .i64 1)), (.val (.int .i64 10000))], none⟩, false, 0, false⟩,
 ⟨⟨(some 66), .mov (.tmp 65), none⟩, false, 0, false⟩,
 ⟨⟨(some 67), .mov (.tmp 3), (some (66, true))⟩, false, 0, false⟩,
 ⟨⟨(some 68), .fieldAddr 9 (.tmp 1), (some (66, true))⟩, false, 0, false⟩,
 ⟨⟨(some 69), .fieldAddr 0 (.tmp 68), (some (66, true))⟩, false, 0, false⟩,
 ⟨⟨(some 70), .load none (.tmp 69), (some (66, true))⟩, false, 0, false⟩,
 ⟨⟨(some 71), .callV (.tmp 67) [(.tmp 70), (.val (.int .i64 0)), (.val (.int .i64 1048575))], (some (66, true))⟩, false, 0, false⟩,
 ⟨⟨(some 72), .pick (.tmp 66) (.tmp 71) (.val (.bool false)), none⟩, false, 0, false⟩,
 ⟨⟨(some 73), .mov (.tmp 72), none⟩, false, 0, false⟩,
 ⟨⟨(some 74), .mov (.tmp 3), (some (73, true))⟩, false, 0, false⟩,
 ⟨⟨(some 75), .fieldAddr 9 (.tmp 1), (some (73, true))⟩, false, 0, false⟩,
 ⟨⟨(some 76), .fieldAddr 1 (.tmp 75), (some (73, true))⟩, false, 0, false⟩,
 ⟨⟨(some 77), .load none (.tmp 76), (some (73, true))⟩, false, 0, false⟩,
 ⟨⟨(some 78), .callV (.tmp 74) [(.tmp 77), (.val (.int .i64 0)), (.val (.int .i64 1048575))], (some (73, true))⟩, false, 0, false⟩,
 ⟨⟨(some 79), .pick (.tmp 73) (.tmp 78) (.val (.bool false)), none⟩, false, 0, true⟩,
 ⟨⟨(some 80), .fieldAddr 8 (.tmp 4), none⟩, false, 0, false⟩,
 ⟨⟨none, .store 1 (.tmp 80) (.tmp 59), none⟩, true, 0, false⟩,
 ⟨⟨(some 81), .fieldAddr 9 (.tmp 4), none⟩, false, 0, false⟩,
 ⟨⟨none, .store 2 (.tmp 81) (.tmp 61), none⟩, true, 0, false⟩,
 ⟨⟨(some 5), .mov (.tmp 79), none⟩, false, 0, false⟩] (some [1, 4, 5]))
 (.seq (.region [⟨(some 83), .bin .num .eql (.tmp 28) (.val (.int .i64 5)), none⟩,
 ⟨(some 82), .mov (.tmp 83), none⟩] (some [1, 3, 4, 28, 82]))
 (.cond (.tmp 82) (.draw [⟨⟨(some 84), .fieldAddr 7 (.tmp 1), none⟩, false, 0, false⟩,
 ⟨⟨(some 85), .load none (.tmp 84), none⟩, false, 0, false⟩,
 ⟨⟨(some 86), .fieldAddr 8 (.tmp 1), none⟩, false, 0, true⟩,
 ⟨⟨(some 87), .load none (.tmp 86), none⟩, false, 0, true⟩,
 ⟨⟨(some 88), .fieldAddr 12 (.tmp 1), none⟩, false, 0, true⟩,
 ⟨⟨(some 89), .load none (.tmp 88), none⟩, false, 0, true⟩,
 ⟨⟨(some 90), .fieldAddr 13 (.tmp 1), none⟩, false, 0, true⟩,
 ⟨⟨(some 91), .load none (.tmp 90), none⟩, false, 0, true⟩,
 ⟨⟨(some 92), .fieldAddr 7 (.tmp 1), none⟩, false, 0, false⟩,
 ⟨⟨(some 93), .load none (.tmp 92), none⟩, false, 0, false⟩,
 ⟨⟨(some 94), .callF 36 [(.tmp 93)], none⟩, false, 0, false⟩,
 ⟨⟨(some 95), .mov (.tmp 94), none⟩, false, 0, false⟩,
 ⟨⟨(some 96), .mov (.tmp 3), (some (95, true))⟩, false, 0, false⟩,
 ⟨⟨(some 97), .fieldAddr 8 (.tmp 1), (some (95, true))⟩, false, 0, false⟩,
 ⟨⟨(some 98), .load none (.tmp 97), (some (95, true))⟩, false, 0, false⟩,
 ⟨⟨(some 99), .callV (.tmp 96) [(.tmp 98), (.val (.int .i64 0)), (.val (.int .i64 10080))], (some (95, true))⟩, false, 0, false⟩,
 ⟨⟨(some 100), .pick (.tmp 95) (.tmp 99) (.val (.bool false)), none⟩, false, 0, false⟩,
 ⟨⟨(some 101), .mov (.tmp 100), none⟩, false, 0, false⟩,
 ⟨⟨(some 102), .fieldAddr 12 (.tmp 1), (some (101, true))⟩, false, 0, false⟩,
 ⟨⟨(some 103), .load none (.tmp 102), (some (101, true))⟩, false, 0, false⟩,
 ⟨⟨(some 104), .callF 36 [(.tmp 103)], (some (101, true))⟩, false, 0, false⟩,
 ⟨⟨(some 105), .pick (.tmp 101) (.tmp 104) (.val (.bool false)), none⟩, false, 0, false⟩,
 ⟨⟨(some 106), .mov (.tmp 105), none⟩, false, 0, false⟩,
 ⟨⟨(some 107), .mov (.tmp 3), (some (106, true))⟩, false, 0, false⟩,
 ⟨⟨(some 108), .fieldAddr 13 (.tmp 1), (some (106, true))⟩, false, 0, false⟩,
 ⟨⟨(some 109), .load none (.tmp 108), (some (106, true))⟩, false, 0, false⟩,
 ⟨⟨(some 110), .callV (.tmp 107) [(.tmp 109), (.val (.int .i64 0)), (.val (.int .i64 9999999))], (some (106, true))⟩, false, 0, false⟩,
 ⟨⟨(some 111), .pick (.tmp 106) (.tmp 110) (.val (.bool false)), none⟩, false, 0, true⟩,
 ⟨⟨(some 112), .fieldAddr 7 (.tmp 4), none⟩, false, 0, false⟩,
 ⟨⟨none, .store 1 (.tmp 112) (.tmp 85), none⟩, true, 0, false⟩,
 ⟨⟨(some 113), .fieldAddr 8 (.tmp 4), none⟩, false, 0, false⟩,
 ⟨⟨none, .store 1 (.tmp 113) (.tmp 87), none⟩, true, 0, false⟩,
 ⟨⟨(some 114), .fieldAddr 12 (.tmp 4), none⟩, false, 0, false⟩,
 ⟨⟨none, .store 1 (.tmp 114) (.tmp 89), none⟩, true, 0, false⟩,
 ⟨⟨(some 115), .fieldAddr 13 (.tmp 4), none⟩, false, 0, false⟩,
 ⟨⟨none, .store 1 (.tmp 115) (.tmp 91), none⟩, true, 0, false⟩,
 ⟨⟨(some 5), .mov (.tmp 111), none⟩, false, 0, false⟩] (some [1, 4, 5]))
 (.seq (.region [⟨(some 117), .bin .num .eql (.tmp 28) (.val (.int .i64 6)), none⟩,
 ⟨(some 116), .mov (.tmp 117), none⟩] (some [1, 4, 116]))
 (.cond (.tmp 116) (.draw [⟨⟨(some 118), .fieldAddr 11 (.tmp 1), none⟩, false, 0, false⟩,
 ⟨⟨(some 119), .load none (.tmp 118), none⟩, false, 0, false⟩,
 ⟨⟨(some 120), .fieldAddr 11 (.tmp 1), none⟩, false, 0, false⟩,
 ⟨⟨(some 121), .load none (.tmp 120), none⟩, false, 0, false⟩,
 ⟨⟨(some 122), .callF 36 [(.tmp 121)], none⟩, false, 0, false⟩,
 ⟨⟨(some 123), .fieldAddr 11 (.tmp 4), none⟩, false, 0, false⟩,
 ⟨⟨none, .store 1 (.tmp 123) (.tmp 119), none⟩, true, 0, false⟩,
 ⟨⟨(some 5), .mov (.tmp 122), none⟩, false, 0, false⟩] (some [1, 4, 5]))
 (.seq (.region [⟨(some 2), .mov (.val (.bool false)), none⟩] (some [2]))
 .ret)))))))))))))))
 (.seq (.region [⟨(some 124), .mov (.tmp 5), none⟩,
 ⟨(some 125), .mov (.tmp 124), none⟩,
 ⟨(some 126), .fieldAddr 7 (.tmp 4), (some (125, true))⟩,
 ⟨(some 127), .load none (.tmp 126), (some (125, true))⟩,
 ⟨(some 128), .fieldAddr 7 (.tmp 1), (some (125, true))⟩,
 ⟨(some 129), .load none (.tmp 128), (some (125, true))⟩,
 ⟨(some 130), .bin .str .eql (.tmp 127) (.tmp 129), (some (125, true))⟩,
 ⟨(some 131), .pick (.tmp 125) (.tmp 130) (.val (.bool false)), none⟩,
 ⟨(some 132), .mov (.tmp 131), none⟩,
 ⟨(some 133), .fieldAddr 8 (.tmp 4), (some (132, true))⟩,
 ⟨(some 134), .load none (.tmp 133), (some (132, true))⟩,
 ⟨(some 135), .fieldAddr 8 (.tmp 1), (some (132, true))⟩,
 ⟨(some 136), .load none (.tmp 135), (some (132, true))⟩,
 ⟨(some 137), .bin .num .eql (.tmp 134) (.tmp 136), (some (132, true))⟩,
 ⟨(some 138), .pick (.tmp 132) (.tmp 137) (.val (.bool false)), none⟩,
 ⟨(some 139), .mov (.tmp 138), none⟩,
 ⟨(some 140), .fieldAddr 9 (.tmp 4), (some (139, true))⟩,
 ⟨(some 141), .load (some 2) (.tmp 140), (some (139, true))⟩,
 ⟨(some 142), .fieldAddr 9 (.tmp 1), (some (139, true))⟩,
 ⟨(some 143), .load (some 2) (.tmp 142), (some (139, true))⟩,
 ⟨(some 144), .aggeq false [.num, .num] (.tmp 141) (.tmp 143), (some (139, true))⟩,
 ⟨(some 145), .pick (.tmp 139) (.tmp 144) (.val (.bool false)), none⟩,
 ⟨(some 146), .mov (.tmp 145), none⟩,
 ⟨(some 147), .fieldAddr 11 (.tmp 4), (some (146, true))⟩,
 ⟨(some 148), .load none (.tmp 147), (some (146, true))⟩,
 ⟨(some 149), .fieldAddr 11 (.tmp 1), (some (146, true))⟩,
 ⟨(some 150), .load none (.tmp 149), (some (146, true))⟩,
 ⟨(some 151), .bin .str .eql (.tmp 148) (.tmp 150), (some (146, true))⟩,
 ⟨(some 152), .pick (.tmp 146) (.tmp 151) (.val (.bool false)), none⟩,
 ⟨(some 153), .mov (.tmp 152), none⟩,
 ⟨(some 154), .fieldAddr 12 (.tmp 4), (some (153, true))⟩,
 ⟨(some 155), .load none (.tmp 154), (some (153, true))⟩,
 ⟨(some 156), .fieldAddr 12 (.tmp 1), (some (153, true))⟩,
 ⟨(some 157), .load none (.tmp 156), (some (153, true))⟩,
 ⟨(some 158), .bin .str .eql (.tmp 155) (.tmp 157), (some (153, true))⟩,
 ⟨(some 159), .pick (.tmp 153) (.tmp 158) (.val (.bool false)), none⟩,
 ⟨(some 160), .mov (.tmp 159), none⟩,
 ⟨(some 161), .fieldAddr 13 (.tmp 4), (some (160, true))⟩,
 ⟨(some 162), .load none (.tmp 161), (some (160, true))⟩,
 ⟨(some 163), .fieldAddr 13 (.tmp 1), (some (160, true))⟩,
 ⟨(some 164), .load none (.tmp 163), (some (160, true))⟩,
 ⟨(some 165), .bin .num .eql (.tmp 162) (.tmp 164), (some (160, true))⟩,
 ⟨(some 166), .pick (.tmp 160) (.tmp 165) (.val (.bool false)), none⟩,
 ⟨(some 2), .mov (.tmp 166), none⟩] (some [2]))
 .ret)))))))
theorem cc12 : compF Tryz.prog [1] Tryz.f12 = some ac12 := by kernel_rfl
theorem go12 {args : List AV} {h0 : AHeap} {Q : AEnd → AHeap → Prop} (hl : args.length ≤ 167) (h : HLow h0.length h0 → Ewp Tryz.prog Φ h0.length ac12 (ebodyQ Φ [(.tmp 2)] h0.length Q) (argEnv args 0) h0) : S Tryz.prog Φ 12 args h0 Q :=
 S_of_codeW Tryz.func12 rfl rfl cc12 (by kernel_rfl) hl h
def ac13 : ACode :=
 (.seq (.region [⟨(some 2), .alloc 28 14 (.agg [(.int .i64 0), (.int .i64 0), (.int .i64 0), (.str []), (.str []), (.int .i64 0), .nils, (.str []), (.int .i64 0), (.int .i64 0), (.int .i64 0), (.str []), (.str []), (.int .i64 0)]), none⟩,
 ⟨(some 3), .alloc 31 1 (.int .i64 0), none⟩,
 ⟨(some 4), .alloc 3 1 (.int .i64 0), none⟩] (some [0, 2, 3, 4]))
 (.seq (.region [⟨(some 7), .mov (.tmp 0), none⟩,
 ⟨(some 8), .callF 15 [(.tmp 7)], none⟩,
 ⟨(some 6), .mov (.tmp 8), none⟩,
 ⟨(some 9), .extract (.tmp 6) 0, none⟩,
 ⟨(some 10), .extract (.tmp 6) 1, none⟩,
 ⟨(some 11), .extract (.tmp 6) 2, none⟩,
 ⟨(some 5), .mov (.tmp 9), none⟩,
 ⟨none, .store 1 (.tmp 3) (.tmp 10), none⟩,
 ⟨none, .store 1 (.tmp 4) (.tmp 11), none⟩] (some [0, 2, 3, 4, 5]))
 (.seq (.seq (.region [⟨(some 12), .load none (.tmp 3), none⟩,
 ⟨(some 13), .bin .num .neq (.tmp 12) (.val (.int .i64 0)), none⟩] (some [0, 2, 3, 4, 5, 13]))
 (.cond (.tmp 13) (.seq (.draw [⟨⟨(some 14), .build [(.int .i64 0), (.int .i64 0), (.int .i64 0), (.str []), (.str []), (.int .i64 0), .nils, (.str []), (.int .i64 0), (.int .i64 0), (.int .i64 0), (.str []), (.str []), (.int .i64 0)] [], none⟩, false, 0, false⟩,
 ⟨⟨(some 15), .load none (.tmp 3), none⟩, false, 0, true⟩,
 ⟨⟨(some 16), .load none (.tmp 4), none⟩, false, 0, true⟩,
 ⟨⟨none, .store 14 (.tmp 2) (.tmp 14), none⟩, true, 0, false⟩,
 ⟨⟨none, .store 1 (.tmp 3) (.tmp 15), none⟩, true, 0, false⟩,
 ⟨⟨none, .store 1 (.tmp 4) (.tmp 16), none⟩, true, 0, false⟩] (some [2, 3, 4]))
 .ret)
 .skip))
 (.dfr [⟨(some 17), .mkfn 37 [] [(.tmp 2), (.tmp 3), (.tmp 4)], none⟩] 17 (some [0, 2, 3, 4, 5])
 (.seq (.region [⟨(some 18), .mov (.tmp 5), none⟩,
 ⟨(some 19), .mov (.tmp 0), none⟩,
 ⟨(some 20), .len .str (.tmp 19), none⟩,
 ⟨(some 21), .build [.nils, (.int .i64 0)] [(0, 1, (.tmp 18)), (1, 1, (.tmp 20))], none⟩,
 ⟨(some 22), .box 80 2 (.tmp 21), none⟩,
 ⟨(some 23), .callF 38 [(.tmp 22)], none⟩,
 ⟨none, .store 14 (.tmp 2) (.tmp 23), none⟩] (some [2, 3, 4]))
 (.seq (.seq (.region [⟨(some 24), .fieldAddr 2 (.tmp 2), none⟩,
 ⟨(some 25), .load (some 5) (.tmp 24), none⟩,
 ⟨(some 26), .callF 39 [(.tmp 25)], none⟩,
 ⟨(some 27), .bin .num .gtr (.tmp 26) (.val (.int .i64 60)), none⟩] (some [2, 3, 4, 27]))
 (.cond (.tmp 27) (.seq (.region [⟨(some 28), .build [(.int .i64 0), (.int .i64 0), (.int .i64 0), (.str []), (.str []), (.int .i64 0), .nils, (.str []), (.int .i64 0), (.int .i64 0), (.int .i64 0), (.str []), (.str []), (.int .i64 0)] [], none⟩,
 ⟨none, .store 14 (.tmp 2) (.tmp 28), none⟩,
 ⟨none, .store 1 (.tmp 3) (.val (.int .i64 2)), none⟩,
 ⟨none, .store 1 (.tmp 4) (.val (.int .i64 0)), none⟩] (some [2, 3, 4]))
 .ret)
 .skip))
 (.seq (.region [⟨(some 29), .load (some 14) (.tmp 2), none⟩,
 ⟨none, .store 14 (.tmp 2) (.tmp 29), none⟩,
 ⟨none, .store 1 (.tmp 3) (.val (.int .i64 0)), none⟩,
 ⟨none, .store 1 (.tmp 4) (.val (.int .i64 0)), none⟩] (some [2, 3, 4]))
 .ret)))))))
theorem cc13 : compF Tryz.prog [] Tryz.f13 = some ac13 := by kernel_rfl
theorem goT13 {args : List AV} {h0 : AHeap} {Q : AEnd → AHeap → Prop} (hl : args.length ≤ 30) (h : HLow h0.length h0 → EwpT Tryz.prog Φ h0.length ac13 (ebodyT Tryz.prog Φ [(.cell 2 (some 14)), (.cell 3 none), (.cell 4 none)] h0.length Q) (argEnv args 0) h0) : S Tryz.prog Φ 13 args h0 Q :=
 S_of_codeTW Tryz.func13 rfl rfl cc13 rfl (by kernel_rfl) hl h
def ra15_0 : ACode :=
 (.region [⟨(some 6), .alloc 88 4 (.agg [(.int .i64 0), (.str []), (.int .i64 0), (.int .i64 0)]), none⟩,
 ⟨none, .store 4 (.tmp 6) (.tmp 12), none⟩] (some [2, 3, 4, 5, 6]))
def rb15_0 : ACode :=
 (.block 1 (.seq (.block 2 (.seq (.region [⟨(some 14), .fieldAddr 3 (.tmp 6), none⟩,
 ⟨(some 15), .load none (.tmp 14), none⟩,
 ⟨(some 16), .bin .num .neq (.tmp 15) (.val (.int .i64 0)), none⟩,
 ⟨(some 13), .mov (.tmp 16), none⟩] (some [2, 3, 4, 5, 6, 13]))
 (.cond (.tmp 13) (.seq (.draw [⟨⟨(some 17), .fieldAddr 3 (.tmp 6), none⟩, false, 0, true⟩,
 ⟨⟨(some 18), .load none (.tmp 17), none⟩, false, 0, true⟩,
 ⟨⟨(some 19), .fieldAddr 0 (.tmp 6), none⟩, false, 0, true⟩,
 ⟨⟨(some 20), .fieldAddr 2 (.tmp 19), none⟩, false, 0, true⟩,
 ⟨⟨(some 21), .load none (.tmp 20), none⟩, false, 0, true⟩,
 ⟨⟨none, .store 1 (.tmp 2) (.val .nils), none⟩, true, 0, false⟩,
 ⟨⟨none, .store 1 (.tmp 3) (.tmp 18), none⟩, true, 0, false⟩,
 ⟨⟨none, .store 1 (.tmp 4) (.tmp 21), none⟩, true, 0, false⟩] (some []))
 .ret)
 (.seq (.region [⟨(some 23), .load none (.tmp 5), none⟩,
 ⟨(some 24), .len .slice (.tmp 23), none⟩,
 ⟨(some 25), .bin .num .eql (.tmp 24) (.val (.int .i64 5000)), none⟩,
 ⟨(some 22), .mov (.tmp 25), none⟩] (some [2, 3, 4, 5, 6, 22]))
 (.cond (.tmp 22) (.seq (.draw [⟨⟨(some 26), .fieldAddr 0 (.tmp 6), none⟩, false, 0, true⟩,
 ⟨⟨(some 27), .fieldAddr 2 (.tmp 26), none⟩, false, 0, true⟩,
 ⟨⟨(some 28), .load none (.tmp 27), none⟩, false, 0, true⟩,
 ⟨⟨none, .store 1 (.tmp 2) (.val .nils), none⟩, true, 0, false⟩,
 ⟨⟨none, .store 1 (.tmp 3) (.val (.int .i64 2)), none⟩, true, 0, false⟩,
 ⟨⟨none, .store 1 (.tmp 4) (.tmp 28), none⟩, true, 0, false⟩] (some []))
 .ret)
 .skip)))))
 (.region [⟨(some 29), .load none (.tmp 5), none⟩,
 ⟨(some 30), .fieldAddr 0 (.tmp 6), none⟩,
 ⟨(some 31), .load (some 3) (.tmp 30), none⟩,
 ⟨(some 32), .fslice 3 [(.tmp 31)], none⟩,
 ⟨(some 33), .append 43 3 32 (.tmp 29) (.tmp 32), none⟩,
 ⟨none, .store 1 (.tmp 5) (.tmp 33), none⟩] (some []))))
def ac15 : ACode :=
 (.seq (.region [⟨(some 2), .alloc 39 1 .nils, none⟩,
 ⟨(some 3), .alloc 31 1 (.int .i64 0), none⟩,
 ⟨(some 4), .alloc 3 1 (.int .i64 0), none⟩] (some [0, 2, 3, 4, 12]))
 (.seq (.seq (.region [⟨(some 7), .mov (.tmp 0), none⟩,
 ⟨(some 8), .len .str (.tmp 7), none⟩,
 ⟨(some 9), .bin .num .gtr (.tmp 8) (.val (.int .i64 20000)), none⟩] (some [0, 2, 3, 4, 9, 12]))
 (.cond (.tmp 9) (.seq (.region [⟨none, .store 1 (.tmp 2) (.val .nils), none⟩,
 ⟨none, .store 1 (.tmp 3) (.val (.int .i64 2)), none⟩,
 ⟨none, .store 1 (.tmp 4) (.val (.int .i64 (-1))), none⟩] (some [2, 3, 4]))
 .ret)
 .skip))
 (.seq (.region [⟨(some 5), .alloc 39 1 .nils, none⟩] (some [0, 2, 3, 4, 5, 12]))
 (.seq (.seq (.region [⟨(some 10), .mov (.tmp 0), none⟩,
 ⟨(some 11), .callF 41 [(.tmp 10)], none⟩] (some [2, 3, 4, 5, 11, 12]))
 (.block 0 (.range (.tmp 11) [12] 35 [32] ra15_0 rb15_0)))
 (.seq (.region [⟨(some 34), .load none (.tmp 5), none⟩,
 ⟨none, .store 1 (.tmp 2) (.tmp 34), none⟩,
 ⟨none, .store 1 (.tmp 3) (.val (.int .i64 0)), none⟩,
 ⟨none, .store 1 (.tmp 4) (.val (.int .i64 0)), none⟩] (some [2, 3, 4]))
 .ret)))))
theorem cc15 : compF Tryz.prog [32] Tryz.f15 = some ac15 := by kernel_rfl
theorem go15 {args : List AV} {h0 : AHeap} {Q : AEnd → AHeap → Prop} (hl : args.length ≤ 35) (h : HLow h0.length h0 → Ewp Tryz.prog Φ h0.length ac15 (ebodyQ Φ [(.cell 2 none), (.cell 3 none), (.cell 4 none)] h0.length Q) (argEnv args 0) h0) : S Tryz.prog Φ 15 args h0 Q :=
 S_of_codeW Tryz.func15 rfl rfl cc15 (by kernel_rfl) hl h
def ac16 : ACode :=
 (.seq (.region [⟨(some 2), .mov (.val (.str [])), none⟩] (some [0]))
 (.seq (.region [⟨(some 3), .alloc 92 2 (.agg [.nilp, .nils]), none⟩] (some [0, 3]))
 (.seq (.region [⟨(some 6), .callF 42 [(.tmp 3), (.val (.int .u8 34))], none⟩] (some [0, 3]))
 (.seq (.seq (.region [⟨(some 7), .mov (.tmp 0), none⟩,
 ⟨(some 8), .len .str (.tmp 7), none⟩,
 ⟨(some 9), .mov (.val (.int .i64 0)), none⟩] (some [0, 3, 8, 9]))
 (.block 0 (.loop (.seq (.region [⟨(some 10), .bin .num .lss (.tmp 9) (.tmp 8), none⟩] (some [0, 3, 8, 9, 10]))
 (.seq (.cond (.tmp 10) .skip
 (.exit 0))
 (.seq (.block 1 (.seq (.region [⟨(some 11), .mov (.tmp 9), none⟩,
 ⟨(some 4), .mov (.tmp 11), none⟩] (some [0, 3, 4, 8, 9]))
 (.seq (.region [⟨(some 12), .mov (.tmp 0), none⟩,
 ⟨(some 13), .mov (.tmp 4), none⟩,
 ⟨(some 14), .byteAt (.tmp 12) (.tmp 13), none⟩,
 ⟨(some 5), .mov (.tmp 14), none⟩] (some [0, 3, 5, 8, 9]))
 (.seq (.region [⟨(some 15), .mov (.tmp 5), none⟩] (some [0, 3, 5, 8, 9, 15]))
 (.block 2 (.seq (.region [⟨(some 19), .bin .num .eql (.tmp 15) (.val (.int .u8 10)), none⟩,
 ⟨(some 18), .mov (.tmp 19), none⟩] (some [0, 3, 5, 8, 9, 15, 18]))
 (.cond (.tmp 18) (.region [⟨(some 20), .callF 43 [(.tmp 3), (.val (.str [92, 110]))], none⟩] (some [0, 3, 8, 9]))
 (.seq (.seq (.region [⟨(some 22), .bin .num .eql (.tmp 15) (.val (.int .u8 34)), none⟩,
 ⟨(some 21), .mov (.tmp 22), none⟩] (some [0, 3, 5, 8, 9, 15, 21]))
 (.cond (.tmp 21) .skip
 (.region [⟨(some 23), .bin .num .eql (.tmp 15) (.val (.int .u8 92)), none⟩,
 ⟨(some 21), .mov (.tmp 23), none⟩] (some [0, 3, 5, 8, 9, 21]))))
 (.cond (.tmp 21) (.seq (.region [⟨(some 24), .callF 42 [(.tmp 3), (.val (.int .u8 92))], none⟩] (some [0, 3, 5, 8, 9]))
 (.region [⟨(some 25), .mov (.tmp 5), none⟩,
 ⟨(some 26), .callF 42 [(.tmp 3), (.tmp 25)], none⟩] (some [0, 3, 8, 9])))
 (.region [⟨(some 16), .mov (.tmp 5), none⟩,
 ⟨(some 17), .callF 42 [(.tmp 3), (.tmp 16)], none⟩] (some [0, 3, 8, 9])))))))))))
 (.region [⟨(some 27), .bin .num .add (.tmp 9) (.val (.int .i64 1)), none⟩,
 ⟨(some 9), .mov (.tmp 27), none⟩] (some [0, 3, 8, 9]))))))))
 (.seq (.region [⟨(some 28), .callF 42 [(.tmp 3), (.val (.int .u8 34))], none⟩] (some [3]))
 (.seq (.region [⟨(some 29), .callF 44 [(.tmp 3)], none⟩,
 ⟨(some 2), .mov (.tmp 29), none⟩] (some [2]))
 .ret))))))
theorem cc16 : compF Tryz.prog [] Tryz.f16 = some ac16 := by kernel_rfl
theorem go16 {args : List AV} {h0 : AHeap} {Q : AEnd → AHeap → Prop} (hl : args.length ≤ 30) (h : HLow h0.length h0 → Ewp Tryz.prog Φ h0.length ac16 (ebodyQ Φ [(.tmp 2)] h0.length Q) (argEnv args 0) h0) : S Tryz.prog Φ 16 args h0 Q :=
 S_of_codeW Tryz.func16 rfl rfl cc16 (by kernel_rfl) hl h
def ac18 : ACode :=
 (.seq (.region [⟨(some 1), .fbox 5 (.tmp 0), none⟩,
 ⟨(some 2), .mov (.val (.bool false)), none⟩] (some [1]))
 (.seq (.region [⟨(some 3), .load (some 5) (.tmp 1), none⟩,
 ⟨(some 4), .callF 45 [(.tmp 3), (.val (.int .i64 80))], none⟩,
 ⟨(some 5), .bin .num .leq (.tmp 4) (.val (.int .i64 80)), none⟩,
 ⟨(some 6), .mov (.tmp 5), none⟩,
 ⟨(some 7), .load (some 5) (.tmp 1), (some (6, true))⟩,
 ⟨(some 8), .callF 46 [(.tmp 7)], (some (6, true))⟩,
 ⟨(some 9), .pick (.tmp 6) (.tmp 8) (.val (.bool false)), none⟩,
 ⟨(some 2), .mov (.tmp 9), none⟩] (some [2]))
 .ret))
theorem cc18 : compF Tryz.prog [1] Tryz.f18 = some ac18 := by kernel_rfl
theorem go18 {args : List AV} {h0 : AHeap} {Q : AEnd → AHeap → Prop} (hl : args.length ≤ 10) (h : HLow h0.length h0 → Ewp Tryz.prog Φ h0.length ac18 (ebodyQ Φ [(.tmp 2)] h0.length Q) (argEnv args 0) h0) : S Tryz.prog Φ 18 args h0 Q :=
 S_of_codeW Tryz.func18 rfl rfl cc18 (by kernel_rfl) hl h
def ac19 : ACode :=
 (.seq (.region [⟨(some 2), .fbox 6 (.tmp 0), none⟩,
 ⟨(some 4), .mov (.val (.bool false)), none⟩] (some [1, 2]))
 (.seq (.seq (.region [⟨(some 7), .fieldAddr 0 (.tmp 2), none⟩,
 ⟨(some 8), .load none (.tmp 7), none⟩,
 ⟨(some 9), .len .str (.tmp 8), none⟩,
 ⟨(some 10), .bin .num .gtr (.tmp 9) (.val (.int .i64 300)), none⟩,
 ⟨(some 11), .mov (.tmp 10), none⟩,
 ⟨(some 12), .fieldAddr 4 (.tmp 2), (some (11, false))⟩,
 ⟨(some 13), .load none (.tmp 12), (some (11, false))⟩,
 ⟨(some 14), .len .slice (.tmp 13), (some (11, false))⟩,
 ⟨(some 15), .mov (.tmp 1), (some (11, false))⟩,
 ⟨(some 16), .bin .num .gtr (.tmp 14) (.tmp 15), (some (11, false))⟩,
 ⟨(some 17), .pick (.tmp 11) (.val (.bool true)) (.tmp 16), none⟩,
 ⟨(some 18), .mov (.tmp 17), none⟩,
 ⟨(some 19), .fieldAddr 5 (.tmp 2), (some (18, false))⟩,
 ⟨(some 20), .load none (.tmp 19), (some (18, false))⟩,
 ⟨(some 21), .len .slice (.tmp 20), (some (18, false))⟩,
 ⟨(some 22), .bin .num .gtr (.tmp 21) (.val (.int .i64 65)), (some (18, false))⟩,
 ⟨(some 23), .pick (.tmp 18) (.val (.bool true)) (.tmp 22), none⟩] (some [2, 23]))
 (.cond (.tmp 23) (.seq (.region [⟨(some 4), .mov (.val (.bool false)), none⟩] (some [4]))
 .ret)
 .skip))
 (.seq (.seq (.region [⟨(some 5), .mov (.val (.int .i64 0)), none⟩] (some [2, 5]))
 (.block 0 (.loop (.seq (.seq (.region [⟨(some 24), .mov (.tmp 5), none⟩,
 ⟨(some 25), .fieldAddr 4 (.tmp 2), none⟩,
 ⟨(some 26), .load none (.tmp 25), none⟩,
 ⟨(some 27), .len .slice (.tmp 26), none⟩,
 ⟨(some 28), .bin .num .lss (.tmp 24) (.tmp 27), none⟩] (some [2, 5, 28]))
 (.cond (.tmp 28) .skip
 (.exit 0)))
 (.seq (.block 1 (.seq (.region [⟨(some 31), .fieldAddr 4 (.tmp 2), none⟩,
 ⟨(some 32), .load none (.tmp 31), none⟩,
 ⟨(some 33), .mov (.tmp 5), none⟩,
 ⟨(some 34), .elemAddr 1 (.tmp 32) (.tmp 33), none⟩,
 ⟨(some 35), .load none (.tmp 34), none⟩,
 ⟨(some 36), .len .str (.tmp 35), none⟩,
 ⟨(some 37), .bin .num .gtr (.tmp 36) (.val (.int .i64 300)), none⟩] (some [2, 5, 37]))
 (.cond (.tmp 37) (.seq (.region [⟨(some 4), .mov (.val (.bool false)), none⟩] (some [4]))
 .ret)
 .skip)))
 (.region [⟨(some 29), .mov (.tmp 5), none⟩,
 ⟨(some 30), .bin .num .add (.tmp 29) (.val (.int .i64 1)), none⟩,
 ⟨(some 5), .mov (.tmp 30), none⟩] (some [2, 5])))))))
 (.seq (.seq (.region [⟨(some 6), .mov (.val (.int .i64 0)), none⟩] (some [2, 6]))
 (.block 2 (.loop (.seq (.seq (.region [⟨(some 38), .mov (.tmp 6), none⟩,
 ⟨(some 39), .fieldAddr 5 (.tmp 2), none⟩,
 ⟨(some 40), .load none (.tmp 39), none⟩,
 ⟨(some 41), .len .slice (.tmp 40), none⟩,
 ⟨(some 42), .bin .num .lss (.tmp 38) (.tmp 41), none⟩] (some [2, 6, 42]))
 (.cond (.tmp 42) .skip
 (.exit 2)))
 (.seq (.block 3 (.seq (.draw [⟨⟨(some 45), .fieldAddr 5 (.tmp 2), none⟩, false, 0, false⟩,
 ⟨⟨(some 46), .load none (.tmp 45), none⟩, false, 0, false⟩,
 ⟨⟨(some 47), .mov (.tmp 6), none⟩, false, 0, false⟩,
 ⟨⟨(some 48), .elemAddr 2 (.tmp 46) (.tmp 47), none⟩, false, 0, false⟩,
 ⟨⟨(some 49), .fieldAddr 0 (.tmp 48), none⟩, false, 0, false⟩,
 ⟨⟨(some 50), .load none (.tmp 49), none⟩, false, 0, false⟩,
 ⟨⟨(some 51), .len .str (.tmp 50), none⟩, false, 0, false⟩,
 ⟨⟨(some 52), .fieldAddr 5 (.tmp 2), none⟩, false, 0, false⟩,
 ⟨⟨(some 53), .load none (.tmp 52), none⟩, false, 0, false⟩,
 ⟨⟨(some 54), .mov (.tmp 6), none⟩, false, 0, false⟩,
 ⟨⟨(some 55), .elemAddr 2 (.tmp 53) (.tmp 54), none⟩, false, 0, false⟩,
 ⟨⟨(some 56), .fieldAddr 1 (.tmp 55), none⟩, false, 0, false⟩,
 ⟨⟨(some 57), .load none (.tmp 56), none⟩, false, 0, false⟩,
 ⟨⟨(some 58), .len .str (.tmp 57), none⟩, false, 0, false⟩,
 ⟨⟨(some 59), .bin .num .add (.tmp 51) (.tmp 58), none⟩, false, 0, false⟩,
 ⟨⟨(some 60), .bin .num .gtr (.tmp 59) (.val (.int .i64 600)), none⟩, false, 0, false⟩] (some [2, 6, 60]))
 (.cond (.tmp 60) (.seq (.region [⟨(some 4), .mov (.val (.bool false)), none⟩] (some [4]))
 .ret)
 .skip)))
 (.region [⟨(some 43), .mov (.tmp 6), none⟩,
 ⟨(some 44), .bin .num .add (.tmp 43) (.val (.int .i64 1)), none⟩,
 ⟨(some 6), .mov (.tmp 44), none⟩] (some [2, 6])))))))
 (.seq (.region [⟨(some 4), .mov (.val (.bool true)), none⟩] (some [4]))
 .ret)))))
theorem cc19 : compF Tryz.prog [2] Tryz.f19 = some ac19 := by kernel_rfl
theorem go19 {args : List AV} {h0 : AHeap} {Q : AEnd → AHeap → Prop} (hl : args.length ≤ 61) (h : HLow h0.length h0 → Ewp Tryz.prog Φ h0.length ac19 (ebodyQ Φ [(.tmp 4)] h0.length Q) (argEnv args 0) h0) : S Tryz.prog Φ 19 args h0 Q :=
 S_of_codeW Tryz.func19 rfl rfl cc19 (by kernel_rfl) hl h
def ac22 : ACode :=
 (.seq (.region [⟨(some 2), .fbox 5 (.tmp 0), none⟩,
 ⟨(some 3), .fbox 6 (.tmp 1), none⟩,
 ⟨(some 4), .mov (.val (.bool false)), none⟩] (some [2, 3]))
 (.seq (.region [⟨(some 5), .load (some 5) (.tmp 2), none⟩,
 ⟨(some 6), .callF 34 [(.tmp 5)], none⟩,
 ⟨(some 7), .mov (.tmp 6), none⟩,
 ⟨(some 8), .load (some 5) (.tmp 2), (some (7, true))⟩,
 ⟨(some 9), .load (some 6) (.tmp 3), (some (7, true))⟩,
 ⟨(some 10), .callF 48 [(.tmp 8), (.tmp 9)], (some (7, true))⟩,
 ⟨(some 11), .pick (.tmp 7) (.tmp 10) (.val (.bool false)), none⟩,
 ⟨(some 4), .mov (.tmp 11), none⟩] (some [4]))
 .ret))
theorem cc22 : compF Tryz.prog [2, 3] Tryz.f22 = some ac22 := by kernel_rfl
theorem go22 {args : List AV} {h0 : AHeap} {Q : AEnd → AHeap → Prop} (hl : args.length ≤ 12) (h : HLow h0.length h0 → Ewp Tryz.prog Φ h0.length ac22 (ebodyQ Φ [(.tmp 4)] h0.length Q) (argEnv args 0) h0) : S Tryz.prog Φ 22 args h0 Q :=
 S_of_codeW Tryz.func22 rfl rfl cc22 (by kernel_rfl) hl h
def ac23 : ACode :=
 (.seq (.region [⟨(some 2), .fbox 5 (.tmp 0), none⟩,
 ⟨(some 4), .mov (.val (.bool false)), none⟩] (some [1, 2]))
 (.seq (.seq (.region [⟨(some 6), .fieldAddr 1 (.tmp 2), none⟩,
 ⟨(some 7), .load none (.tmp 6), none⟩,
 ⟨(some 8), .mov (.tmp 1), none⟩,
 ⟨(some 9), .bin .str .eql (.tmp 7) (.tmp 8), none⟩] (some [1, 2, 9]))
 (.cond (.tmp 9) (.seq (.region [⟨(some 4), .mov (.val (.bool true)), none⟩] (some [4]))
 .ret)
 .skip))
 (.seq (.seq (.region [⟨(some 5), .mov (.val (.int .i64 0)), none⟩] (some [1, 2, 5]))
 (.block 0 (.loop (.seq (.seq (.region [⟨(some 10), .mov (.tmp 5), none⟩,
 ⟨(some 11), .fieldAddr 4 (.tmp 2), none⟩,
 ⟨(some 12), .load none (.tmp 11), none⟩,
 ⟨(some 13), .len .slice (.tmp 12), none⟩,
 ⟨(some 14), .bin .num .lss (.tmp 10) (.tmp 13), none⟩] (some [1, 2, 5, 14]))
 (.cond (.tmp 14) .skip
 (.exit 0)))
 (.seq (.block 1 (.seq (.region [⟨(some 17), .fieldAddr 4 (.tmp 2), none⟩,
 ⟨(some 18), .load none (.tmp 17), none⟩,
 ⟨(some 19), .mov (.tmp 5), none⟩,
 ⟨(some 20), .elemAddr 5 (.tmp 18) (.tmp 19), none⟩,
 ⟨(some 21), .load (some 5) (.tmp 20), none⟩,
 ⟨(some 22), .mov (.tmp 1), none⟩,
 ⟨(some 23), .callF 23 [(.tmp 21), (.tmp 22)], none⟩] (some [1, 2, 5, 23]))
 (.cond (.tmp 23) (.seq (.region [⟨(some 4), .mov (.val (.bool true)), none⟩] (some [4]))
 .ret)
 .skip)))
 (.region [⟨(some 15), .mov (.tmp 5), none⟩,
 ⟨(some 16), .bin .num .add (.tmp 15) (.val (.int .i64 1)), none⟩,
 ⟨(some 5), .mov (.tmp 16), none⟩] (some [1, 2, 5])))))))
 (.seq (.region [⟨(some 4), .mov (.val (.bool false)), none⟩] (some [4]))
 .ret))))
theorem cc23 : compF Tryz.prog [2] Tryz.f23 = some ac23 := by kernel_rfl
theorem go23 {args : List AV} {h0 : AHeap} {Q : AEnd → AHeap → Prop} (hl : args.length ≤ 24) (h : HLow h0.length h0 → Ewp Tryz.prog Φ h0.length ac23 (ebodyQ Φ [(.tmp 4)] h0.length Q) (argEnv args 0) h0) : S Tryz.prog Φ 23 args h0 Q :=
 S_of_codeW Tryz.func23 rfl rfl cc23 (by kernel_rfl) hl h
def ac28 : ACode :=
 (.seq (.region [⟨(some 2), .fbox 14 (.tmp 0), none⟩,
 ⟨(some 3), .fbox 1 (.tmp 1), none⟩,
 ⟨(some 4), .mov (.val (.int .i64 0)), none⟩] (some [2, 3]))
 (.seq (.seq (.region [⟨(some 7), .load (some 14) (.tmp 2), none⟩,
 ⟨(some 8), .callF 12 [(.tmp 7)], none⟩,
 ⟨(some 9), .un .not (.tmp 8), none⟩,
 ⟨(some 10), .mov (.tmp 9), none⟩,
 ⟨(some 11), .load (some 1) (.tmp 3), (some (10, false))⟩,
 ⟨(some 12), .callF 55 [(.tmp 11)], (some (10, false))⟩,
 ⟨(some 13), .un .not (.tmp 12), (some (10, false))⟩,
 ⟨(some 14), .pick (.tmp 10) (.val (.bool true)) (.tmp 13), none⟩] (some [2, 3, 14]))
 (.cond (.tmp 14) (.seq (.region [⟨(some 4), .mov (.val (.int .i64 1)), none⟩] (some [4]))
 .ret)
 .skip))
 (.seq (.region [⟨(some 5), .mov (.val (.int .i64 0)), none⟩] (some [2, 3, 5]))
 (.seq (.seq (.region [⟨(some 15), .fieldAddr 0 (.tmp 2), none⟩,
 ⟨(some 16), .load none (.tmp 15), none⟩] (some [2, 3, 5, 16]))
 (.block 0 (.seq (.region [⟨(some 18), .bin .num .eql (.tmp 16) (.val (.int .i64 2)), none⟩,
 ⟨(some 17), .mov (.tmp 18), none⟩] (some [2, 3, 5, 16, 17]))
 (.cond (.tmp 17) (.region [⟨(some 5), .mov (.val (.int .i64 3)), none⟩] (some [2, 3, 5]))
 (.seq (.seq (.region [⟨(some 20), .bin .num .eql (.tmp 16) (.val (.int .i64 3)), none⟩,
 ⟨(some 19), .mov (.tmp 20), none⟩] (some [2, 3, 5, 16, 19]))
 (.cond (.tmp 19) .skip
 (.region [⟨(some 21), .bin .num .eql (.tmp 16) (.val (.int .i64 4)), none⟩,
 ⟨(some 19), .mov (.tmp 21), none⟩] (some [2, 3, 5, 16, 19]))))
 (.cond (.tmp 19) (.seq (.seq (.region [⟨(some 22), .fieldAddr 1 (.tmp 2), none⟩,
 ⟨(some 23), .load none (.tmp 22), none⟩,
 ⟨(some 24), .bin .num .eql (.tmp 23) (.val (.int .i64 4)), none⟩,
 ⟨(some 25), .mov (.tmp 24), none⟩,
 ⟨(some 26), .fieldAddr 1 (.tmp 2), (some (25, false))⟩,
 ⟨(some 27), .load none (.tmp 26), (some (25, false))⟩,
 ⟨(some 28), .bin .num .eql (.tmp 27) (.val (.int .i64 5)), (some (25, false))⟩,
 ⟨(some 29), .pick (.tmp 25) (.val (.bool true)) (.tmp 28), none⟩] (some [2, 3, 5, 29]))
 (.cond (.tmp 29) (.seq (.region [⟨(some 4), .mov (.val (.int .i64 8)), none⟩] (some [4]))
 .ret)
 .skip))
 (.seq (.region [⟨(some 30), .fieldAddr 0 (.tmp 2), none⟩,
 ⟨(some 31), .load none (.tmp 30), none⟩,
 ⟨(some 32), .bin .num .eql (.tmp 31) (.val (.int .i64 3)), none⟩] (some [2, 3, 5, 32]))
 (.cond (.tmp 32) (.region [⟨(some 5), .mov (.val (.int .i64 2)), none⟩] (some [2, 3, 5]))
 .skip)))
 (.seq (.region [⟨(some 34), .bin .num .eql (.tmp 16) (.val (.int .i64 5)), none⟩,
 ⟨(some 33), .mov (.tmp 34), none⟩] (some [2, 3, 5, 33]))
 (.cond (.tmp 33) (.seq (.seq (.region [⟨(some 35), .fieldAddr 1 (.tmp 2), none⟩,
 ⟨(some 36), .load none (.tmp 35), none⟩,
 ⟨(some 37), .bin .num .neq (.tmp 36) (.val (.int .i64 0)), none⟩,
 ⟨(some 38), .mov (.tmp 37), none⟩,
 ⟨(some 39), .fieldAddr 1 (.tmp 2), (some (38, true))⟩,
 ⟨(some 40), .load none (.tmp 39), (some (38, true))⟩,
 ⟨(some 41), .bin .num .neq (.tmp 40) (.val (.int .i64 1)), (some (38, true))⟩,
 ⟨(some 42), .pick (.tmp 38) (.tmp 41) (.val (.bool false)), none⟩] (some [2, 3, 42]))
 (.cond (.tmp 42) (.seq (.region [⟨(some 4), .mov (.val (.int .i64 8)), none⟩] (some [4]))
 .ret)
 .skip))
 (.region [⟨(some 5), .mov (.val (.int .i64 1)), none⟩] (some [2, 3, 5])))
 .skip))))))))
 (.seq (.region [⟨(some 43), .load (some 1) (.tmp 3), none⟩,
 ⟨(some 44), .fieldAddr 7 (.tmp 2), none⟩,
 ⟨(some 45), .load none (.tmp 44), none⟩,
 ⟨(some 46), .callF 56 [(.tmp 43), (.tmp 45)], none⟩,
 ⟨(some 6), .mov (.tmp 46), none⟩] (some [3, 5, 6]))
 (.seq (.block 1 (.seq (.region [⟨(some 48), .mov (.tmp 5), none⟩,
 ⟨(some 49), .bin .num .eql (.tmp 48) (.val (.int .i64 0)), none⟩,
 ⟨(some 47), .mov (.tmp 49), none⟩] (some [3, 5, 6, 47]))
 (.cond (.tmp 47) (.seq (.region [⟨(some 4), .mov (.val (.int .i64 0)), none⟩] (some [4]))
 .ret)
 (.seq (.region [⟨(some 51), .mov (.tmp 6), none⟩,
 ⟨(some 52), .bin .num .lss (.tmp 51) (.val (.int .i64 0)), none⟩,
 ⟨(some 50), .mov (.tmp 52), none⟩] (some [3, 5, 6, 50]))
 (.cond (.tmp 50) (.seq (.region [⟨(some 4), .mov (.val (.int .i64 11)), none⟩] (some [4]))
 .ret)
 (.seq (.region [⟨(some 54), .fieldAddr 0 (.tmp 3), none⟩,
 ⟨(some 55), .load none (.tmp 54), none⟩,
 ⟨(some 56), .mov (.tmp 6), none⟩,
 ⟨(some 57), .elemAddr 6 (.tmp 55) (.tmp 56), none⟩,
 ⟨(some 58), .fieldAddr 1 (.tmp 57), none⟩,
 ⟨(some 59), .load none (.tmp 58), none⟩,
 ⟨(some 60), .mov (.tmp 5), none⟩,
 ⟨(some 61), .bin .num .neq (.tmp 59) (.tmp 60), none⟩,
 ⟨(some 53), .mov (.tmp 61), none⟩] (some [53]))
 (.cond (.tmp 53) (.seq (.region [⟨(some 4), .mov (.val (.int .i64 13)), none⟩] (some [4]))
 .ret)
 .skip)))))))
 (.seq (.region [⟨(some 4), .mov (.val (.int .i64 0)), none⟩] (some [4]))
 .ret)))))))
theorem cc28 : compF Tryz.prog [2, 3] Tryz.f28 = some ac28 := by kernel_rfl
theorem go28 {args : List AV} {h0 : AHeap} {Q : AEnd → AHeap → Prop} (hl : args.length ≤ 62) (h : HLow h0.length h0 → Ewp Tryz.prog Φ h0.length ac28 (ebodyQ Φ [(.tmp 4)] h0.length Q) (argEnv args 0) h0) : S Tryz.prog Φ 28 args h0 Q :=
 S_of_codeW Tryz.func28 rfl rfl cc28 (by kernel_rfl) hl h
def ac31 : ACode :=
 (.seq (.region [⟨(some 0), .mov (.val .nils), none⟩] (some []))
 (.seq (.region [⟨(some 1), .fslice 1 [(.val (.str [97, 110, 121])), (.val (.str [110, 111, 100, 101])), (.val (.str [119, 97, 121])), (.val (.str [97, 114, 101, 97])), (.val (.str [114, 111, 117, 116, 101])), (.val (.str [116, 117, 114, 110]))], none⟩,
 ⟨(some 0), .mov (.tmp 1), none⟩] (some [0]))
 .ret))
theorem cc31 : compF Tryz.prog [1] Tryz.f31 = some ac31 := by kernel_rfl
theorem go31 {args : List AV} {h0 : AHeap} {Q : AEnd → AHeap → Prop} (hl : args.length ≤ 2) (h : HLow h0.length h0 → Ewp Tryz.prog Φ h0.length ac31 (ebodyQ Φ [(.tmp 0)] h0.length Q) (argEnv args 0) h0) : S Tryz.prog Φ 31 args h0 Q :=
 S_of_codeW Tryz.func31 rfl rfl cc31 (by kernel_rfl) hl h
def ac32 : ACode :=
 (.seq (.region [⟨(some 1), .fbox 5 (.tmp 0), none⟩,
 ⟨(some 2), .mov (.val (.str [])), none⟩] (some [1]))
 (.seq (.region [⟨(some 3), .mov (.val .nils), none⟩] (some [1, 3]))
 (.seq (.seq (.region [⟨(some 7), .fieldAddr 4 (.tmp 1), none⟩,
 ⟨(some 8), .load none (.tmp 7), none⟩,
 ⟨(some 9), .len .slice (.tmp 8), none⟩,
 ⟨(some 10), .mov (.val (.int .i64 0)), none⟩] (some [1, 3, 8, 9, 10]))
 (.block 0 (.loop (.seq (.region [⟨(some 11), .bin .num .lss (.tmp 10) (.tmp 9), none⟩] (some [1, 3, 8, 9, 10, 11]))
 (.seq (.cond (.tmp 11) .skip
 (.exit 0))
 (.seq (.block 1 (.seq (.region [⟨(some 12), .elemAddr 5 (.tmp 8) (.tmp 10), none⟩,
 ⟨(some 13), .load (some 5) (.tmp 12), none⟩,
 ⟨(some 5), .alloc 24 5 (.agg [(.int .i64 0), (.str []), (.str []), (.int .i64 0), .nils]), none⟩,
 ⟨none, .store 5 (.tmp 5) (.tmp 13), none⟩] (some [1, 3, 5, 8, 9, 10]))
 (.seq (.region [⟨(some 14), .load (some 5) (.tmp 5), none⟩,
 ⟨(some 15), .callF 32 [(.tmp 14)], none⟩,
 ⟨(some 6), .mov (.tmp 15), none⟩] (some [1, 3, 5, 6, 8, 9, 10]))
 (.seq (.seq (.region [⟨(some 16), .fieldAddr 0 (.tmp 5), none⟩,
 ⟨(some 17), .load none (.tmp 16), none⟩,
 ⟨(some 18), .bin .num .eql (.tmp 17) (.val (.int .i64 5)), none⟩,
 ⟨(some 19), .mov (.tmp 18), none⟩,
 ⟨(some 20), .fieldAddr 0 (.tmp 5), (some (19, false))⟩,
 ⟨(some 21), .load none (.tmp 20), (some (19, false))⟩,
 ⟨(some 22), .bin .num .eql (.tmp 21) (.val (.int .i64 6)), (some (19, false))⟩,
 ⟨(some 23), .pick (.tmp 19) (.val (.bool true)) (.tmp 22), none⟩] (some [1, 3, 6, 8, 9, 10, 23]))
 (.cond (.tmp 23) (.region [⟨(some 24), .mov (.tmp 6), none⟩,
 ⟨(some 25), .bin .str .add (.val (.str [40])) (.tmp 24), none⟩,
 ⟨(some 26), .bin .str .add (.tmp 25) (.val (.str [41])), none⟩,
 ⟨(some 6), .mov (.tmp 26), none⟩] (some [1, 3, 6, 8, 9, 10]))
 .skip))
 (.region [⟨(some 27), .mov (.tmp 3), none⟩,
 ⟨(some 28), .mov (.tmp 6), none⟩,
 ⟨(some 29), .fslice 1 [(.tmp 28)], none⟩,
 ⟨(some 30), .append 9 1 16 (.tmp 27) (.tmp 29), none⟩,
 ⟨(some 3), .mov (.tmp 30), none⟩] (some [1, 3, 8, 9, 10]))))))
 (.region [⟨(some 31), .bin .num .add (.tmp 10) (.val (.int .i64 1)), none⟩,
 ⟨(some 10), .mov (.tmp 31), none⟩] (some [1, 3, 8, 9, 10]))))))))
 (.seq (.seq (.region [⟨(some 32), .fieldAddr 0 (.tmp 1), none⟩,
 ⟨(some 33), .load none (.tmp 32), none⟩] (some [1, 3, 33]))
 (.block 2 (.seq (.region [⟨(some 35), .bin .num .eql (.tmp 33) (.val (.int .i64 2)), none⟩,
 ⟨(some 34), .mov (.tmp 35), none⟩] (some [1, 3, 33, 34]))
 (.cond (.tmp 34) (.seq (.region [⟨(some 36), .fieldAddr 1 (.tmp 1), none⟩,
 ⟨(some 37), .load none (.tmp 36), none⟩,
 ⟨(some 2), .mov (.tmp 37), none⟩] (some [2]))
 .ret)
 (.seq (.region [⟨(some 39), .bin .num .eql (.tmp 33) (.val (.int .i64 3)), none⟩,
 ⟨(some 38), .mov (.tmp 39), none⟩] (some [1, 3, 33, 38]))
 (.cond (.tmp 38) (.seq (.draw [⟨⟨(some 40), .fieldAddr 1 (.tmp 1), none⟩, false, 0, false⟩,
 ⟨⟨(some 41), .load none (.tmp 40), none⟩, false, 0, false⟩,
 ⟨⟨(some 42), .bin .str .add (.tmp 41) (.val (.str [32, 61, 32])), none⟩, false, 0, false⟩,
 ⟨⟨(some 43), .fieldAddr 2 (.tmp 1), none⟩, false, 0, false⟩,
 ⟨⟨(some 44), .load none (.tmp 43), none⟩, false, 0, false⟩,
 ⟨⟨(some 45), .callF 16 [(.tmp 44)], none⟩, false, 0, false⟩,
 ⟨⟨(some 46), .bin .str .add (.tmp 42) (.tmp 45), none⟩, false, 0, false⟩,
 ⟨⟨(some 2), .mov (.tmp 46), none⟩, false, 0, false⟩] (some [2]))
 .ret)
 (.seq (.region [⟨(some 48), .bin .num .eql (.tmp 33) (.val (.int .i64 7)), none⟩,
 ⟨(some 47), .mov (.tmp 48), none⟩] (some [1, 3, 33, 47]))
 (.cond (.tmp 47) (.seq (.draw [⟨⟨(some 49), .fieldAddr 1 (.tmp 1), none⟩, false, 0, false⟩,
 ⟨⟨(some 50), .load none (.tmp 49), none⟩, false, 0, false⟩,
 ⟨⟨(some 51), .bin .str .add (.tmp 50) (.val (.str [32, 62, 32])), none⟩, false, 0, false⟩,
 ⟨⟨(some 52), .fieldAddr 3 (.tmp 1), none⟩, false, 0, false⟩,
 ⟨⟨(some 53), .load none (.tmp 52), none⟩, false, 0, false⟩,
 ⟨⟨(some 54), .callF 30 [(.tmp 53)], none⟩, false, 0, false⟩,
 ⟨⟨(some 55), .bin .str .add (.tmp 51) (.tmp 54), none⟩, false, 0, false⟩,
 ⟨⟨(some 2), .mov (.tmp 55), none⟩, false, 0, false⟩] (some [2]))
 .ret)
 (.seq (.region [⟨(some 57), .bin .num .eql (.tmp 33) (.val (.int .i64 4)), none⟩,
 ⟨(some 56), .mov (.tmp 57), none⟩] (some [3, 33, 56]))
 (.cond (.tmp 56) (.seq (.region [⟨(some 58), .mov (.tmp 3), none⟩,
 ⟨(some 59), .elemAddr 1 (.tmp 58) (.val (.int .i64 0)), none⟩,
 ⟨(some 60), .load none (.tmp 59), none⟩,
 ⟨(some 61), .bin .str .add (.val (.str [110, 111, 116, 32])) (.tmp 60), none⟩,
 ⟨(some 2), .mov (.tmp 61), none⟩] (some [2]))
 .ret)
 (.seq (.region [⟨(some 63), .bin .num .eql (.tmp 33) (.val (.int .i64 5)), none⟩,
 ⟨(some 62), .mov (.tmp 63), none⟩] (some [3, 33, 62]))
 (.cond (.tmp 62) (.seq (.region [⟨(some 64), .mov (.tmp 3), none⟩,
 ⟨(some 65), .callF 33 [(.tmp 64), (.val (.str [32, 97, 110, 100, 32]))], none⟩,
 ⟨(some 2), .mov (.tmp 65), none⟩] (some [2]))
 .ret)
 (.seq (.region [⟨(some 67), .bin .num .eql (.tmp 33) (.val (.int .i64 6)), none⟩,
 ⟨(some 66), .mov (.tmp 67), none⟩] (some [3, 66]))
 (.cond (.tmp 66) (.seq (.region [⟨(some 68), .mov (.tmp 3), none⟩,
 ⟨(some 69), .callF 33 [(.tmp 68), (.val (.str [32, 111, 114, 32]))], none⟩,
 ⟨(some 2), .mov (.tmp 69), none⟩] (some [2]))
 .ret)
 .skip))))))))))))))
 (.seq (.region [⟨(some 2), .mov (.val (.str [97, 108, 119, 97, 121, 115])), none⟩] (some [2]))
 .ret)))))
theorem cc32 : compF Tryz.prog [1, 29] Tryz.f32 = some ac32 := by kernel_rfl
theorem go32 {args : List AV} {h0 : AHeap} {Q : AEnd → AHeap → Prop} (hl : args.length ≤ 70) (h : HLow h0.length h0 → Ewp Tryz.prog Φ h0.length ac32 (ebodyQ Φ [(.tmp 2)] h0.length Q) (argEnv args 0) h0) : S Tryz.prog Φ 32 args h0 Q :=
 S_of_codeW Tryz.func32 rfl rfl cc32 (by kernel_rfl) hl h
def ac34 : ACode :=
 (.seq (.region [⟨(some 1), .fbox 5 (.tmp 0), none⟩,
 ⟨(some 2), .mov (.val (.bool false)), none⟩] (some [1]))
 (.seq (.region [⟨(some 3), .load (some 5) (.tmp 1), none⟩,
 ⟨(some 4), .callF 39 [(.tmp 3)], none⟩,
 ⟨(some 5), .bin .num .leq (.tmp 4) (.val (.int .i64 60)), none⟩,
 ⟨(some 6), .mov (.tmp 5), none⟩,
 ⟨(some 7), .load (some 5) (.tmp 1), (some (6, true))⟩,
 ⟨(some 8), .callF 59 [(.tmp 7), (.val (.fn 60 [] []))], (some (6, true))⟩,
 ⟨(some 9), .pick (.tmp 6) (.tmp 8) (.val (.bool false)), none⟩,
 ⟨(some 2), .mov (.tmp 9), none⟩] (some [2]))
 .ret))
theorem cc34 : compF Tryz.prog [1] Tryz.f34 = some ac34 := by kernel_rfl
theorem go34 {args : List AV} {h0 : AHeap} {Q : AEnd → AHeap → Prop} (hl : args.length ≤ 10) (h : HLow h0.length h0 → Ewp Tryz.prog Φ h0.length ac34 (ebodyQ Φ [(.tmp 2)] h0.length Q) (argEnv args 0) h0) : S Tryz.prog Φ 34 args h0 Q :=
 S_of_codeW Tryz.func34 rfl rfl cc34 (by kernel_rfl) hl h
def ac35 : ACode :=
 (.seq (.region [⟨(some 6), .mov (.val (.bool false)), none⟩] (some [0, 1, 2]))
 (.seq (.region [⟨(some 7), .mov (.tmp 0), none⟩,
 ⟨(some 8), .mov (.tmp 1), none⟩,
 ⟨(some 9), .bin .num .geq (.tmp 7) (.tmp 8), none⟩,
 ⟨(some 10), .mov (.tmp 9), none⟩,
 ⟨(some 11), .mov (.tmp 0), (some (10, true))⟩,
 ⟨(some 12), .mov (.tmp 2), (some (10, true))⟩,
 ⟨(some 13), .bin .num .leq (.tmp 11) (.tmp 12), (some (10, true))⟩,
 ⟨(some 14), .pick (.tmp 10) (.tmp 13) (.val (.bool false)), none⟩,
 ⟨(some 6), .mov (.tmp 14), none⟩] (some [6]))
 .ret))
theorem cc35 : compF Tryz.prog [] Tryz.f35 = some ac35 := by kernel_rfl
theorem go35 {args : List AV} {h0 : AHeap} {Q : AEnd → AHeap → Prop} (hl : args.length ≤ 15) (h : HLow h0.length h0 → Ewp Tryz.prog Φ h0.length ac35 (ebodyQ Φ [(.tmp 6)] h0.length Q) (argEnv args 0) h0) : S Tryz.prog Φ 35 args h0 Q :=
 S_of_codeW Tryz.func35 rfl rfl cc35 (by kernel_rfl) hl h
def ac36 : ACode :=
 (.seq (.region [⟨(some 2), .mov (.val (.bool false)), none⟩] (some [0]))
 (.seq (.region [⟨(some 6), .callF 61 [], none⟩,
 ⟨(some 3), .alloc 106 256 (.agg (List.replicate 256 (.int .u8 0))), none⟩,
 ⟨none, .store 256 (.tmp 3) (.tmp 6), none⟩] (some [0, 3]))
 (.seq (.seq (.region [⟨(some 7), .mov (.tmp 0), none⟩,
 ⟨(some 8), .len .str (.tmp 7), none⟩,
 ⟨(some 9), .mov (.val (.int .i64 0)), none⟩] (some [0, 3, 8, 9]))
 (.block 0 (.loop (.seq (.region [⟨(some 10), .bin .num .lss (.tmp 9) (.tmp 8), none⟩] (some [0, 3, 8, 9, 10]))
 (.seq (.cond (.tmp 10) .skip
 (.exit 0))
 (.seq (.block 1 (.seq (.region [⟨(some 11), .mov (.tmp 9), none⟩,
 ⟨(some 4), .mov (.tmp 11), none⟩] (some [0, 3, 4, 8, 9]))
 (.seq (.region [⟨(some 12), .mov (.tmp 0), none⟩,
 ⟨(some 13), .mov (.tmp 4), none⟩,
 ⟨(some 14), .byteAt (.tmp 12) (.tmp 13), none⟩,
 ⟨(some 15), .cellAddr 256 1 (.tmp 3) (.tmp 14), none⟩,
 ⟨(some 16), .load none (.tmp 15), none⟩,
 ⟨(some 5), .mov (.tmp 16), none⟩] (some [0, 3, 4, 5, 8, 9]))
 (.seq (.region [⟨(some 17), .mov (.tmp 5), none⟩,
 ⟨(some 18), .bin .num .neq (.tmp 17) (.val (.int .u8 3)), none⟩,
 ⟨(some 19), .mov (.tmp 18), none⟩,
 ⟨(some 20), .mov (.tmp 4), (some (19, true))⟩,
 ⟨(some 21), .bin .num .eql (.tmp 20) (.val (.int .i64 0)), (some (19, true))⟩,
 ⟨(some 22), .mov (.tmp 21), (some (19, true))⟩,
 ⟨(some 23), .mov (.tmp 5), (some (22, false))⟩,
 ⟨(some 24), .bin .num .neq (.tmp 23) (.val (.int .u8 4)), (some (22, false))⟩,
 ⟨(some 25), .mov (.tmp 24), (some (22, false))⟩,
 ⟨(some 26), .mov (.tmp 5), (some (25, true))⟩,
 ⟨(some 27), .bin .num .neq (.tmp 26) (.val (.int .u8 5)), (some (25, true))⟩,
 ⟨(some 28), .pick (.tmp 25) (.tmp 27) (.val (.bool false)), (some (22, false))⟩,
 ⟨(some 29), .pick (.tmp 22) (.val (.bool true)) (.tmp 28), (some (19, true))⟩,
 ⟨(some 30), .pick (.tmp 19) (.tmp 29) (.val (.bool false)), none⟩] (some [0, 3, 8, 9, 30]))
 (.cond (.tmp 30) (.seq (.region [⟨(some 2), .mov (.val (.bool false)), none⟩] (some [2]))
 .ret)
 .skip)))))
 (.region [⟨(some 31), .bin .num .add (.tmp 9) (.val (.int .i64 1)), none⟩,
 ⟨(some 9), .mov (.tmp 31), none⟩] (some [0, 3, 8, 9]))))))))
 (.seq (.region [⟨(some 32), .mov (.tmp 0), none⟩,
 ⟨(some 33), .bin .str .neq (.tmp 32) (.val (.str [])), none⟩,
 ⟨(some 34), .mov (.tmp 33), none⟩,
 ⟨(some 35), .mov (.tmp 0), (some (34, true))⟩,
 ⟨(some 36), .len .str (.tmp 35), (some (34, true))⟩,
 ⟨(some 37), .bin .num .leq (.tmp 36) (.val (.int .i64 24)), (some (34, true))⟩,
 ⟨(some 38), .pick (.tmp 34) (.tmp 37) (.val (.bool false)), none⟩,
 ⟨(some 2), .mov (.tmp 38), none⟩] (some [2]))
 .ret))))
theorem cc36 : compF Tryz.prog [] Tryz.f36 = some ac36 := by kernel_rfl
theorem go36 {args : List AV} {h0 : AHeap} {Q : AEnd → AHeap → Prop} (hl : args.length ≤ 39) (h : HLow h0.length h0 → Ewp Tryz.prog Φ h0.length ac36 (ebodyQ Φ [(.tmp 2)] h0.length Q) (argEnv args 0) h0) : S Tryz.prog Φ 36 args h0 Q :=
 S_of_codeW Tryz.func36 rfl rfl cc36 (by kernel_rfl) hl h
def ac37 : ACode :=
 (.block 0 (.seq (.region [⟨(some 8), .bin .iface .eql (.tmp 6) (.val .nili), none⟩] (some [0, 1, 2, 6, 8]))
 (.cond (.tmp 8) (.region [⟨(some 3), .mov (.tmp 6), none⟩] (some []))
 (.seq (.region [⟨(some 9), .tassert 77 (.agg [(.int .i64 0), (.int .i64 0)]) true (.tmp 6), none⟩,
 ⟨(some 10), .extract (.tmp 9) 1, none⟩,
 ⟨(some 11), .extract (.tmp 9) 0, none⟩] (some [0, 1, 2, 6, 10, 11]))
 (.cond (.tmp 10) (.seq (.region [⟨(some 4), .alloc 77 2 (.agg [(.int .i64 0), (.int .i64 0)]), none⟩,
 ⟨none, .store 2 (.tmp 4) (.tmp 11), none⟩] (some [0, 1, 2, 4]))
 (.draw [⟨⟨(some 12), .build [(.int .i64 0), (.int .i64 0), (.int .i64 0), (.str []), (.str []), (.int .i64 0), .nils, (.str []), (.int .i64 0), (.int .i64 0), (.int .i64 0), (.str []), (.str []), (.int .i64 0)] [], none⟩, false, 0, false⟩,
 ⟨⟨(some 13), .fieldAddr 0 (.tmp 4), none⟩, false, 0, true⟩,
 ⟨⟨(some 14), .load none (.tmp 13), none⟩, false, 0, true⟩,
 ⟨⟨(some 15), .fieldAddr 1 (.tmp 4), none⟩, false, 0, true⟩,
 ⟨⟨(some 16), .load none (.tmp 15), none⟩, false, 0, true⟩,
 ⟨⟨none, .store 14 (.tmp 0) (.tmp 12), none⟩, true, 0, false⟩,
 ⟨⟨none, .store 1 (.tmp 1) (.tmp 14), none⟩, true, 0, false⟩,
 ⟨⟨none, .store 1 (.tmp 2) (.tmp 16), none⟩, true, 0, false⟩] (some [])))
 (.seq (.region [⟨(some 5), .mov (.tmp 6), none⟩] (some [5]))
 (.region [⟨(some 7), .mov (.tmp 5), none⟩,
 ⟨none, .panic (.tmp 7), none⟩] (some []))))))))
theorem cc37 : compR Tryz.prog [] Tryz.f37 = some ac37 := by kernel_rfl
theorem goD37 {args : List AV} {h0 : AHeap} {pan : Option AV} {Q : Bool → AEnd → AHeap → Prop} (hl : args.length ≤ 17) (h : HLow h0.length h0 → Ewp Tryz.prog Φ h0.length ac37 (ebodyQ Φ [] h0.length (Q pan.isSome)) ((6, recV pan) :: argEnv args 0) h0) : SD Tryz.prog Φ 37 args h0 pan Q :=
 SD_of_codeW Tryz.func37 rfl (by kernel_rfl) cc37 rfl (by kernel_rfl) hl h
def ac38 : ACode :=
 (.seq (.region [⟨(some 2), .alloc 28 14 (.agg [(.int .i64 0), (.int .i64 0), (.int .i64 0), (.str []), (.str []), (.int .i64 0), .nils, (.str []), (.int .i64 0), (.int .i64 0), (.int .i64 0), (.str []), (.str []), (.int .i64 0)]), none⟩] (some [0, 2]))
 (.seq (.region [⟨(some 4), .mov (.tmp 0), none⟩,
 ⟨(some 5), .callF 62 [(.tmp 4)], none⟩,
 ⟨(some 3), .alloc 28 14 (.agg [(.int .i64 0), (.int .i64 0), (.int .i64 0), (.str []), (.str []), (.int .i64 0), .nils, (.str []), (.int .i64 0), (.int .i64 0), (.int .i64 0), (.str []), (.str []), (.int .i64 0)]), none⟩,
 ⟨none, .store 14 (.tmp 3) (.tmp 5), none⟩] (some [0, 2, 3]))
 (.seq (.region [⟨(some 6), .callF 31 [], none⟩,
 ⟨(some 7), .mov (.tmp 0), none⟩,
 ⟨(some 8), .mkfn 64 [(.tmp 7)] [], none⟩,
 ⟨(some 9), .callF 63 [(.tmp 6), (.tmp 8)], none⟩,
 ⟨(some 10), .fieldAddr 1 (.tmp 3), none⟩,
 ⟨none, .store 1 (.tmp 10) (.tmp 9), none⟩] (some [0, 2, 3]))
 (.seq (.seq (.region [⟨(some 11), .fieldAddr 1 (.tmp 3), none⟩,
 ⟨(some 12), .load none (.tmp 11), none⟩,
 ⟨(some 13), .bin .num .lss (.tmp 12) (.val (.int .i64 0)), none⟩] (some [0, 2, 3, 13]))
 (.cond (.tmp 13) (.region [⟨(some 14), .mov (.tmp 0), none⟩,
 ⟨(some 15), .callF 65 [(.tmp 14), (.val (.int .i64 5))], none⟩] (some [0, 2, 3]))
 .skip))
 (.seq (.region [⟨(some 16), .fieldAddr 2 (.tmp 3), none⟩,
 ⟨(some 17), .fieldAddr 0 (.tmp 16), none⟩,
 ⟨none, .store 1 (.tmp 17) (.val (.int .i64 1)), none⟩] (some [0, 2, 3]))
 (.seq (.seq (.region [⟨(some 18), .mov (.tmp 0), none⟩,
 ⟨(some 19), .callF 64 [(.tmp 18), (.val (.str [119, 104, 101, 114, 101]))], none⟩] (some [0, 2, 3, 19]))
 (.cond (.tmp 19) (.region [⟨(some 20), .mov (.tmp 0), none⟩,
 ⟨(some 21), .callF 66 [(.tmp 20)], none⟩,
 ⟨(some 22), .fieldAddr 2 (.tmp 3), none⟩,
 ⟨none, .store 5 (.tmp 22) (.tmp 21), none⟩] (some [0, 2, 3]))
 .skip))
 (.seq (.seq (.region [⟨(some 23), .mov (.tmp 0), none⟩,
 ⟨(some 24), .nilchk (.tmp 23), none⟩,
 ⟨(some 25), .fieldAddr 0 (.tmp 24), none⟩,
 ⟨(some 26), .load none (.tmp 25), none⟩,
 ⟨(some 27), .len .slice (.tmp 26), none⟩,
 ⟨(some 28), .bin .num .gtr (.tmp 27) (.val (.int .i64 0)), none⟩] (some [0, 2, 3, 28]))
 (.cond (.tmp 28) (.region [⟨(some 29), .mov (.tmp 0), none⟩,
 ⟨(some 30), .callF 65 [(.tmp 29), (.val (.int .i64 5))], none⟩] (some [2, 3]))
 .skip))
 (.seq (.region [⟨(some 31), .load (some 14) (.tmp 3), none⟩,
 ⟨none, .store 14 (.tmp 2) (.tmp 31), none⟩] (some [2]))
 .ret))))))))
theorem cc38 : compF Tryz.prog [] Tryz.f38 = some ac38 := by kernel_rfl
theorem go38 {args : List AV} {h0 : AHeap} {Q : AEnd → AHeap → Prop} (hl : args.length ≤ 32) (h : HLow h0.length h0 → Ewp Tryz.prog Φ h0.length ac38 (ebodyQ Φ [(.cell 2 (some 14))] h0.length Q) (argEnv args 0) h0) : S Tryz.prog Φ 38 args h0 Q :=
 S_of_codeW Tryz.func38 rfl rfl cc38 (by kernel_rfl) hl h
def ac39 : ACode :=
 (.seq (.region [⟨(some 1), .fbox 5 (.tmp 0), none⟩,
 ⟨(some 2), .mov (.val (.int .i64 0)), none⟩] (some [1]))
 (.seq (.region [⟨(some 3), .alloc 3 1 (.int .i64 0), none⟩,
 ⟨none, .store 1 (.tmp 3) (.val (.int .i64 0)), none⟩] (some [1, 3]))
 (.seq (.region [⟨(some 4), .load (some 5) (.tmp 1), none⟩,
 ⟨(some 5), .mkfn 67 [] [(.tmp 3)], none⟩,
 ⟨(some 6), .callF 59 [(.tmp 4), (.tmp 5)], none⟩] (some [3]))
 (.seq (.region [⟨(some 7), .load none (.tmp 3), none⟩,
 ⟨(some 2), .mov (.tmp 7), none⟩] (some [2]))
 .ret))))
theorem cc39 : compF Tryz.prog [1] Tryz.f39 = some ac39 := by kernel_rfl
theorem go39 {args : List AV} {h0 : AHeap} {Q : AEnd → AHeap → Prop} (hl : args.length ≤ 8) (h : HLow h0.length h0 → Ewp Tryz.prog Φ h0.length ac39 (ebodyQ Φ [(.tmp 2)] h0.length Q) (argEnv args 0) h0) : S Tryz.prog Φ 39 args h0 Q :=
 S_of_codeW Tryz.func39 rfl rfl cc39 (by kernel_rfl) hl h
def ac41 : ACode :=
 (.seq (.region [⟨(some 1), .fbox 1 (.tmp 0), none⟩,
 ⟨(some 2), .mov (.val .nilf), none⟩] (some [1]))
 (.seq (.region [⟨(some 5), .callF 61 [], none⟩,
 ⟨(some 3), .alloc 106 256 (.agg (List.replicate 256 (.int .u8 0))), none⟩,
 ⟨none, .store 256 (.tmp 3) (.tmp 5), none⟩] (some [1, 3]))
 (.seq (.region [⟨(some 6), .mkfn 68 [] [(.tmp 1), (.tmp 3)], none⟩,
 ⟨(some 4), .alloc 111 1 .nilf, none⟩,
 ⟨none, .store 1 (.tmp 4) (.tmp 6), none⟩] (some [1, 4]))
 (.seq (.region [⟨(some 7), .mkfn 69 [] [(.tmp 1), (.tmp 4)], none⟩,
 ⟨(some 2), .mov (.tmp 7), none⟩] (some [2]))
 .ret))))
theorem cc41 : compF Tryz.prog [1] Tryz.f41 = some ac41 := by kernel_rfl
theorem go41 {args : List AV} {h0 : AHeap} {Q : AEnd → AHeap → Prop} (hl : args.length ≤ 8) (h : HLow h0.length h0 → Ewp Tryz.prog Φ h0.length ac41 (ebodyQ Φ [(.tmp 2)] h0.length Q) (argEnv args 0) h0) : S Tryz.prog Φ 41 args h0 Q :=
 S_of_codeW Tryz.func41 rfl rfl cc41 (by kernel_rfl) hl h
def ac42 : ACode :=
 (.seq (.region [⟨(some 4), .mov (.val .nili), none⟩] (some [0, 1]))
 (.seq (.region [⟨(some 5), .mov (.tmp 0), none⟩,
 ⟨(some 6), .callF 71 [(.tmp 5)], none⟩] (some [0, 1]))
 (.seq (.region [⟨(some 7), .mov (.tmp 0), none⟩,
 ⟨(some 8), .mov (.tmp 0), none⟩,
 ⟨(some 9), .nilchk (.tmp 8), none⟩,
 ⟨(some 10), .fieldAddr 1 (.tmp 9), none⟩,
 ⟨(some 11), .load none (.tmp 10), none⟩,
 ⟨(some 12), .mov (.tmp 1), none⟩,
 ⟨(some 13), .fslice 1 [(.tmp 12)], none⟩,
 ⟨(some 14), .append 5 1 1 (.tmp 11) (.tmp 13), none⟩,
 ⟨(some 15), .nilchk (.tmp 7), none⟩,
 ⟨(some 16), .fieldAddr 1 (.tmp 15), none⟩,
 ⟨none, .store 1 (.tmp 16) (.tmp 14), none⟩] (some []))
 (.seq (.region [⟨(some 4), .mov (.val .nili), none⟩] (some [4]))
 .ret))))
theorem cc42 : compF Tryz.prog [13] Tryz.f42 = some ac42 := by kernel_rfl
theorem go42 {args : List AV} {h0 : AHeap} {Q : AEnd → AHeap → Prop} (hl : args.length ≤ 17) (h : HLow h0.length h0 → Ewp Tryz.prog Φ h0.length ac42 (ebodyQ Φ [(.tmp 4)] h0.length Q) (argEnv args 0) h0) : S Tryz.prog Φ 42 args h0 Q :=
 S_of_codeW Tryz.func42 rfl rfl cc42 (by kernel_rfl) hl h
def ac43 : ACode :=
 (.seq (.region [⟨(some 4), .mov (.val (.int .i64 0)), none⟩,
 ⟨(some 5), .mov (.val .nili), none⟩] (some [0, 1]))
 (.seq (.region [⟨(some 6), .mov (.tmp 0), none⟩,
 ⟨(some 7), .callF 71 [(.tmp 6)], none⟩] (some [0, 1]))
 (.seq (.region [⟨(some 8), .mov (.tmp 0), none⟩,
 ⟨(some 9), .mov (.tmp 0), none⟩,
 ⟨(some 10), .nilchk (.tmp 9), none⟩,
 ⟨(some 11), .fieldAddr 1 (.tmp 10), none⟩,
 ⟨(some 12), .load none (.tmp 11), none⟩,
 ⟨(some 13), .mov (.tmp 1), none⟩,
 ⟨(some 14), .append 5 1 1 (.tmp 12) (.tmp 13), none⟩,
 ⟨(some 15), .nilchk (.tmp 8), none⟩,
 ⟨(some 16), .fieldAddr 1 (.tmp 15), none⟩,
 ⟨none, .store 1 (.tmp 16) (.tmp 14), none⟩] (some [1]))
 (.seq (.region [⟨(some 17), .mov (.tmp 1), none⟩,
 ⟨(some 18), .len .str (.tmp 17), none⟩,
 ⟨(some 4), .mov (.tmp 18), none⟩,
 ⟨(some 5), .mov (.val .nili), none⟩] (some [4, 5]))
 .ret))))
theorem cc43 : compF Tryz.prog [] Tryz.f43 = some ac43 := by kernel_rfl
theorem go43 {args : List AV} {h0 : AHeap} {Q : AEnd → AHeap → Prop} (hl : args.length ≤ 19) (h : HLow h0.length h0 → Ewp Tryz.prog Φ h0.length ac43 (ebodyQ Φ [(.tmp 4), (.tmp 5)] h0.length Q) (argEnv args 0) h0) : S Tryz.prog Φ 43 args h0 Q :=
 S_of_codeW Tryz.func43 rfl rfl cc43 (by kernel_rfl) hl h
def ac45 : ACode :=
 (.seq (.region [⟨(some 2), .fbox 5 (.tmp 0), none⟩,
 ⟨(some 4), .mov (.val (.int .i64 0)), none⟩] (some [1, 2]))
 (.seq (.region [⟨(some 5), .mov (.val (.int .i64 1)), none⟩] (some [1, 2, 5]))
 (.seq (.seq (.region [⟨(some 6), .mov (.val (.int .i64 0)), none⟩] (some [1, 2, 5, 6]))
 (.block 0 (.loop (.seq (.seq (.region [⟨(some 7), .mov (.tmp 6), none⟩,
 ⟨(some 8), .fieldAddr 4 (.tmp 2), none⟩,
 ⟨(some 9), .load none (.tmp 8), none⟩,
 ⟨(some 10), .len .slice (.tmp 9), none⟩,
 ⟨(some 11), .bin .num .lss (.tmp 7) (.tmp 10), none⟩,
 ⟨(some 12), .mov (.tmp 11), none⟩,
 ⟨(some 13), .mov (.tmp 5), (some (12, true))⟩,
 ⟨(some 14), .mov (.tmp 1), (some (12, true))⟩,
 ⟨(some 15), .bin .num .leq (.tmp 13) (.tmp 14), (some (12, true))⟩,
 ⟨(some 16), .pick (.tmp 12) (.tmp 15) (.val (.bool false)), none⟩] (some [1, 2, 5, 6, 16]))
 (.cond (.tmp 16) .skip
 (.exit 0)))
 (.seq (.block 1 (.region [⟨(some 19), .mov (.tmp 5), none⟩,
 ⟨(some 20), .fieldAddr 4 (.tmp 2), none⟩,
 ⟨(some 21), .load none (.tmp 20), none⟩,
 ⟨(some 22), .mov (.tmp 6), none⟩,
 ⟨(some 23), .elemAddr 5 (.tmp 21) (.tmp 22), none⟩,
 ⟨(some 24), .load (some 5) (.tmp 23), none⟩,
 ⟨(some 25), .mov (.tmp 1), none⟩,
 ⟨(some 26), .mov (.tmp 5), none⟩,
 ⟨(some 27), .bin .num .sub (.tmp 25) (.tmp 26), none⟩,
 ⟨(some 28), .callF 45 [(.tmp 24), (.tmp 27)], none⟩,
 ⟨(some 29), .bin .num .add (.tmp 19) (.tmp 28), none⟩,
 ⟨(some 5), .mov (.tmp 29), none⟩] (some [1, 2, 5, 6])))
 (.region [⟨(some 17), .mov (.tmp 6), none⟩,
 ⟨(some 18), .bin .num .add (.tmp 17) (.val (.int .i64 1)), none⟩,
 ⟨(some 6), .mov (.tmp 18), none⟩] (some [1, 2, 5, 6])))))))
 (.seq (.region [⟨(some 30), .mov (.tmp 5), none⟩,
 ⟨(some 4), .mov (.tmp 30), none⟩] (some [4]))
 .ret))))
theorem cc45 : compF Tryz.prog [2] Tryz.f45 = some ac45 := by kernel_rfl
theorem go45 {args : List AV} {h0 : AHeap} {Q : AEnd → AHeap → Prop} (hl : args.length ≤ 31) (h : HLow h0.length h0 → Ewp Tryz.prog Φ h0.length ac45 (ebodyQ Φ [(.tmp 4)] h0.length Q) (argEnv args 0) h0) : S Tryz.prog Φ 45 args h0 Q :=
 S_of_codeW Tryz.func45 rfl rfl cc45 (by kernel_rfl) hl h
def ac46 : ACode :=
 (.seq (.region [⟨(some 1), .fbox 5 (.tmp 0), none⟩,
 ⟨(some 2), .mov (.val (.bool false)), none⟩] (some [1]))
 (.seq (.seq (.region [⟨(some 4), .fieldAddr 1 (.tmp 1), none⟩,
 ⟨(some 5), .load none (.tmp 4), none⟩,
 ⟨(some 6), .len .str (.tmp 5), none⟩,
 ⟨(some 7), .bin .num .gtr (.tmp 6) (.val (.int .i64 300)), none⟩,
 ⟨(some 8), .mov (.tmp 7), none⟩,
 ⟨(some 9), .fieldAddr 2 (.tmp 1), (some (8, false))⟩,
 ⟨(some 10), .load none (.tmp 9), (some (8, false))⟩,
 ⟨(some 11), .len .str (.tmp 10), (some (8, false))⟩,
 ⟨(some 12), .bin .num .gtr (.tmp 11) (.val (.int .i64 300)), (some (8, false))⟩,
 ⟨(some 13), .pick (.tmp 8) (.val (.bool true)) (.tmp 12), none⟩] (some [1, 13]))
 (.cond (.tmp 13) (.seq (.region [⟨(some 2), .mov (.val (.bool false)), none⟩] (some [2]))
 .ret)
 .skip))
 (.seq (.seq (.region [⟨(some 3), .mov (.val (.int .i64 0)), none⟩] (some [1, 3]))
 (.block 0 (.loop (.seq (.seq (.region [⟨(some 14), .mov (.tmp 3), none⟩,
 ⟨(some 15), .fieldAddr 4 (.tmp 1), none⟩,
 ⟨(some 16), .load none (.tmp 15), none⟩,
 ⟨(some 17), .len .slice (.tmp 16), none⟩,
 ⟨(some 18), .bin .num .lss (.tmp 14) (.tmp 17), none⟩] (some [1, 3, 18]))
 (.cond (.tmp 18) .skip
 (.exit 0)))
 (.seq (.block 1 (.seq (.region [⟨(some 21), .fieldAddr 4 (.tmp 1), none⟩,
 ⟨(some 22), .load none (.tmp 21), none⟩,
 ⟨(some 23), .mov (.tmp 3), none⟩,
 ⟨(some 24), .elemAddr 5 (.tmp 22) (.tmp 23), none⟩,
 ⟨(some 25), .load (some 5) (.tmp 24), none⟩,
 ⟨(some 26), .callF 46 [(.tmp 25)], none⟩,
 ⟨(some 27), .un .not (.tmp 26), none⟩] (some [1, 3, 27]))
 (.cond (.tmp 27) (.seq (.region [⟨(some 2), .mov (.val (.bool false)), none⟩] (some [2]))
 .ret)
 .skip)))
 (.region [⟨(some 19), .mov (.tmp 3), none⟩,
 ⟨(some 20), .bin .num .add (.tmp 19) (.val (.int .i64 1)), none⟩,
 ⟨(some 3), .mov (.tmp 20), none⟩] (some [1, 3])))))))
 (.seq (.region [⟨(some 2), .mov (.val (.bool true)), none⟩] (some [2]))
 .ret))))
theorem cc46 : compF Tryz.prog [1] Tryz.f46 = some ac46 := by kernel_rfl
theorem go46 {args : List AV} {h0 : AHeap} {Q : AEnd → AHeap → Prop} (hl : args.length ≤ 28) (h : HLow h0.length h0 → Ewp Tryz.prog Φ h0.length ac46 (ebodyQ Φ [(.tmp 2)] h0.length Q) (argEnv args 0) h0) : S Tryz.prog Φ 46 args h0 Q :=
 S_of_codeW Tryz.func46 rfl rfl cc46 (by kernel_rfl) hl h
def ac48 : ACode :=
 (.seq (.region [⟨(some 2), .fbox 5 (.tmp 0), none⟩,
 ⟨(some 3), .fbox 6 (.tmp 1), none⟩,
 ⟨(some 4), .mov (.val (.bool false)), none⟩] (some [2, 3]))
 (.seq (.region [⟨(some 13), .fieldAddr 5 (.tmp 3), none⟩,
 ⟨(some 14), .load none (.tmp 13), none⟩,
 ⟨(some 15), .fieldAddr 1 (.tmp 2), none⟩,
 ⟨(some 16), .load none (.tmp 15), none⟩,
 ⟨(some 17), .callF 73 [(.tmp 14), (.tmp 16)], none⟩,
 ⟨(some 12), .mov (.tmp 17), none⟩,
 ⟨(some 18), .extract (.tmp 12) 0, none⟩,
 ⟨(some 19), .extract (.tmp 12) 1, none⟩,
 ⟨(some 5), .mov (.tmp 18), none⟩,
 ⟨(some 6), .mov (.tmp 19), none⟩] (some [2, 3, 5, 6]))
 (.seq (.region [⟨(some 20), .mkfn 74 [] [(.tmp 3)], none⟩,
 ⟨(some 7), .alloc 51 1 .nilf, none⟩,
 ⟨none, .store 1 (.tmp 7) (.tmp 20), none⟩] (some [2, 5, 6, 7]))
 (.seq (.region [⟨(some 21), .mkfn 75 [] [(.tmp 7)], none⟩,
 ⟨(some 8), .mov (.tmp 21), none⟩] (some [2, 5, 6, 7, 8]))
 (.seq (.seq (.region [⟨(some 22), .fieldAddr 0 (.tmp 2), none⟩,
 ⟨(some 23), .load none (.tmp 22), none⟩] (some [2, 5, 6, 7, 8, 23]))
 (.block 0 (.seq (.region [⟨(some 25), .bin .num .eql (.tmp 23) (.val (.int .i64 2)), none⟩,
 ⟨(some 24), .mov (.tmp 25), none⟩] (some [2, 5, 6, 7, 8, 23, 24]))
 (.cond (.tmp 24) (.seq (.region [⟨(some 26), .mov (.tmp 6), none⟩,
 ⟨(some 4), .mov (.tmp 26), none⟩] (some [4]))
 .ret)
 (.seq (.region [⟨(some 28), .bin .num .eql (.tmp 23) (.val (.int .i64 3)), none⟩,
 ⟨(some 27), .mov (.tmp 28), none⟩] (some [2, 5, 6, 7, 8, 23, 27]))
 (.cond (.tmp 27) (.seq (.region [⟨(some 29), .mov (.tmp 6), none⟩,
 ⟨(some 30), .mov (.tmp 29), none⟩,
 ⟨(some 31), .mov (.tmp 5), (some (30, true))⟩,
 ⟨(some 32), .fieldAddr 2 (.tmp 2), (some (30, true))⟩,
 ⟨(some 33), .load none (.tmp 32), (some (30, true))⟩,
 ⟨(some 34), .bin .str .eql (.tmp 31) (.tmp 33), (some (30, true))⟩,
 ⟨(some 35), .pick (.tmp 30) (.tmp 34) (.val (.bool false)), none⟩,
 ⟨(some 4), .mov (.tmp 35), none⟩] (some [4]))
 .ret)
 (.seq (.region [⟨(some 37), .bin .num .eql (.tmp 23) (.val (.int .i64 7)), none⟩,
 ⟨(some 36), .mov (.tmp 37), none⟩] (some [2, 5, 6, 7, 8, 23, 36]))
 (.cond (.tmp 36) (.seq (.region [⟨(some 38), .mov (.tmp 5), none⟩,
 ⟨(some 39), .callF 76 [(.tmp 38), (.val (.fn 77 [] []))], none⟩,
 ⟨(some 40), .un .not (.tmp 39), none⟩,
 ⟨(some 9), .mov (.tmp 40), none⟩] (some [2, 5, 6, 9]))
 (.seq (.region [⟨(some 42), .mov (.tmp 5), none⟩,
 ⟨(some 43), .callF 78 [(.tmp 42)], none⟩,
 ⟨(some 41), .mov (.tmp 43), none⟩,
 ⟨(some 44), .extract (.tmp 41) 0, none⟩,
 ⟨(some 45), .extract (.tmp 41) 1, none⟩,
 ⟨(some 10), .mov (.tmp 44), none⟩,
 ⟨(some 11), .mov (.tmp 45), none⟩] (some [2, 5, 6, 9, 10, 11]))
 (.seq (.region [⟨(some 46), .mov (.tmp 6), none⟩,
 ⟨(some 47), .mov (.tmp 46), none⟩,
 ⟨(some 48), .mov (.tmp 9), (some (47, true))⟩,
 ⟨(some 49), .pick (.tmp 47) (.tmp 48) (.val (.bool false)), none⟩,
 ⟨(some 50), .mov (.tmp 49), none⟩,
 ⟨(some 51), .mov (.tmp 5), (some (50, true))⟩,
 ⟨(some 52), .len .str (.tmp 51), (some (50, true))⟩,
 ⟨(some 53), .bin .num .leq (.tmp 52) (.val (.int .i64 7)), (some (50, true))⟩,
 ⟨(some 54), .pick (.tmp 50) (.tmp 53) (.val (.bool false)), none⟩,
 ⟨(some 55), .mov (.tmp 54), none⟩,
 ⟨(some 56), .mov (.tmp 11), (some (55, true))⟩,
 ⟨(some 57), .bin .iface .eql (.tmp 56) (.val .nili), (some (55, true))⟩,
 ⟨(some 58), .pick (.tmp 55) (.tmp 57) (.val (.bool false)), none⟩,
 ⟨(some 59), .mov (.tmp 58), none⟩,
 ⟨(some 60), .mov (.tmp 10), (some (59, true))⟩,
 ⟨(some 61), .fieldAddr 3 (.tmp 2), (some (59, true))⟩,
 ⟨(some 62), .load none (.tmp 61), (some (59, true))⟩,
 ⟨(some 63), .bin .num .gtr (.tmp 60) (.tmp 62), (some (59, true))⟩,
 ⟨(some 64), .pick (.tmp 59) (.tmp 63) (.val (.bool false)), none⟩,
 ⟨(some 4), .mov (.tmp 64), none⟩] (some [4]))
 .ret)))
 (.seq (.seq (.region [⟨(some 66), .bin .num .eql (.tmp 23) (.val (.int .i64 4)), none⟩,
 ⟨(some 65), .mov (.tmp 66), none⟩] (some [2, 7, 8, 23, 65]))
 (.cond (.tmp 65) .skip
 (.region [⟨(some 67), .bin .num .eql (.tmp 23) (.val (.int .i64 5)), none⟩,
 ⟨(some 65), .mov (.tmp 67), none⟩] (some [2, 7, 8, 23, 65]))))
 (.cond (.tmp 65) (.seq (.draw [⟨⟨(some 68), .fieldAddr 4 (.tmp 2), none⟩, false, 0, false⟩,
 ⟨⟨(some 69), .load none (.tmp 68), none⟩, false, 0, false⟩,
 ⟨⟨(some 70), .mov (.tmp 8), none⟩, false, 0, false⟩,
 ⟨⟨(some 71), .callF 79 [(.tmp 69), (.tmp 70)], none⟩, false, 0, false⟩,
 ⟨⟨(some 72), .fieldAddr 0 (.tmp 2), none⟩, false, 0, false⟩,
 ⟨⟨(some 73), .load none (.tmp 72), none⟩, false, 0, false⟩,
 ⟨⟨(some 74), .bin .num .eql (.tmp 73) (.val (.int .i64 4)), none⟩, false, 0, false⟩,
 ⟨⟨(some 75), .bin .bool .eql (.tmp 71) (.tmp 74), none⟩, false, 0, false⟩,
 ⟨⟨(some 4), .mov (.tmp 75), none⟩, false, 0, false⟩] (some [4]))
 .ret)
 (.seq (.region [⟨(some 77), .bin .num .eql (.tmp 23) (.val (.int .i64 6)), none⟩,
 ⟨(some 76), .mov (.tmp 77), none⟩] (some [2, 7, 76]))
 (.cond (.tmp 76) (.seq (.region [⟨(some 78), .fieldAddr 4 (.tmp 2), none⟩,
 ⟨(some 79), .load none (.tmp 78), none⟩,
 ⟨(some 80), .load none (.tmp 7), none⟩,
 ⟨(some 81), .callF 79 [(.tmp 79), (.tmp 80)], none⟩,
 ⟨(some 4), .mov (.tmp 81), none⟩] (some [4]))
 .ret)
 .skip))))))))))))
 (.seq (.region [⟨(some 4), .mov (.val (.bool true)), none⟩] (some [4]))
 .ret))))))
theorem cc48 : compF Tryz.prog [2, 3] Tryz.f48 = some ac48 := by kernel_rfl
theorem go48 {args : List AV} {h0 : AHeap} {Q : AEnd → AHeap → Prop} (hl : args.length ≤ 82) (h : HLow h0.length h0 → Ewp Tryz.prog Φ h0.length ac48 (ebodyQ Φ [(.tmp 4)] h0.length Q) (argEnv args 0) h0) : S Tryz.prog Φ 48 args h0 Q :=
 S_of_codeW Tryz.func48 rfl rfl cc48 (by kernel_rfl) hl h
def ac55 : ACode :=
 (.seq (.region [⟨(some 1), .fbox 1 (.tmp 0), none⟩,
 ⟨(some 2), .mov (.val (.bool false)), none⟩] (some [1]))
 (.seq (.region [⟨(some 3), .mov (.val (.str [])), none⟩] (some [1, 3]))
 (.seq (.seq (.region [⟨(some 6), .fieldAddr 0 (.tmp 1), none⟩,
 ⟨(some 7), .load none (.tmp 6), none⟩,
 ⟨(some 8), .len .slice (.tmp 7), none⟩,
 ⟨(some 9), .mov (.val (.int .i64 0)), none⟩] (some [1, 3, 7, 8, 9]))
 (.block 0 (.loop (.seq (.region [⟨(some 10), .bin .num .lss (.tmp 9) (.tmp 8), none⟩] (some [1, 3, 7, 8, 9, 10]))
 (.seq (.cond (.tmp 10) .skip
 (.exit 0))
 (.seq (.block 1 (.seq (.region [⟨(some 11), .elemAddr 6 (.tmp 7) (.tmp 9), none⟩,
 ⟨(some 12), .load (some 6) (.tmp 11), none⟩,
 ⟨(some 5), .alloc 50 6 (.agg [(.str []), (.int .i64 0), (.int .i64 0), (.int .i64 0), .nils, .nils]), none⟩,
 ⟨none, .store 6 (.tmp 5) (.tmp 12), none⟩] (some [1, 3, 5, 7, 8, 9]))
 (.seq (.seq (.region [⟨(some 13), .load (some 6) (.tmp 5), none⟩,
 ⟨(some 14), .callF 82 [(.tmp 13)], none⟩,
 ⟨(some 15), .un .not (.tmp 14), none⟩,
 ⟨(some 16), .mov (.tmp 15), none⟩,
 ⟨(some 17), .fieldAddr 0 (.tmp 5), (some (16, false))⟩,
 ⟨(some 18), .load none (.tmp 17), (some (16, false))⟩,
 ⟨(some 19), .mov (.tmp 3), (some (16, false))⟩,
 ⟨(some 20), .bin .str .leq (.tmp 18) (.tmp 19), (some (16, false))⟩,
 ⟨(some 21), .pick (.tmp 16) (.val (.bool true)) (.tmp 20), none⟩] (some [1, 5, 7, 8, 9, 21]))
 (.cond (.tmp 21) (.seq (.region [⟨(some 2), .mov (.val (.bool false)), none⟩] (some [2]))
 .ret)
 .skip))
 (.region [⟨(some 22), .fieldAddr 0 (.tmp 5), none⟩,
 ⟨(some 23), .load none (.tmp 22), none⟩,
 ⟨(some 3), .mov (.tmp 23), none⟩] (some [1, 3, 7, 8, 9])))))
 (.region [⟨(some 24), .bin .num .add (.tmp 9) (.val (.int .i64 1)), none⟩,
 ⟨(some 9), .mov (.tmp 24), none⟩] (some [1, 3, 7, 8, 9]))))))))
 (.seq (.region [⟨(some 25), .fieldAddr 0 (.tmp 1), none⟩,
 ⟨(some 26), .load none (.tmp 25), none⟩,
 ⟨(some 27), .len .slice (.tmp 26), none⟩,
 ⟨(some 28), .bin .num .leq (.tmp 27) (.val (.int .i64 1000000)), none⟩,
 ⟨(some 2), .mov (.tmp 28), none⟩] (some [2]))
 .ret))))
theorem cc55 : compF Tryz.prog [1] Tryz.f55 = some ac55 := by kernel_rfl
theorem go55 {args : List AV} {h0 : AHeap} {Q : AEnd → AHeap → Prop} (hl : args.length ≤ 29) (h : HLow h0.length h0 → Ewp Tryz.prog Φ h0.length ac55 (ebodyQ Φ [(.tmp 2)] h0.length Q) (argEnv args 0) h0) : S Tryz.prog Φ 55 args h0 Q :=
 S_of_codeW Tryz.func55 rfl rfl cc55 (by kernel_rfl) hl h
def ac56 : ACode :=
 (.seq (.region [⟨(some 2), .fbox 1 (.tmp 0), none⟩,
 ⟨(some 3), .fbox 1 (.tmp 1), none⟩,
 ⟨(some 4), .mov (.val (.int .i64 0)), none⟩] (some [2, 3]))
 (.seq (.region [⟨(some 5), .fieldAddr 0 (.tmp 2), none⟩,
 ⟨(some 6), .load none (.tmp 5), none⟩,
 ⟨(some 7), .mkfn 84 [] [(.tmp 3)], none⟩,
 ⟨(some 8), .callF 83 [(.tmp 6), (.tmp 7)], none⟩,
 ⟨(some 4), .mov (.tmp 8), none⟩] (some [4]))
 .ret))
theorem cc56 : compF Tryz.prog [2, 3] Tryz.f56 = some ac56 := by kernel_rfl
theorem go56 {args : List AV} {h0 : AHeap} {Q : AEnd → AHeap → Prop} (hl : args.length ≤ 9) (h : HLow h0.length h0 → Ewp Tryz.prog Φ h0.length ac56 (ebodyQ Φ [(.tmp 4)] h0.length Q) (argEnv args 0) h0) : S Tryz.prog Φ 56 args h0 Q :=
 S_of_codeW Tryz.func56 rfl rfl cc56 (by kernel_rfl) hl h
def ac59 : ACode :=
 (.seq (.region [⟨(some 2), .fbox 5 (.tmp 0), none⟩,
 ⟨(some 3), .fbox 1 (.tmp 1), none⟩,
 ⟨(some 4), .mov (.val (.bool false)), none⟩] (some [2, 3]))
 (.seq (.region [⟨(some 5), .load none (.tmp 3), none⟩,
 ⟨(some 6), .load (some 5) (.tmp 2), none⟩,
 ⟨(some 7), .callV (.tmp 5) [(.tmp 6)], none⟩,
 ⟨(some 8), .mov (.tmp 7), none⟩,
 ⟨(some 9), .fieldAddr 4 (.tmp 2), (some (8, true))⟩,
 ⟨(some 10), .load none (.tmp 9), (some (8, true))⟩,
 ⟨(some 11), .mkfn 87 [] [(.tmp 3)], (some (8, true))⟩,
 ⟨(some 12), .callF 79 [(.tmp 10), (.tmp 11)], (some (8, true))⟩,
 ⟨(some 13), .un .not (.tmp 12), (some (8, true))⟩,
 ⟨(some 14), .pick (.tmp 8) (.tmp 13) (.val (.bool false)), none⟩,
 ⟨(some 4), .mov (.tmp 14), none⟩] (some [4]))
 .ret))
theorem cc59 : compF Tryz.prog [2, 3] Tryz.f59 = some ac59 := by kernel_rfl
theorem go59 {args : List AV} {h0 : AHeap} {Q : AEnd → AHeap → Prop} (hl : args.length ≤ 15) (h : HLow h0.length h0 → Ewp Tryz.prog Φ h0.length ac59 (ebodyQ Φ [(.tmp 4)] h0.length Q) (argEnv args 0) h0) : S Tryz.prog Φ 59 args h0 Q :=
 S_of_codeW Tryz.func59 rfl rfl cc59 (by kernel_rfl) hl h
def ac60 : ACode :=
 (.seq (.region [⟨(some 1), .fbox 5 (.tmp 0), none⟩,
 ⟨(some 2), .mov (.val (.bool false)), none⟩] (some [1]))
 (.seq (.region [⟨(some 5), .fieldAddr 1 (.tmp 1), none⟩,
 ⟨(some 6), .load none (.tmp 5), none⟩,
 ⟨(some 7), .bin .str .eql (.tmp 6) (.val (.str [])), none⟩,
 ⟨(some 8), .mov (.tmp 7), none⟩,
 ⟨(some 9), .fieldAddr 2 (.tmp 1), (some (8, true))⟩,
 ⟨(some 10), .load none (.tmp 9), (some (8, true))⟩,
 ⟨(some 11), .bin .str .eql (.tmp 10) (.val (.str [])), (some (8, true))⟩,
 ⟨(some 12), .pick (.tmp 8) (.tmp 11) (.val (.bool false)), none⟩,
 ⟨(some 13), .mov (.tmp 12), none⟩,
 ⟨(some 14), .fieldAddr 3 (.tmp 1), (some (13, true))⟩,
 ⟨(some 15), .load none (.tmp 14), (some (13, true))⟩,
 ⟨(some 16), .bin .num .eql (.tmp 15) (.val (.int .i64 0)), (some (13, true))⟩,
 ⟨(some 17), .pick (.tmp 13) (.tmp 16) (.val (.bool false)), none⟩,
 ⟨(some 3), .mov (.tmp 17), none⟩] (some [1, 3]))
 (.seq (.seq (.region [⟨(some 18), .fieldAddr 4 (.tmp 1), none⟩,
 ⟨(some 19), .load none (.tmp 18), none⟩,
 ⟨(some 20), .len .slice (.tmp 19), none⟩,
 ⟨(some 4), .mov (.tmp 20), none⟩] (some [1, 3, 4]))
 (.seq (.region [⟨(some 21), .fieldAddr 0 (.tmp 1), none⟩,
 ⟨(some 22), .load none (.tmp 21), none⟩] (some [1, 3, 4, 22]))
 (.block 0 (.seq (.region [⟨(some 24), .bin .num .eql (.tmp 22) (.val (.int .i64 1)), none⟩,
 ⟨(some 23), .mov (.tmp 24), none⟩] (some [1, 3, 4, 22, 23]))
 (.cond (.tmp 23) (.seq (.region [⟨(some 25), .mov (.tmp 3), none⟩,
 ⟨(some 26), .mov (.tmp 25), none⟩,
 ⟨(some 27), .mov (.tmp 4), (some (26, true))⟩,
 ⟨(some 28), .bin .num .eql (.tmp 27) (.val (.int .i64 0)), (some (26, true))⟩,
 ⟨(some 29), .pick (.tmp 26) (.tmp 28) (.val (.bool false)), none⟩,
 ⟨(some 2), .mov (.tmp 29), none⟩] (some [2]))
 .ret)
 (.seq (.region [⟨(some 31), .bin .num .eql (.tmp 22) (.val (.int .i64 2)), none⟩,
 ⟨(some 30), .mov (.tmp 31), none⟩] (some [1, 3, 4, 22, 30]))
 (.cond (.tmp 30) (.seq (.region [⟨(some 32), .fieldAddr 1 (.tmp 1), none⟩,
 ⟨(some 33), .load none (.tmp 32), none⟩,
 ⟨(some 34), .callF 88 [(.tmp 33)], none⟩,
 ⟨(some 35), .mov (.tmp 34), none⟩,
 ⟨(some 36), .fieldAddr 2 (.tmp 1), (some (35, true))⟩,
 ⟨(some 37), .load none (.tmp 36), (some (35, true))⟩,
 ⟨(some 38), .bin .str .eql (.tmp 37) (.val (.str [])), (some (35, true))⟩,
 ⟨(some 39), .pick (.tmp 35) (.tmp 38) (.val (.bool false)), none⟩,
 ⟨(some 40), .mov (.tmp 39), none⟩,
 ⟨(some 41), .fieldAddr 3 (.tmp 1), (some (40, true))⟩,
 ⟨(some 42), .load none (.tmp 41), (some (40, true))⟩,
 ⟨(some 43), .bin .num .eql (.tmp 42) (.val (.int .i64 0)), (some (40, true))⟩,
 ⟨(some 44), .pick (.tmp 40) (.tmp 43) (.val (.bool false)), none⟩,
 ⟨(some 45), .mov (.tmp 44), none⟩,
 ⟨(some 46), .mov (.tmp 4), (some (45, true))⟩,
 ⟨(some 47), .bin .num .eql (.tmp 46) (.val (.int .i64 0)), (some (45, true))⟩,
 ⟨(some 48), .pick (.tmp 45) (.tmp 47) (.val (.bool false)), none⟩,
 ⟨(some 2), .mov (.tmp 48), none⟩] (some [2]))
 .ret)
 (.seq (.region [⟨(some 50), .bin .num .eql (.tmp 22) (.val (.int .i64 3)), none⟩,
 ⟨(some 49), .mov (.tmp 50), none⟩] (some [1, 3, 4, 22, 49]))
 (.cond (.tmp 49) (.seq (.region [⟨(some 51), .fieldAddr 1 (.tmp 1), none⟩,
 ⟨(some 52), .load none (.tmp 51), none⟩,
 ⟨(some 53), .callF 88 [(.tmp 52)], none⟩,
 ⟨(some 54), .mov (.tmp 53), none⟩,
 ⟨(some 55), .fieldAddr 2 (.tmp 1), (some (54, true))⟩,
 ⟨(some 56), .load none (.tmp 55), (some (54, true))⟩,
 ⟨(some 57), .bin .str .neq (.tmp 56) (.val (.str [])), (some (54, true))⟩,
 ⟨(some 58), .pick (.tmp 54) (.tmp 57) (.val (.bool false)), none⟩,
 ⟨(some 59), .mov (.tmp 58), none⟩,
 ⟨(some 60), .fieldAddr 2 (.tmp 1), (some (59, true))⟩,
 ⟨(some 61), .load none (.tmp 60), (some (59, true))⟩,
 ⟨(some 62), .len .str (.tmp 61), (some (59, true))⟩,
 ⟨(some 63), .bin .num .leq (.tmp 62) (.val (.int .i64 200)), (some (59, true))⟩,
 ⟨(some 64), .pick (.tmp 59) (.tmp 63) (.val (.bool false)), none⟩,
 ⟨(some 65), .mov (.tmp 64), none⟩,
 ⟨(some 66), .fieldAddr 3 (.tmp 1), (some (65, true))⟩,
 ⟨(some 67), .load none (.tmp 66), (some (65, true))⟩,
 ⟨(some 68), .bin .num .eql (.tmp 67) (.val (.int .i64 0)), (some (65, true))⟩,
 ⟨(some 69), .pick (.tmp 65) (.tmp 68) (.val (.bool false)), none⟩,
 ⟨(some 70), .mov (.tmp 69), none⟩,
 ⟨(some 71), .mov (.tmp 4), (some (70, true))⟩,
 ⟨(some 72), .bin .num .eql (.tmp 71) (.val (.int .i64 0)), (some (70, true))⟩,
 ⟨(some 73), .pick (.tmp 70) (.tmp 72) (.val (.bool false)), none⟩,
 ⟨(some 2), .mov (.tmp 73), none⟩] (some [2]))
 .ret)
 (.seq (.region [⟨(some 75), .bin .num .eql (.tmp 22) (.val (.int .i64 7)), none⟩,
 ⟨(some 74), .mov (.tmp 75), none⟩] (some [1, 3, 4, 22, 74]))
 (.cond (.tmp 74) (.seq (.region [⟨(some 76), .fieldAddr 1 (.tmp 1), none⟩,
 ⟨(some 77), .load none (.tmp 76), none⟩,
 ⟨(some 78), .callF 88 [(.tmp 77)], none⟩,
 ⟨(some 79), .mov (.tmp 78), none⟩,
 ⟨(some 80), .fieldAddr 2 (.tmp 1), (some (79, true))⟩,
 ⟨(some 81), .load none (.tmp 80), (some (79, true))⟩,
 ⟨(some 82), .bin .str .eql (.tmp 81) (.val (.str [])), (some (79, true))⟩,
 ⟨(some 83), .pick (.tmp 79) (.tmp 82) (.val (.bool false)), none⟩,
 ⟨(some 84), .mov (.tmp 83), none⟩,
 ⟨(some 85), .fieldAddr 3 (.tmp 1), (some (84, true))⟩,
 ⟨(some 86), .load none (.tmp 85), (some (84, true))⟩,
 ⟨(some 87), .bin .num .geq (.tmp 86) (.val (.int .i64 0)), (some (84, true))⟩,
 ⟨(some 88), .pick (.tmp 84) (.tmp 87) (.val (.bool false)), none⟩,
 ⟨(some 89), .mov (.tmp 88), none⟩,
 ⟨(some 90), .fieldAddr 3 (.tmp 1), (some (89, true))⟩,
 ⟨(some 91), .load none (.tmp 90), (some (89, true))⟩,
 ⟨(some 92), .bin .num .leq (.tmp 91) (.val (.int .i64 9999999)), (some (89, true))⟩,
 ⟨(some 93), .pick (.tmp 89) (.tmp 92) (.val (.bool false)), none⟩,
 ⟨(some 94), .mov (.tmp 93), none⟩,
 ⟨(some 95), .mov (.tmp 4), (some (94, true))⟩,
 ⟨(some 96), .bin .num .eql (.tmp 95) (.val (.int .i64 0)), (some (94, true))⟩,
 ⟨(some 97), .pick (.tmp 94) (.tmp 96) (.val (.bool false)), none⟩,
 ⟨(some 2), .mov (.tmp 97), none⟩] (some [2]))
 .ret)
 (.seq (.region [⟨(some 99), .bin .num .eql (.tmp 22) (.val (.int .i64 4)), none⟩,
 ⟨(some 98), .mov (.tmp 99), none⟩] (some [3, 4, 22, 98]))
 (.cond (.tmp 98) (.seq (.region [⟨(some 100), .mov (.tmp 3), none⟩,
 ⟨(some 101), .mov (.tmp 100), none⟩,
 ⟨(some 102), .mov (.tmp 4), (some (101, true))⟩,
 ⟨(some 103), .bin .num .eql (.tmp 102) (.val (.int .i64 1)), (some (101, true))⟩,
 ⟨(some 104), .pick (.tmp 101) (.tmp 103) (.val (.bool false)), none⟩,
 ⟨(some 2), .mov (.tmp 104), none⟩] (some [2]))
 .ret)
 (.seq (.seq (.region [⟨(some 106), .bin .num .eql (.tmp 22) (.val (.int .i64 5)), none⟩,
 ⟨(some 105), .mov (.tmp 106), none⟩] (some [3, 4, 22, 105]))
 (.cond (.tmp 105) .skip
 (.region [⟨(some 107), .bin .num .eql (.tmp 22) (.val (.int .i64 6)), none⟩,
 ⟨(some 105), .mov (.tmp 107), none⟩] (some [3, 4, 105]))))
 (.cond (.tmp 105) (.seq (.region [⟨(some 108), .mov (.tmp 3), none⟩,
 ⟨(some 109), .mov (.tmp 108), none⟩,
 ⟨(some 110), .mov (.tmp 4), (some (109, true))⟩,
 ⟨(some 111), .bin .num .gtr (.tmp 110) (.val (.int .i64 1)), (some (109, true))⟩,
 ⟨(some 112), .pick (.tmp 109) (.tmp 111) (.val (.bool false)), none⟩,
 ⟨(some 2), .mov (.tmp 112), none⟩] (some [2]))
 .ret)
 .skip)))))))))))))))
 (.seq (.region [⟨(some 2), .mov (.val (.bool false)), none⟩] (some [2]))
 .ret))))
theorem cc60 : compF Tryz.prog [1] Tryz.f60 = some ac60 := by kernel_rfl
theorem go60 {args : List AV} {h0 : AHeap} {Q : AEnd → AHeap → Prop} (hl : args.length ≤ 113) (h : HLow h0.length h0 → Ewp Tryz.prog Φ h0.length ac60 (ebodyQ Φ [(.tmp 2)] h0.length Q) (argEnv args 0) h0) : S Tryz.prog Φ 60 args h0 Q :=
 S_of_codeW Tryz.func60 rfl rfl cc60 (by kernel_rfl) hl h
def ac61 : ACode :=
 (.seq (.region [⟨(some 0), .alloc 106 256 (.agg (List.replicate 256 (.int .u8 0))), none⟩] (some [0]))
 (.seq (.region [⟨(some 1), .alloc 106 256 (.agg (List.replicate 256 (.int .u8 0))), none⟩] (some [0, 1]))
 (.seq (.seq (.region [⟨(some 4), .mov (.val (.int .i64 0)), none⟩] (some [0, 1, 4]))
 (.block 0 (.loop (.seq (.region [⟨(some 5), .bin .num .lss (.tmp 4) (.val (.int .i64 256)), none⟩] (some [0, 1, 4, 5]))
 (.seq (.cond (.tmp 5) .skip
 (.exit 0))
 (.seq (.block 1 (.seq (.region [⟨(some 6), .mov (.tmp 4), none⟩,
 ⟨(some 2), .mov (.tmp 6), none⟩] (some [0, 1, 2, 4]))
 (.seq (.region [⟨(some 7), .mov (.tmp 2), none⟩,
 ⟨(some 8), .conv .u8 (.tmp 7), none⟩,
 ⟨(some 3), .mov (.tmp 8), none⟩] (some [0, 1, 2, 3, 4]))
 (.block 2 (.seq (.seq (.region [⟨(some 10), .mov (.tmp 3), none⟩,
 ⟨(some 11), .bin .num .leq (.val (.int .u8 97)) (.tmp 10), none⟩,
 ⟨(some 12), .mov (.tmp 11), none⟩,
 ⟨(some 13), .mov (.tmp 3), (some (12, true))⟩,
 ⟨(some 14), .bin .num .leq (.tmp 13) (.val (.int .u8 122)), (some (12, true))⟩,
 ⟨(some 15), .pick (.tmp 12) (.tmp 14) (.val (.bool false)), none⟩,
 ⟨(some 9), .mov (.tmp 15), none⟩] (some [0, 1, 2, 3, 4, 9]))
 (.cond (.tmp 9) .skip
 (.region [⟨(some 16), .mov (.tmp 3), none⟩,
 ⟨(some 17), .bin .num .leq (.val (.int .u8 65)) (.tmp 16), none⟩,
 ⟨(some 18), .mov (.tmp 17), none⟩,
 ⟨(some 19), .mov (.tmp 3), (some (18, true))⟩,
 ⟨(some 20), .bin .num .leq (.tmp 19) (.val (.int .u8 90)), (some (18, true))⟩,
 ⟨(some 21), .pick (.tmp 18) (.tmp 20) (.val (.bool false)), none⟩,
 ⟨(some 9), .mov (.tmp 21), none⟩] (some [0, 1, 2, 3, 4, 9]))))
 (.cond (.tmp 9) (.region [⟨(some 22), .mov (.tmp 2), none⟩,
 ⟨(some 23), .cellAddr 256 1 (.tmp 1) (.tmp 22), none⟩,
 ⟨none, .store 1 (.tmp 23) (.val (.int .u8 3)), none⟩] (some [0, 1, 4]))
 (.seq (.region [⟨(some 25), .mov (.tmp 3), none⟩,
 ⟨(some 26), .bin .num .leq (.val (.int .u8 48)) (.tmp 25), none⟩,
 ⟨(some 27), .mov (.tmp 26), none⟩,
 ⟨(some 28), .mov (.tmp 3), (some (27, true))⟩,
 ⟨(some 29), .bin .num .leq (.tmp 28) (.val (.int .u8 57)), (some (27, true))⟩,
 ⟨(some 30), .pick (.tmp 27) (.tmp 29) (.val (.bool false)), none⟩,
 ⟨(some 24), .mov (.tmp 30), none⟩] (some [0, 1, 2, 3, 4, 24]))
 (.cond (.tmp 24) (.region [⟨(some 31), .mov (.tmp 2), none⟩,
 ⟨(some 32), .cellAddr 256 1 (.tmp 1) (.tmp 31), none⟩,
 ⟨none, .store 1 (.tmp 32) (.val (.int .u8 4)), none⟩] (some [0, 1, 4]))
 (.seq (.region [⟨(some 34), .mov (.tmp 3), none⟩,
 ⟨(some 35), .callF 89 [(.val (.str [32, 9, 10])), (.tmp 34)], none⟩,
 ⟨(some 36), .bin .num .geq (.tmp 35) (.val (.int .i64 0)), none⟩,
 ⟨(some 33), .mov (.tmp 36), none⟩] (some [0, 1, 2, 3, 4, 33]))
 (.cond (.tmp 33) (.region [⟨(some 37), .mov (.tmp 2), none⟩,
 ⟨(some 38), .cellAddr 256 1 (.tmp 1) (.tmp 37), none⟩,
 ⟨none, .store 1 (.tmp 38) (.val (.int .u8 1)), none⟩] (some [0, 1, 4]))
 (.seq (.region [⟨(some 40), .mov (.tmp 3), none⟩,
 ⟨(some 41), .callF 89 [(.val (.str [59, 44, 46, 58, 40, 41, 123, 125, 91, 93, 61, 60, 62, 47, 45])), (.tmp 40)], none⟩,
 ⟨(some 42), .bin .num .geq (.tmp 41) (.val (.int .i64 0)), none⟩,
 ⟨(some 39), .mov (.tmp 42), none⟩] (some [0, 1, 2, 4, 39]))
 (.cond (.tmp 39) (.region [⟨(some 43), .mov (.tmp 2), none⟩,
 ⟨(some 44), .cellAddr 256 1 (.tmp 1) (.tmp 43), none⟩,
 ⟨none, .store 1 (.tmp 44) (.val (.int .u8 6)), none⟩] (some [0, 1, 4]))
 .skip))))))))))))
 (.region [⟨(some 45), .bin .num .add (.tmp 4) (.val (.int .i64 1)), none⟩,
 ⟨(some 4), .mov (.tmp 45), none⟩] (some [0, 1, 4]))))))))
 (.seq (.region [⟨(some 46), .cellAddr 256 1 (.tmp 1) (.val (.int .i64 35)), none⟩,
 ⟨none, .store 1 (.tmp 46) (.val (.int .u8 2)), none⟩,
 ⟨(some 47), .cellAddr 256 1 (.tmp 1) (.val (.int .i64 95)), none⟩,
 ⟨none, .store 1 (.tmp 47) (.val (.int .u8 5)), none⟩,
 ⟨(some 48), .cellAddr 256 1 (.tmp 1) (.val (.int .i64 34)), none⟩,
 ⟨none, .store 1 (.tmp 48) (.val (.int .u8 7)), none⟩] (some [0, 1]))
 (.seq (.region [⟨(some 49), .load (some 256) (.tmp 1), none⟩,
 ⟨none, .store 256 (.tmp 0) (.tmp 49), none⟩] (some [0]))
 .ret)))))
theorem cc61 : compF Tryz.prog [] Tryz.f61 = some ac61 := by kernel_rfl
theorem go61 {args : List AV} {h0 : AHeap} {Q : AEnd → AHeap → Prop} (hl : args.length ≤ 50) (h : HLow h0.length h0 → Ewp Tryz.prog Φ h0.length ac61 (ebodyQ Φ [(.cell 0 (some 256))] h0.length Q) (argEnv args 0) h0) : S Tryz.prog Φ 61 args h0 Q :=
 S_of_codeW Tryz.func61 rfl rfl cc61 (by kernel_rfl) hl h
def ac62 : ACode :=
 (.seq (.region [⟨(some 1), .fbox 1 (.tmp 0), none⟩,
 ⟨(some 2), .alloc 28 14 (.agg [(.int .i64 0), (.int .i64 0), (.int .i64 0), (.str []), (.str []), (.int .i64 0), .nils, (.str []), (.int .i64 0), (.int .i64 0), (.int .i64 0), (.str []), (.str []), (.int .i64 0)]), none⟩] (some [1, 2]))
 (.seq (.region [⟨(some 3), .alloc 28 14 (.agg [(.int .i64 0), (.int .i64 0), (.int .i64 0), (.str []), (.str []), (.int .i64 0), .nils, (.str []), (.int .i64 0), (.int .i64 0), (.int .i64 0), (.str []), (.str []), (.int .i64 0)]), none⟩] (some [1, 2, 3]))
 (.seq (.region [⟨(some 5), .mkmap, none⟩,
 ⟨(some 6), .mkfn 90 [] [(.tmp 3)], none⟩,
 ⟨none, .mapup .str (.tmp 5) (.val (.str [97, 108, 108])) (.tmp 6), none⟩,
 ⟨(some 7), .mkfn 91 [] [(.tmp 1), (.tmp 3)], none⟩,
 ⟨none, .mapup .str (.tmp 5) (.val (.str [105, 110, 115, 105, 100, 101])) (.tmp 7), none⟩,
 ⟨(some 8), .mkfn 93 [] [(.tmp 1), (.tmp 3)], none⟩,
 ⟨none, .mapup .str (.tmp 5) (.val (.str [97, 108, 111, 110, 103])) (.tmp 8), none⟩,
 ⟨(some 9), .mkfn 96 [] [(.tmp 1), (.tmp 3)], none⟩,
 ⟨none, .mapup .str (.tmp 5) (.val (.str [110, 101, 97, 114, 101, 115, 116])) (.tmp 9), none⟩,
 ⟨(some 10), .mkfn 97 [] [(.tmp 1), (.tmp 3)], none⟩,
 ⟨none, .mapup .str (.tmp 5) (.val (.str [114, 101, 97, 99, 104])) (.tmp 10), none⟩,
 ⟨(some 11), .mkfn 98 [] [(.tmp 1), (.tmp 3)], none⟩,
 ⟨none, .mapup .str (.tmp 5) (.val (.str [99, 111, 117, 110, 116])) (.tmp 11), none⟩,
 ⟨(some 12), .mov (.tmp 5), none⟩,
 ⟨(some 4), .mov (.tmp 12), none⟩] (some [1, 2, 3, 4]))
 (.seq (.seq (.region [⟨(some 13), .load none (.tmp 1), none⟩,
 ⟨(some 14), .nilchk (.tmp 13), none⟩,
 ⟨(some 15), .fieldAddr 0 (.tmp 14), none⟩,
 ⟨(some 16), .load none (.tmp 15), none⟩,
 ⟨(some 17), .len .slice (.tmp 16), none⟩,
 ⟨(some 18), .bin .num .eql (.tmp 17) (.val (.int .i64 0)), none⟩,
 ⟨(some 19), .mov (.tmp 18), none⟩,
 ⟨(some 20), .load none (.tmp 1), (some (19, false))⟩,
 ⟨(some 21), .nilchk (.tmp 20), (some (19, false))⟩,
 ⟨(some 22), .fieldAddr 0 (.tmp 21), (some (19, false))⟩,
 ⟨(some 23), .load none (.tmp 22), (some (19, false))⟩,
 ⟨(some 24), .elemAddr 3 (.tmp 23) (.val (.int .i64 0)), (some (19, false))⟩,
 ⟨(some 25), .fieldAddr 0 (.tmp 24), (some (19, false))⟩,
 ⟨(some 26), .load none (.tmp 25), (some (19, false))⟩,
 ⟨(some 27), .bin .num .neq (.tmp 26) (.val (.int .i64 1)), (some (19, false))⟩,
 ⟨(some 28), .pick (.tmp 19) (.val (.bool true)) (.tmp 27), none⟩,
 ⟨(some 29), .mov (.tmp 28), none⟩,
 ⟨(some 30), .mov (.tmp 4), (some (29, false))⟩,
 ⟨(some 31), .load none (.tmp 1), (some (29, false))⟩,
 ⟨(some 32), .nilchk (.tmp 31), (some (29, false))⟩,
 ⟨(some 33), .fieldAddr 0 (.tmp 32), (some (29, false))⟩,
 ⟨(some 34), .load none (.tmp 33), (some (29, false))⟩,
 ⟨(some 35), .elemAddr 3 (.tmp 34) (.val (.int .i64 0)), (some (29, false))⟩,
 ⟨(some 36), .fieldAddr 1 (.tmp 35), (some (29, false))⟩,
 ⟨(some 37), .load none (.tmp 36), (some (29, false))⟩,
 ⟨(some 38), .lookup .str false .nilf (.tmp 30) (.tmp 37), (some (29, false))⟩,
 ⟨(some 39), .bin .func .eql (.tmp 38) (.val .nilf), (some (29, false))⟩,
 ⟨(some 40), .pick (.tmp 29) (.val (.bool true)) (.tmp 39), none⟩] (some [1, 2, 3, 4, 40]))
 (.cond (.tmp 40) (.region [⟨(some 41), .load none (.tmp 1), none⟩,
 ⟨(some 42), .callF 65 [(.tmp 41), (.val (.int .i64 5))], none⟩] (some [1, 2, 3, 4]))
 .skip))
 (.seq (.region [⟨(some 43), .mov (.tmp 4), none⟩,
 ⟨(some 44), .load none (.tmp 1), none⟩,
 ⟨(some 45), .callF 92 [(.tmp 44)], none⟩,
 ⟨(some 46), .lookup .str false .nilf (.tmp 43) (.tmp 45), none⟩,
 ⟨(some 47), .callV (.tmp 46) [], none⟩] (some [2, 3]))
 (.seq (.region [⟨(some 48), .load (some 14) (.tmp 3), none⟩,
 ⟨none, .store 14 (.tmp 2) (.tmp 48), none⟩] (some [2]))
 .ret))))))
theorem cc62 : compF Tryz.prog [1] Tryz.f62 = some ac62 := by kernel_rfl
theorem go62 {args : List AV} {h0 : AHeap} {Q : AEnd → AHeap → Prop} (hl : args.length ≤ 49) (h : HLow h0.length h0 → Ewp Tryz.prog Φ h0.length ac62 (ebodyQ Φ [(.cell 2 (some 14))] h0.length Q) (argEnv args 0) h0) : S Tryz.prog Φ 62 args h0 Q :=
 S_of_codeW Tryz.func62 rfl rfl cc62 (by kernel_rfl) hl h
def ac63 : ACode :=
 (.seq (.region [⟨(some 4), .mov (.val (.int .i64 0)), none⟩] (some [0, 1]))
 (.seq (.seq (.region [⟨(some 6), .mov (.tmp 0), none⟩,
 ⟨(some 7), .len .slice (.tmp 6), none⟩,
 ⟨(some 8), .mov (.val (.int .i64 0)), none⟩] (some [0, 1, 7, 8]))
 (.block 0 (.loop (.seq (.region [⟨(some 9), .bin .num .lss (.tmp 8) (.tmp 7), none⟩] (some [0, 1, 7, 8, 9]))
 (.seq (.cond (.tmp 9) .skip
 (.exit 0))
 (.seq (.block 1 (.seq (.region [⟨(some 10), .mov (.tmp 8), none⟩,
 ⟨(some 5), .mov (.tmp 10), none⟩] (some [0, 1, 5, 7, 8]))
 (.seq (.region [⟨(some 11), .mov (.tmp 1), none⟩,
 ⟨(some 12), .mov (.tmp 0), none⟩,
 ⟨(some 13), .mov (.tmp 5), none⟩,
 ⟨(some 14), .elemAddr 1 (.tmp 12) (.tmp 13), none⟩,
 ⟨(some 15), .load none (.tmp 14), none⟩,
 ⟨(some 16), .callV (.tmp 11) [(.tmp 15)], none⟩] (some [0, 1, 5, 7, 8, 16]))
 (.cond (.tmp 16) (.seq (.region [⟨(some 17), .mov (.tmp 5), none⟩,
 ⟨(some 4), .mov (.tmp 17), none⟩] (some [4]))
 .ret)
 .skip))))
 (.region [⟨(some 18), .bin .num .add (.tmp 8) (.val (.int .i64 1)), none⟩,
 ⟨(some 8), .mov (.tmp 18), none⟩] (some [0, 1, 7, 8]))))))))
 (.seq (.region [⟨(some 4), .mov (.val (.int .i64 (-1))), none⟩] (some [4]))
 .ret)))
theorem cc63 : compF Tryz.prog [] Tryz.f63 = some ac63 := by kernel_rfl
theorem go63 {args : List AV} {h0 : AHeap} {Q : AEnd → AHeap → Prop} (hl : args.length ≤ 19) (h : HLow h0.length h0 → Ewp Tryz.prog Φ h0.length ac63 (ebodyQ Φ [(.tmp 4)] h0.length Q) (argEnv args 0) h0) : S Tryz.prog Φ 63 args h0 Q :=
 S_of_codeW Tryz.func63 rfl rfl cc63 (by kernel_rfl) hl h
def ac64 : ACode :=
 (.seq (.region [⟨(some 4), .mov (.val (.bool false)), none⟩] (some [0, 1]))
 (.seq (.region [⟨(some 6), .mov (.tmp 0), none⟩,
 ⟨(some 7), .mov (.tmp 1), none⟩,
 ⟨(some 8), .callF 99 [(.tmp 6), (.tmp 7)], none⟩,
 ⟨(some 5), .mov (.tmp 8), none⟩] (some [0, 5]))
 (.seq (.seq (.region [⟨(some 9), .mov (.tmp 5), none⟩] (some [0, 5, 9]))
 (.cond (.tmp 9) (.region [⟨(some 10), .mov (.tmp 0), none⟩,
 ⟨(some 11), .mov (.tmp 0), none⟩,
 ⟨(some 12), .nilchk (.tmp 11), none⟩,
 ⟨(some 13), .fieldAddr 0 (.tmp 12), none⟩,
 ⟨(some 14), .load none (.tmp 13), none⟩,
 ⟨(some 15), .slc 3 (.tmp 14) (some (.val (.int .i64 1))) none, none⟩,
 ⟨(some 16), .nilchk (.tmp 10), none⟩,
 ⟨(some 17), .fieldAddr 0 (.tmp 16), none⟩,
 ⟨none, .store 1 (.tmp 17) (.tmp 15), none⟩] (some [5]))
 .skip))
 (.seq (.region [⟨(some 18), .mov (.tmp 5), none⟩,
 ⟨(some 4), .mov (.tmp 18), none⟩] (some [4]))
 .ret))))
theorem cc64 : compF Tryz.prog [] Tryz.f64 = some ac64 := by kernel_rfl
theorem go64 {args : List AV} {h0 : AHeap} {Q : AEnd → AHeap → Prop} (hl : args.length ≤ 19) (h : HLow h0.length h0 → Ewp Tryz.prog Φ h0.length ac64 (ebodyQ Φ [(.tmp 4)] h0.length Q) (argEnv args 0) h0) : S Tryz.prog Φ 64 args h0 Q :=
 S_of_codeW Tryz.func64 rfl rfl cc64 (by kernel_rfl) hl h
def ac65 : ACode :=
 (.seq (.seq (.region [⟨(some 4), .mov (.tmp 0), none⟩,
 ⟨(some 5), .nilchk (.tmp 4), none⟩,
 ⟨(some 6), .fieldAddr 0 (.tmp 5), none⟩,
 ⟨(some 7), .load none (.tmp 6), none⟩,
 ⟨(some 8), .len .slice (.tmp 7), none⟩,
 ⟨(some 9), .bin .num .eql (.tmp 8) (.val (.int .i64 0)), none⟩] (some [0, 1, 9]))
 (.cond (.tmp 9) (.region [⟨(some 10), .mov (.tmp 0), none⟩,
 ⟨(some 11), .nilchk (.tmp 10), none⟩,
 ⟨(some 12), .fieldAddr 1 (.tmp 11), none⟩,
 ⟨(some 13), .load none (.tmp 12), none⟩,
 ⟨(some 14), .build [(.int .i64 0), (.int .i64 0)] [(0, 1, (.val (.int .i64 6))), (1, 1, (.tmp 13))], none⟩,
 ⟨(some 15), .mkiface 77 (.tmp 14), none⟩,
 ⟨none, .panic (.tmp 15), none⟩] (some [0, 1]))
 .skip))
 (.region [⟨(some 16), .mov (.tmp 1), none⟩,
 ⟨(some 17), .mov (.tmp 0), none⟩,
 ⟨(some 18), .nilchk (.tmp 17), none⟩,
 ⟨(some 19), .fieldAddr 0 (.tmp 18), none⟩,
 ⟨(some 20), .load none (.tmp 19), none⟩,
 ⟨(some 21), .elemAddr 3 (.tmp 20) (.val (.int .i64 0)), none⟩,
 ⟨(some 22), .fieldAddr 2 (.tmp 21), none⟩,
 ⟨(some 23), .load none (.tmp 22), none⟩,
 ⟨(some 24), .build [(.int .i64 0), (.int .i64 0)] [(0, 1, (.tmp 16)), (1, 1, (.tmp 23))], none⟩,
 ⟨(some 25), .mkiface 77 (.tmp 24), none⟩,
 ⟨none, .panic (.tmp 25), none⟩] (some [])))
theorem cc65 : compF Tryz.prog [] Tryz.f65 = some ac65 := by kernel_rfl
theorem go65 {args : List AV} {h0 : AHeap} {Q : AEnd → AHeap → Prop} (hl : args.length ≤ 26) (h : HLow h0.length h0 → Ewp Tryz.prog Φ h0.length ac65 (ebodyQ Φ [] h0.length Q) (argEnv args 0) h0) : S Tryz.prog Φ 65 args h0 Q :=
 S_of_codeW Tryz.func65 rfl rfl cc65 (by kernel_rfl) hl h
def ac66 : ACode :=
 (.seq (.region [⟨(some 2), .alloc 24 5 (.agg [(.int .i64 0), (.str []), (.str []), (.int .i64 0), .nils]), none⟩] (some [0, 2]))
 (.seq (.region [⟨(some 3), .mov (.tmp 0), none⟩,
 ⟨(some 4), .mov (.tmp 0), none⟩,
 ⟨(some 5), .mkfn 101 [(.tmp 4)] [], none⟩,
 ⟨(some 6), .mkfn 102 [(.val (.int .i64 6))] [], none⟩,
 ⟨(some 7), .callF 100 [(.tmp 3), (.val (.str [111, 114])), (.tmp 5), (.tmp 6)], none⟩,
 ⟨none, .store 5 (.tmp 2) (.tmp 7), none⟩] (some [2]))
 .ret))
theorem cc66 : compF Tryz.prog [] Tryz.f66 = some ac66 := by kernel_rfl
theorem go66 {args : List AV} {h0 : AHeap} {Q : AEnd → AHeap → Prop} (hl : args.length ≤ 8) (h : HLow h0.length h0 → Ewp Tryz.prog Φ h0.length ac66 (ebodyQ Φ [(.cell 2 (some 5))] h0.length Q) (argEnv args 0) h0) : S Tryz.prog Φ 66 args h0 Q :=
 S_of_codeW Tryz.func66 rfl rfl cc66 (by kernel_rfl) hl h
def ac67 : ACode :=
 (.seq (.region [⟨(some 2), .fbox 5 (.tmp 0), none⟩,
 ⟨(some 3), .mov (.val (.bool false)), none⟩] (some [1]))
 (.seq (.region [⟨(some 4), .load none (.tmp 1), none⟩,
 ⟨(some 5), .bin .num .add (.tmp 4) (.val (.int .i64 1)), none⟩,
 ⟨none, .store 1 (.tmp 1) (.tmp 5), none⟩] (some [1]))
 (.seq (.region [⟨(some 6), .load none (.tmp 1), none⟩,
 ⟨(some 7), .bin .num .leq (.tmp 6) (.val (.int .i64 60)), none⟩,
 ⟨(some 3), .mov (.tmp 7), none⟩] (some [3]))
 .ret)))
theorem cc67 : compF Tryz.prog [2] Tryz.f67 = some ac67 := by kernel_rfl
theorem go67 {args : List AV} {h0 : AHeap} {Q : AEnd → AHeap → Prop} (hl : args.length ≤ 8) (h : HLow h0.length h0 → Ewp Tryz.prog Φ h0.length ac67 (ebodyQ Φ [(.tmp 3)] h0.length Q) (argEnv args 0) h0) : S Tryz.prog Φ 67 args h0 Q :=
 S_of_codeW Tryz.func67 rfl rfl cc67 (by kernel_rfl) hl h
def ac68 : ACode :=
 (.seq (.region [⟨(some 4), .mov (.val (.int .u8 0)), none⟩] (some [0, 1, 2]))
 (.seq (.seq (.region [⟨(some 5), .mov (.tmp 0), none⟩,
 ⟨(some 6), .load none (.tmp 1), none⟩,
 ⟨(some 7), .len .str (.tmp 6), none⟩,
 ⟨(some 8), .bin .num .geq (.tmp 5) (.tmp 7), none⟩] (some [0, 1, 2, 8]))
 (.cond (.tmp 8) (.seq (.region [⟨(some 4), .mov (.val (.int .u8 0)), none⟩] (some [4]))
 .ret)
 .skip))
 (.seq (.region [⟨(some 9), .load none (.tmp 1), none⟩,
 ⟨(some 10), .mov (.tmp 0), none⟩,
 ⟨(some 11), .byteAt (.tmp 9) (.tmp 10), none⟩,
 ⟨(some 12), .cellAddr 256 1 (.tmp 2) (.tmp 11), none⟩,
 ⟨(some 13), .load none (.tmp 12), none⟩,
 ⟨(some 4), .mov (.tmp 13), none⟩] (some [4]))
 .ret)))
theorem cc68 : compF Tryz.prog [] Tryz.f68 = some ac68 := by kernel_rfl
theorem go68 {args : List AV} {h0 : AHeap} {Q : AEnd → AHeap → Prop} (hl : args.length ≤ 14) (h : HLow h0.length h0 → Ewp Tryz.prog Φ h0.length ac68 (ebodyQ Φ [(.tmp 4)] h0.length Q) (argEnv args 0) h0) : S Tryz.prog Φ 68 args h0 Q :=
 S_of_codeW Tryz.func68 rfl rfl cc68 (by kernel_rfl) hl h
def ac69 : ACode :=
 (.seq (.region [⟨(some 4), .mov (.val (.int .i64 0)), none⟩] (some [0, 1, 2, 4]))
 (.seq .skip
 (.block 0 (.loop (.seq (.seq (.region [⟨(some 11), .mov (.tmp 4), none⟩,
 ⟨(some 12), .load none (.tmp 1), none⟩,
 ⟨(some 13), .len .str (.tmp 12), none⟩,
 ⟨(some 14), .bin .num .lss (.tmp 11) (.tmp 13), none⟩] (some [0, 1, 2, 4, 14]))
 (.cond (.tmp 14) .skip
 (.exit 0)))
 (.block 1 (.seq (.region [⟨(some 15), .mov (.tmp 4), none⟩,
 ⟨(some 5), .mov (.tmp 15), none⟩] (some [0, 1, 2, 4, 5]))
 (.seq (.region [⟨(some 16), .mov (.tmp 5), none⟩,
 ⟨(some 17), .build [(.int .i64 0), (.str []), (.int .i64 0)] [(2, 1, (.tmp 16))], none⟩,
 ⟨(some 18), .build [(.int .i64 0), (.str []), (.int .i64 0), (.int .i64 0)] [(0, 3, (.tmp 17)), (3, 1, (.val (.int .i64 3)))], none⟩,
 ⟨(some 6), .alloc 88 4 (.agg [(.int .i64 0), (.str []), (.int .i64 0), (.int .i64 0)]), none⟩,
 ⟨none, .store 4 (.tmp 6) (.tmp 18), none⟩] (some [0, 1, 2, 4, 5, 6]))
 (.seq (.seq (.region [⟨(some 19), .load none (.tmp 2), none⟩,
 ⟨(some 20), .mov (.tmp 4), none⟩,
 ⟨(some 21), .callV (.tmp 19) [(.tmp 20)], none⟩] (some [0, 1, 2, 4, 5, 6, 21]))
 (.block 2 (.seq (.region [⟨(some 23), .bin .num .eql (.tmp 21) (.val (.int .u8 1)), none⟩,
 ⟨(some 22), .mov (.tmp 23), none⟩] (some [0, 1, 2, 4, 5, 6, 21, 22]))
 (.cond (.tmp 22) (.seq (.region [⟨(some 24), .mov (.tmp 4), none⟩,
 ⟨(some 25), .bin .num .add (.tmp 24) (.val (.int .i64 1)), none⟩,
 ⟨(some 4), .mov (.tmp 25), none⟩] (some [0, 1, 2, 4]))
 (.exit 1))
 (.seq (.region [⟨(some 27), .bin .num .eql (.tmp 21) (.val (.int .u8 2)), none⟩,
 ⟨(some 26), .mov (.tmp 27), none⟩] (some [0, 1, 2, 4, 5, 6, 21, 26]))
 (.cond (.tmp 26) (.seq (.block 3 (.loop (.seq (.seq (.region [⟨(some 28), .mov (.tmp 4), none⟩,
 ⟨(some 29), .load none (.tmp 1), none⟩,
 ⟨(some 30), .len .str (.tmp 29), none⟩,
 ⟨(some 31), .bin .num .lss (.tmp 28) (.tmp 30), none⟩,
 ⟨(some 32), .mov (.tmp 31), none⟩,
 ⟨(some 33), .load none (.tmp 1), (some (32, true))⟩,
 ⟨(some 34), .mov (.tmp 4), (some (32, true))⟩,
 ⟨(some 35), .byteAt (.tmp 33) (.tmp 34), (some (32, true))⟩,
 ⟨(some 36), .bin .num .neq (.tmp 35) (.val (.int .u8 10)), (some (32, true))⟩,
 ⟨(some 37), .pick (.tmp 32) (.tmp 36) (.val (.bool false)), none⟩] (some [0, 1, 2, 4, 37]))
 (.cond (.tmp 37) .skip
 (.exit 3)))
 (.block 4 (.region [⟨(some 38), .mov (.tmp 4), none⟩,
 ⟨(some 39), .bin .num .add (.tmp 38) (.val (.int .i64 1)), none⟩,
 ⟨(some 4), .mov (.tmp 39), none⟩] (some [0, 1, 2, 4]))))))
 (.exit 1))
 (.seq (.region [⟨(some 41), .bin .num .eql (.tmp 21) (.val (.int .u8 3)), none⟩,
 ⟨(some 40), .mov (.tmp 41), none⟩] (some [0, 1, 2, 4, 5, 6, 21, 40]))
 (.cond (.tmp 40) (.seq (.seq (.region [⟨(some 42), .load none (.tmp 2), none⟩,
 ⟨(some 43), .mov (.tmp 4), none⟩,
 ⟨(some 44), .callV (.tmp 42) [(.tmp 43)], none⟩,
 ⟨(some 7), .mov (.tmp 44), none⟩] (some [0, 1, 2, 4, 5, 6, 7]))
 (.block 5 (.loop (.seq (.seq (.region [⟨(some 45), .mov (.tmp 7), none⟩,
 ⟨(some 46), .bin .num .eql (.tmp 45) (.val (.int .u8 3)), none⟩,
 ⟨(some 47), .mov (.tmp 46), none⟩,
 ⟨(some 48), .mov (.tmp 7), (some (47, false))⟩,
 ⟨(some 49), .bin .num .eql (.tmp 48) (.val (.int .u8 4)), (some (47, false))⟩,
 ⟨(some 50), .pick (.tmp 47) (.val (.bool true)) (.tmp 49), none⟩,
 ⟨(some 51), .mov (.tmp 50), none⟩,
 ⟨(some 52), .mov (.tmp 7), (some (51, false))⟩,
 ⟨(some 53), .bin .num .eql (.tmp 52) (.val (.int .u8 5)), (some (51, false))⟩,
 ⟨(some 54), .pick (.tmp 51) (.val (.bool true)) (.tmp 53), none⟩] (some [0, 1, 2, 4, 5, 6, 54]))
 (.cond (.tmp 54) .skip
 (.exit 5)))
 (.seq (.block 6 (.region [⟨(some 58), .mov (.tmp 4), none⟩,
 ⟨(some 59), .bin .num .add (.tmp 58) (.val (.int .i64 1)), none⟩,
 ⟨(some 4), .mov (.tmp 59), none⟩] (some [0, 1, 2, 4, 5, 6])))
 (.region [⟨(some 55), .load none (.tmp 2), none⟩,
 ⟨(some 56), .mov (.tmp 4), none⟩,
 ⟨(some 57), .callV (.tmp 55) [(.tmp 56)], none⟩,
 ⟨(some 7), .mov (.tmp 57), none⟩] (some [0, 1, 2, 4, 5, 6, 7])))))))
 (.seq (.draw [⟨⟨(some 60), .load none (.tmp 1), none⟩, false, 0, true⟩,
 ⟨⟨(some 61), .mov (.tmp 5), none⟩, false, 0, true⟩,
 ⟨⟨(some 62), .mov (.tmp 4), none⟩, false, 0, true⟩,
 ⟨⟨(some 63), .slcS (.tmp 60) (some (.tmp 61)) (some (.tmp 62)), none⟩, false, 0, true⟩,
 ⟨⟨(some 64), .fieldAddr 0 (.tmp 6), none⟩, false, 0, false⟩,
 ⟨⟨(some 65), .fieldAddr 0 (.tmp 64), none⟩, false, 0, false⟩,
 ⟨⟨none, .store 1 (.tmp 65) (.val (.int .i64 1)), none⟩, true, 0, false⟩,
 ⟨⟨(some 66), .fieldAddr 0 (.tmp 6), none⟩, false, 0, false⟩,
 ⟨⟨(some 67), .fieldAddr 1 (.tmp 66), none⟩, false, 0, false⟩,
 ⟨⟨none, .store 1 (.tmp 67) (.tmp 63), none⟩, true, 0, false⟩,
 ⟨⟨(some 68), .fieldAddr 3 (.tmp 6), none⟩, false, 0, false⟩,
 ⟨⟨none, .store 1 (.tmp 68) (.val (.int .i64 0)), none⟩, true, 0, false⟩] (some [0, 1, 2, 4, 5, 6]))
 (.seq (.region [⟨(some 69), .mov (.tmp 4), none⟩,
 ⟨(some 70), .mov (.tmp 5), none⟩,
 ⟨(some 71), .bin .num .sub (.tmp 69) (.tmp 70), none⟩,
 ⟨(some 72), .bin .num .gtr (.tmp 71) (.val (.int .i64 24)), none⟩] (some [0, 1, 2, 4, 6, 72]))
 (.cond (.tmp 72) (.region [⟨(some 73), .fieldAddr 3 (.tmp 6), none⟩,
 ⟨none, .store 1 (.tmp 73) (.val (.int .i64 2)), none⟩] (some [0, 1, 2, 4, 6]))
 .skip))))
 (.seq (.region [⟨(some 75), .bin .num .eql (.tmp 21) (.val (.int .u8 4)), none⟩,
 ⟨(some 74), .mov (.tmp 75), none⟩] (some [0, 1, 2, 4, 5, 6, 21, 74]))
 (.cond (.tmp 74) (.seq (.block 7 (.loop (.seq (.seq (.region [⟨(some 76), .load none (.tmp 2), none⟩,
 ⟨(some 77), .mov (.tmp 4), none⟩,
 ⟨(some 78), .callV (.tmp 76) [(.tmp 77)], none⟩,
 ⟨(some 79), .bin .num .eql (.tmp 78) (.val (.int .u8 4)), none⟩] (some [0, 1, 2, 4, 5, 6, 79]))
 (.cond (.tmp 79) .skip
 (.exit 7)))
 (.block 8 (.region [⟨(some 80), .mov (.tmp 4), none⟩,
 ⟨(some 81), .bin .num .add (.tmp 80) (.val (.int .i64 1)), none⟩,
 ⟨(some 4), .mov (.tmp 81), none⟩] (some [0, 1, 2, 4, 5, 6]))))))
 (.seq (.draw [⟨⟨(some 82), .load none (.tmp 1), none⟩, false, 0, true⟩,
 ⟨⟨(some 83), .mov (.tmp 5), none⟩, false, 0, true⟩,
 ⟨⟨(some 84), .mov (.tmp 4), none⟩, false, 0, true⟩,
 ⟨⟨(some 85), .slcS (.tmp 82) (some (.tmp 83)) (some (.tmp 84)), none⟩, false, 0, true⟩,
 ⟨⟨(some 86), .fieldAddr 0 (.tmp 6), none⟩, false, 0, false⟩,
 ⟨⟨(some 87), .fieldAddr 0 (.tmp 86), none⟩, false, 0, false⟩,
 ⟨⟨none, .store 1 (.tmp 87) (.val (.int .i64 2)), none⟩, true, 0, false⟩,
 ⟨⟨(some 88), .fieldAddr 0 (.tmp 6), none⟩, false, 0, false⟩,
 ⟨⟨(some 89), .fieldAddr 1 (.tmp 88), none⟩, false, 0, false⟩,
 ⟨⟨none, .store 1 (.tmp 89) (.tmp 85), none⟩, true, 0, false⟩,
 ⟨⟨(some 90), .fieldAddr 3 (.tmp 6), none⟩, false, 0, false⟩,
 ⟨⟨none, .store 1 (.tmp 90) (.val (.int .i64 0)), none⟩, true, 0, false⟩] (some [0, 1, 2, 4, 5, 6]))
 (.seq (.region [⟨(some 91), .load none (.tmp 2), none⟩,
 ⟨(some 92), .mov (.tmp 4), none⟩,
 ⟨(some 93), .callV (.tmp 91) [(.tmp 92)], none⟩,
 ⟨(some 8), .mov (.tmp 93), none⟩] (some [0, 1, 2, 4, 5, 6, 8]))
 (.seq (.region [⟨(some 94), .mov (.tmp 4), none⟩,
 ⟨(some 95), .mov (.tmp 5), none⟩,
 ⟨(some 96), .bin .num .sub (.tmp 94) (.tmp 95), none⟩,
 ⟨(some 97), .bin .num .gtr (.tmp 96) (.val (.int .i64 7)), none⟩,
 ⟨(some 98), .mov (.tmp 97), none⟩,
 ⟨(some 99), .mov (.tmp 8), (some (98, false))⟩,
 ⟨(some 100), .bin .num .eql (.tmp 99) (.val (.int .u8 3)), (some (98, false))⟩,
 ⟨(some 101), .pick (.tmp 98) (.val (.bool true)) (.tmp 100), none⟩,
 ⟨(some 102), .mov (.tmp 101), none⟩,
 ⟨(some 103), .mov (.tmp 8), (some (102, false))⟩,
 ⟨(some 104), .bin .num .eql (.tmp 103) (.val (.int .u8 5)), (some (102, false))⟩,
 ⟨(some 105), .pick (.tmp 102) (.val (.bool true)) (.tmp 104), none⟩] (some [0, 1, 2, 4, 6, 105]))
 (.cond (.tmp 105) (.region [⟨(some 106), .fieldAddr 3 (.tmp 6), none⟩,
 ⟨none, .store 1 (.tmp 106) (.val (.int .i64 4)), none⟩] (some [0, 1, 2, 4, 6]))
 .skip)))))
 (.seq (.region [⟨(some 108), .bin .num .eql (.tmp 21) (.val (.int .u8 7)), none⟩,
 ⟨(some 107), .mov (.tmp 108), none⟩] (some [0, 1, 2, 4, 5, 6, 21, 107]))
 (.cond (.tmp 107) (.seq (.region [⟨(some 110), .load none (.tmp 1), none⟩,
 ⟨(some 111), .mov (.tmp 4), none⟩,
 ⟨(some 112), .slcS (.tmp 110) (some (.tmp 111)) none, none⟩,
 ⟨(some 113), .callF 70 [(.tmp 112)], none⟩,
 ⟨(some 109), .mov (.tmp 113), none⟩,
 ⟨(some 114), .extract (.tmp 109) 0, none⟩,
 ⟨(some 115), .extract (.tmp 109) 1, none⟩,
 ⟨(some 9), .mov (.tmp 114), none⟩,
 ⟨(some 10), .mov (.tmp 115), none⟩] (some [0, 1, 2, 4, 6, 9, 10]))
 (.seq (.seq (.region [⟨(some 116), .mov (.tmp 10), none⟩,
 ⟨(some 117), .bin .num .gtr (.tmp 116) (.val (.int .i64 0)), none⟩] (some [0, 1, 2, 4, 6, 9, 10, 117]))
 (.cond (.tmp 117) (.region [⟨(some 118), .mov (.tmp 9), none⟩,
 ⟨(some 119), .fieldAddr 0 (.tmp 6), none⟩,
 ⟨(some 120), .fieldAddr 0 (.tmp 119), none⟩,
 ⟨none, .store 1 (.tmp 120) (.val (.int .i64 3)), none⟩,
 ⟨(some 121), .fieldAddr 0 (.tmp 6), none⟩,
 ⟨(some 122), .fieldAddr 1 (.tmp 121), none⟩,
 ⟨none, .store 1 (.tmp 122) (.tmp 118), none⟩,
 ⟨(some 123), .fieldAddr 3 (.tmp 6), none⟩,
 ⟨none, .store 1 (.tmp 123) (.val (.int .i64 0)), none⟩] (some [0, 1, 2, 4, 6, 10]))
 .skip))
 (.region [⟨(some 124), .mov (.tmp 4), none⟩,
 ⟨(some 125), .mov (.tmp 10), none⟩,
 ⟨(some 126), .bin .num .add (.tmp 124) (.tmp 125), none⟩,
 ⟨(some 4), .mov (.tmp 126), none⟩] (some [0, 1, 2, 4, 6]))))
 (.seq (.region [⟨(some 128), .bin .num .eql (.tmp 21) (.val (.int .u8 6)), none⟩,
 ⟨(some 127), .mov (.tmp 128), none⟩] (some [0, 1, 2, 4, 5, 6, 127]))
 (.cond (.tmp 127) (.seq (.region [⟨(some 129), .mov (.tmp 4), none⟩,
 ⟨(some 130), .bin .num .add (.tmp 129) (.val (.int .i64 1)), none⟩,
 ⟨(some 4), .mov (.tmp 130), none⟩] (some [0, 1, 2, 4, 5, 6]))
 (.draw [⟨⟨(some 131), .load none (.tmp 1), none⟩, false, 0, true⟩,
 ⟨⟨(some 132), .mov (.tmp 5), none⟩, false, 0, true⟩,
 ⟨⟨(some 133), .mov (.tmp 4), none⟩, false, 0, true⟩,
 ⟨⟨(some 134), .slcS (.tmp 131) (some (.tmp 132)) (some (.tmp 133)), none⟩, false, 0, true⟩,
 ⟨⟨(some 135), .fieldAddr 0 (.tmp 6), none⟩, false, 0, false⟩,
 ⟨⟨(some 136), .fieldAddr 0 (.tmp 135), none⟩, false, 0, false⟩,
 ⟨⟨none, .store 1 (.tmp 136) (.val (.int .i64 4)), none⟩, true, 0, false⟩,
 ⟨⟨(some 137), .fieldAddr 0 (.tmp 6), none⟩, false, 0, false⟩,
 ⟨⟨(some 138), .fieldAddr 1 (.tmp 137), none⟩, false, 0, false⟩,
 ⟨⟨none, .store 1 (.tmp 138) (.tmp 134), none⟩, true, 0, false⟩,
 ⟨⟨(some 139), .fieldAddr 3 (.tmp 6), none⟩, false, 0, false⟩,
 ⟨⟨none, .store 1 (.tmp 139) (.val (.int .i64 0)), none⟩, true, 0, false⟩] (some [0, 1, 2, 4, 6])))
 .skip))))))))))))))
 (.seq (.region [⟨(some 140), .mov (.tmp 0), none⟩,
 ⟨(some 141), .load (some 4) (.tmp 6), none⟩,
 ⟨(some 142), .callV (.tmp 140) [(.tmp 141)], none⟩,
 ⟨(some 143), .un .not (.tmp 142), none⟩,
 ⟨(some 144), .mov (.tmp 143), none⟩,
 ⟨(some 145), .fieldAddr 3 (.tmp 6), (some (144, false))⟩,
 ⟨(some 146), .load none (.tmp 145), (some (144, false))⟩,
 ⟨(some 147), .bin .num .neq (.tmp 146) (.val (.int .i64 0)), (some (144, false))⟩,
 ⟨(some 148), .pick (.tmp 144) (.val (.bool true)) (.tmp 147), none⟩] (some [0, 1, 2, 4, 148]))
 (.cond (.tmp 148) .ret
 .skip)))))))))))
theorem cc69 : compF Tryz.prog [] Tryz.f69 = some ac69 := by kernel_rfl
theorem go69 {args : List AV} {h0 : AHeap} {Q : AEnd → AHeap → Prop} (hl : args.length ≤ 149) (h : HLow h0.length h0 → Ewp Tryz.prog Φ h0.length ac69 (ebodyQ Φ [] h0.length Q) (argEnv args 0) h0) : S Tryz.prog Φ 69 args h0 Q :=
 S_of_codeW Tryz.func69 rfl rfl cc69 (by kernel_rfl) hl h
def ac70 : ACode :=
 (.seq (.region [⟨(some 2), .mov (.val (.str [])), none⟩,
 ⟨(some 3), .mov (.val (.int .i64 0)), none⟩] (some [0]))
 (.seq (.region [⟨(some 4), .alloc 92 2 (.agg [.nilp, .nils]), none⟩] (some [0, 4]))
 (.seq (.seq (.region [⟨(some 5), .mov (.val (.int .i64 1)), none⟩] (some [0, 4, 5]))
 (.block 0 (.loop (.seq (.seq (.region [⟨(some 8), .mov (.tmp 5), none⟩,
 ⟨(some 9), .mov (.tmp 0), none⟩,
 ⟨(some 10), .len .str (.tmp 9), none⟩,
 ⟨(some 11), .bin .num .lss (.tmp 8) (.tmp 10), none⟩] (some [0, 4, 5, 11]))
 (.cond (.tmp 11) .skip
 (.exit 0)))
 (.seq (.block 1 (.seq (.region [⟨(some 14), .mov (.tmp 0), none⟩,
 ⟨(some 15), .mov (.tmp 5), none⟩,
 ⟨(some 16), .byteAt (.tmp 14) (.tmp 15), none⟩,
 ⟨(some 6), .mov (.tmp 16), none⟩] (some [0, 4, 5, 6]))
 (.seq (.region [⟨(some 17), .mov (.tmp 6), none⟩] (some [0, 4, 5, 6, 17]))
 (.block 2 (.seq (.region [⟨(some 21), .bin .num .eql (.tmp 17) (.val (.int .u8 34)), none⟩,
 ⟨(some 20), .mov (.tmp 21), none⟩] (some [0, 4, 5, 6, 17, 20]))
 (.cond (.tmp 20) (.seq (.region [⟨(some 22), .callF 44 [(.tmp 4)], none⟩,
 ⟨(some 23), .mov (.tmp 5), none⟩,
 ⟨(some 24), .bin .num .add (.tmp 23) (.val (.int .i64 1)), none⟩,
 ⟨(some 2), .mov (.tmp 22), none⟩,
 ⟨(some 3), .mov (.tmp 24), none⟩] (some [2, 3]))
 .ret)
 (.seq (.region [⟨(some 26), .bin .num .eql (.tmp 17) (.val (.int .u8 10)), none⟩,
 ⟨(some 25), .mov (.tmp 26), none⟩] (some [0, 4, 5, 6, 17, 25]))
 (.cond (.tmp 25) (.seq (.region [⟨(some 2), .mov (.val (.str [])), none⟩,
 ⟨(some 3), .mov (.val (.int .i64 0)), none⟩] (some [2, 3]))
 .ret)
 (.seq (.region [⟨(some 28), .bin .num .eql (.tmp 17) (.val (.int .u8 92)), none⟩,
 ⟨(some 27), .mov (.tmp 28), none⟩] (some [0, 4, 5, 6, 27]))
 (.cond (.tmp 27) (.seq (.region [⟨(some 29), .mov (.tmp 5), none⟩,
 ⟨(some 30), .bin .num .add (.tmp 29) (.val (.int .i64 1)), none⟩,
 ⟨(some 5), .mov (.tmp 30), none⟩] (some [0, 4, 5]))
 (.seq (.region [⟨(some 7), .mov (.val (.int .i64 (-1))), none⟩] (some [0, 4, 5, 7]))
 (.seq (.seq (.region [⟨(some 31), .mov (.tmp 5), none⟩,
 ⟨(some 32), .mov (.tmp 0), none⟩,
 ⟨(some 33), .len .str (.tmp 32), none⟩,
 ⟨(some 34), .bin .num .lss (.tmp 31) (.tmp 33), none⟩] (some [0, 4, 5, 7, 34]))
 (.cond (.tmp 34) (.region [⟨(some 35), .mov (.tmp 0), none⟩,
 ⟨(some 36), .mov (.tmp 5), none⟩,
 ⟨(some 37), .byteAt (.tmp 35) (.tmp 36), none⟩,
 ⟨(some 38), .callF 89 [(.val (.str [92, 34, 110])), (.tmp 37)], none⟩,
 ⟨(some 7), .mov (.tmp 38), none⟩] (some [0, 4, 5, 7]))
 .skip))
 (.seq (.seq (.region [⟨(some 39), .mov (.tmp 7), none⟩,
 ⟨(some 40), .bin .num .lss (.tmp 39) (.val (.int .i64 0)), none⟩] (some [0, 4, 5, 7, 40]))
 (.cond (.tmp 40) (.seq (.region [⟨(some 2), .mov (.val (.str [])), none⟩,
 ⟨(some 3), .mov (.val (.int .i64 0)), none⟩] (some [2, 3]))
 .ret)
 .skip))
 (.region [⟨(some 41), .mov (.tmp 7), none⟩,
 ⟨(some 42), .byteAt (.val (.str [92, 34, 10])) (.tmp 41), none⟩,
 ⟨(some 43), .callF 42 [(.tmp 4), (.tmp 42)], none⟩] (some [0, 4, 5]))))))
 (.region [⟨(some 18), .mov (.tmp 6), none⟩,
 ⟨(some 19), .callF 42 [(.tmp 4), (.tmp 18)], none⟩] (some [0, 4, 5]))))))))))))
 (.region [⟨(some 12), .mov (.tmp 5), none⟩,
 ⟨(some 13), .bin .num .add (.tmp 12) (.val (.int .i64 1)), none⟩,
 ⟨(some 5), .mov (.tmp 13), none⟩] (some [0, 4, 5])))))))
 (.seq (.region [⟨(some 2), .mov (.val (.str [])), none⟩,
 ⟨(some 3), .mov (.val (.int .i64 0)), none⟩] (some [2, 3]))
 .ret))))
theorem cc70 : compF Tryz.prog [] Tryz.f70 = some ac70 := by kernel_rfl
theorem go70 {args : List AV} {h0 : AHeap} {Q : AEnd → AHeap → Prop} (hl : args.length ≤ 44) (h : HLow h0.length h0 → Ewp Tryz.prog Φ h0.length ac70 (ebodyQ Φ [(.tmp 2), (.tmp 3)] h0.length Q) (argEnv args 0) h0) : S Tryz.prog Φ 70 args h0 Q :=
 S_of_codeW Tryz.func70 rfl rfl cc70 (by kernel_rfl) hl h
def ac73 : ACode :=
 (.seq (.region [⟨(some 4), .mov (.val (.str [])), none⟩,
 ⟨(some 5), .mov (.val (.bool false)), none⟩] (some [0, 1]))
 (.seq (.seq (.region [⟨(some 8), .mov (.tmp 0), none⟩,
 ⟨(some 9), .len .slice (.tmp 8), none⟩,
 ⟨(some 10), .mov (.val (.int .i64 0)), none⟩] (some [1, 8, 9, 10]))
 (.block 0 (.loop (.seq (.region [⟨(some 11), .bin .num .lss (.tmp 10) (.tmp 9), none⟩] (some [1, 8, 9, 10, 11]))
 (.seq (.cond (.tmp 11) .skip
 (.exit 0))
 (.seq (.block 1 (.seq (.region [⟨(some 12), .elemAddr 2 (.tmp 8) (.tmp 10), none⟩,
 ⟨(some 13), .load (some 2) (.tmp 12), none⟩,
 ⟨(some 7), .alloc 58 2 (.agg [(.str []), (.str [])]), none⟩,
 ⟨none, .store 2 (.tmp 7) (.tmp 13), none⟩] (some [1, 7, 8, 9, 10]))
 (.seq (.region [⟨(some 14), .fieldAddr 0 (.tmp 7), none⟩,
 ⟨(some 15), .load none (.tmp 14), none⟩,
 ⟨(some 16), .mov (.tmp 1), none⟩,
 ⟨(some 17), .bin .str .eql (.tmp 15) (.tmp 16), none⟩] (some [1, 7, 8, 9, 10, 17]))
 (.cond (.tmp 17) (.seq (.region [⟨(some 18), .fieldAddr 1 (.tmp 7), none⟩,
 ⟨(some 19), .load none (.tmp 18), none⟩,
 ⟨(some 4), .mov (.tmp 19), none⟩,
 ⟨(some 5), .mov (.val (.bool true)), none⟩] (some [4, 5]))
 .ret)
 .skip))))
 (.region [⟨(some 20), .bin .num .add (.tmp 10) (.val (.int .i64 1)), none⟩,
 ⟨(some 10), .mov (.tmp 20), none⟩] (some [1, 8, 9, 10]))))))))
 (.seq (.region [⟨(some 4), .mov (.val (.str [])), none⟩,
 ⟨(some 5), .mov (.val (.bool false)), none⟩] (some [4, 5]))
 .ret)))
theorem cc73 : compF Tryz.prog [] Tryz.f73 = some ac73 := by kernel_rfl
theorem go73 {args : List AV} {h0 : AHeap} {Q : AEnd → AHeap → Prop} (hl : args.length ≤ 21) (h : HLow h0.length h0 → Ewp Tryz.prog Φ h0.length ac73 (ebodyQ Φ [(.tmp 4), (.tmp 5)] h0.length Q) (argEnv args 0) h0) : S Tryz.prog Φ 73 args h0 Q :=
 S_of_codeW Tryz.func73 rfl rfl cc73 (by kernel_rfl) hl h
def ac74 : ACode :=
 (.seq (.region [⟨(some 2), .fbox 5 (.tmp 0), none⟩,
 ⟨(some 3), .mov (.val (.bool false)), none⟩] (some [1, 2]))
 (.seq (.region [⟨(some 4), .load (some 5) (.tmp 2), none⟩,
 ⟨(some 5), .load (some 6) (.tmp 1), none⟩,
 ⟨(some 6), .callF 48 [(.tmp 4), (.tmp 5)], none⟩,
 ⟨(some 3), .mov (.tmp 6), none⟩] (some [3]))
 .ret))
theorem cc74 : compF Tryz.prog [2] Tryz.f74 = some ac74 := by kernel_rfl
theorem go74 {args : List AV} {h0 : AHeap} {Q : AEnd → AHeap → Prop} (hl : args.length ≤ 7) (h : HLow h0.length h0 → Ewp Tryz.prog Φ h0.length ac74 (ebodyQ Φ [(.tmp 3)] h0.length Q) (argEnv args 0) h0) : S Tryz.prog Φ 74 args h0 Q :=
 S_of_codeW Tryz.func74 rfl rfl cc74 (by kernel_rfl) hl h
def ac75 : ACode :=
 (.seq (.region [⟨(some 2), .fbox 5 (.tmp 0), none⟩,
 ⟨(some 3), .mov (.val (.bool false)), none⟩] (some [1, 2]))
 (.seq (.region [⟨(some 4), .load none (.tmp 1), none⟩,
 ⟨(some 5), .load (some 5) (.tmp 2), none⟩,
 ⟨(some 6), .callV (.tmp 4) [(.tmp 5)], none⟩,
 ⟨(some 7), .un .not (.tmp 6), none⟩,
 ⟨(some 3), .mov (.tmp 7), none⟩] (some [3]))
 .ret))
theorem cc75 : compF Tryz.prog [2] Tryz.f75 = some ac75 := by kernel_rfl
theorem go75 {args : List AV} {h0 : AHeap} {Q : AEnd → AHeap → Prop} (hl : args.length ≤ 8) (h : HLow h0.length h0 → Ewp Tryz.prog Φ h0.length ac75 (ebodyQ Φ [(.tmp 3)] h0.length Q) (argEnv args 0) h0) : S Tryz.prog Φ 75 args h0 Q :=
 S_of_codeW Tryz.func75 rfl rfl cc75 (by kernel_rfl) hl h
def ac77 : ACode :=
 (.seq (.region [⟨(some 2), .mov (.val (.bool false)), none⟩] (some [0]))
 (.seq (.region [⟨(some 3), .mov (.tmp 0), none⟩,
 ⟨(some 4), .bin .num .lss (.tmp 3) (.val (.int .i32 48)), none⟩,
 ⟨(some 5), .mov (.tmp 4), none⟩,
 ⟨(some 6), .mov (.tmp 0), (some (5, false))⟩,
 ⟨(some 7), .bin .num .gtr (.tmp 6) (.val (.int .i32 57)), (some (5, false))⟩,
 ⟨(some 8), .pick (.tmp 5) (.val (.bool true)) (.tmp 7), none⟩,
 ⟨(some 2), .mov (.tmp 8), none⟩] (some [2]))
 .ret))
theorem cc77 : compF Tryz.prog [] Tryz.f77 = some ac77 := by kernel_rfl
theorem go77 {args : List AV} {h0 : AHeap} {Q : AEnd → AHeap → Prop} (hl : args.length ≤ 9) (h : HLow h0.length h0 → Ewp Tryz.prog Φ h0.length ac77 (ebodyQ Φ [(.tmp 2)] h0.length Q) (argEnv args 0) h0) : S Tryz.prog Φ 77 args h0 Q :=
 S_of_codeW Tryz.func77 rfl rfl cc77 (by kernel_rfl) hl h
def ac79 : ACode :=
 (.seq (.region [⟨(some 4), .mov (.val (.bool false)), none⟩] (some [0, 1]))
 (.seq (.region [⟨(some 5), .mov (.tmp 0), none⟩,
 ⟨(some 6), .mov (.tmp 1), none⟩,
 ⟨(some 7), .callF 108 [(.tmp 5), (.tmp 6)], none⟩,
 ⟨(some 8), .bin .num .geq (.tmp 7) (.val (.int .i64 0)), none⟩,
 ⟨(some 4), .mov (.tmp 8), none⟩] (some [4]))
 .ret))
theorem cc79 : compF Tryz.prog [] Tryz.f79 = some ac79 := by kernel_rfl
theorem go79 {args : List AV} {h0 : AHeap} {Q : AEnd → AHeap → Prop} (hl : args.length ≤ 9) (h : HLow h0.length h0 → Ewp Tryz.prog Φ h0.length ac79 (ebodyQ Φ [(.tmp 4)] h0.length Q) (argEnv args 0) h0) : S Tryz.prog Φ 79 args h0 Q :=
 S_of_codeW Tryz.func79 rfl rfl cc79 (by kernel_rfl) hl h
def ac82 : ACode :=
 (.seq (.region [⟨(some 1), .fbox 6 (.tmp 0), none⟩,
 ⟨(some 2), .mov (.val (.bool false)), none⟩] (some [1]))
 (.seq (.seq (.draw [⟨⟨(some 6), .fieldAddr 1 (.tmp 1), none⟩, false, 0, false⟩,
 ⟨⟨(some 7), .load none (.tmp 6), none⟩, false, 0, false⟩,
 ⟨⟨(some 8), .callF 110 [(.tmp 7)], none⟩, false, 0, false⟩,
 ⟨⟨(some 9), .bin .str .eql (.tmp 8) (.val (.str [])), none⟩, false, 0, false⟩,
 ⟨⟨(some 10), .mov (.tmp 9), none⟩, false, 0, false⟩,
 ⟨⟨(some 11), .fieldAddr 0 (.tmp 1), (some (10, false))⟩, false, 0, false⟩,
 ⟨⟨(some 12), .load none (.tmp 11), (some (10, false))⟩, false, 0, false⟩,
 ⟨⟨(some 13), .callF 36 [(.tmp 12)], (some (10, false))⟩, false, 0, false⟩,
 ⟨⟨(some 14), .un .not (.tmp 13), (some (10, false))⟩, false, 0, false⟩,
 ⟨⟨(some 15), .pick (.tmp 10) (.val (.bool true)) (.tmp 14), none⟩, false, 0, false⟩,
 ⟨⟨(some 16), .mov (.tmp 15), none⟩, false, 0, false⟩,
 ⟨⟨(some 17), .fieldAddr 5 (.tmp 1), (some (16, false))⟩, false, 0, false⟩,
 ⟨⟨(some 18), .load none (.tmp 17), (some (16, false))⟩, false, 0, false⟩,
 ⟨⟨(some 19), .callF 111 [(.tmp 18)], (some (16, false))⟩, false, 0, false⟩,
 ⟨⟨(some 20), .un .not (.tmp 19), (some (16, false))⟩, false, 0, false⟩,
 ⟨⟨(some 21), .pick (.tmp 16) (.val (.bool true)) (.tmp 20), none⟩, false, 0, false⟩,
 ⟨⟨(some 22), .mov (.tmp 21), none⟩, false, 0, false⟩,
 ⟨⟨(some 23), .fieldAddr 4 (.tmp 1), (some (22, false))⟩, false, 0, false⟩,
 ⟨⟨(some 24), .load none (.tmp 23), (some (22, false))⟩, false, 0, false⟩,
 ⟨⟨(some 25), .len .slice (.tmp 24), (some (22, false))⟩, false, 0, false⟩,
 ⟨⟨(some 26), .fieldAddr 1 (.tmp 1), (some (22, false))⟩, false, 0, false⟩,
 ⟨⟨(some 27), .load none (.tmp 26), (some (22, false))⟩, false, 0, false⟩,
 ⟨⟨(some 28), .callF 112 [(.tmp 27)], (some (22, false))⟩, false, 0, false⟩,
 ⟨⟨(some 29), .bin .num .lss (.tmp 25) (.tmp 28), (some (22, false))⟩, false, 0, false⟩,
 ⟨⟨(some 30), .pick (.tmp 22) (.val (.bool true)) (.tmp 29), none⟩, false, 0, false⟩,
 ⟨⟨(some 31), .mov (.tmp 30), none⟩, false, 0, false⟩,
 ⟨⟨(some 32), .fieldAddr 4 (.tmp 1), (some (31, false))⟩, false, 0, false⟩,
 ⟨⟨(some 33), .load none (.tmp 32), (some (31, false))⟩, false, 0, false⟩,
 ⟨⟨(some 34), .len .slice (.tmp 33), (some (31, false))⟩, false, 0, false⟩,
 ⟨⟨(some 35), .bin .num .gtr (.tmp 34) (.val (.int .i64 2000)), (some (31, false))⟩, false, 0, false⟩,
 ⟨⟨(some 36), .pick (.tmp 31) (.val (.bool true)) (.tmp 35), none⟩, false, 0, false⟩] (some [1, 36]))
 (.cond (.tmp 36) (.seq (.region [⟨(some 2), .mov (.val (.bool false)), none⟩] (some [2]))
 .ret)
 .skip))
 (.seq (.region [⟨(some 37), .mkmap, none⟩,
 ⟨(some 3), .alloc 122 1 .nilm, none⟩,
 ⟨none, .store 1 (.tmp 3) (.tmp 37), none⟩] (some [1, 3]))
 (.seq (.region [⟨(some 4), .alloc 9 1 (.str []), none⟩,
 ⟨none, .store 1 (.tmp 4) (.val (.str [])), none⟩] (some [1, 3, 4]))
 (.seq (.region [⟨(some 38), .mkfn 113 [] [(.tmp 1), (.tmp 4), (.tmp 3)], none⟩,
 ⟨(some 5), .mov (.tmp 38), none⟩] (some [1, 5]))
 (.seq (.seq (.region [⟨(some 39), .fieldAddr 4 (.tmp 1), none⟩,
 ⟨(some 40), .load none (.tmp 39), none⟩,
 ⟨(some 41), .mov (.tmp 5), none⟩,
 ⟨(some 42), .callF 114 [(.tmp 40), (.tmp 41)], none⟩] (some [1, 42]))
 (.cond (.tmp 42) (.seq (.region [⟨(some 2), .mov (.val (.bool false)), none⟩] (some [2]))
 .ret)
 .skip))
 (.seq (.seq (.region [⟨(some 43), .fieldAddr 1 (.tmp 1), none⟩,
 ⟨(some 44), .load none (.tmp 43), none⟩] (some [1, 44]))
 (.block 0 (.seq (.region [⟨(some 46), .bin .num .eql (.tmp 44) (.val (.int .i64 1)), none⟩,
 ⟨(some 45), .mov (.tmp 46), none⟩] (some [1, 44, 45]))
 (.cond (.tmp 45) (.seq (.region [⟨(some 47), .fieldAddr 4 (.tmp 1), none⟩,
 ⟨(some 48), .load none (.tmp 47), none⟩,
 ⟨(some 49), .len .slice (.tmp 48), none⟩,
 ⟨(some 50), .bin .num .eql (.tmp 49) (.val (.int .i64 0)), none⟩,
 ⟨(some 51), .mov (.tmp 50), none⟩,
 ⟨(some 52), .fieldAddr 2 (.tmp 1), (some (51, true))⟩,
 ⟨(some 53), .load (some 2) (.tmp 52), (some (51, true))⟩,
 ⟨(some 54), .callF 115 [(.tmp 53)], (some (51, true))⟩,
 ⟨(some 55), .pick (.tmp 51) (.tmp 54) (.val (.bool false)), none⟩,
 ⟨(some 2), .mov (.tmp 55), none⟩] (some [2]))
 .ret)
 (.seq (.region [⟨(some 57), .bin .num .eql (.tmp 44) (.val (.int .i64 5)), none⟩,
 ⟨(some 56), .mov (.tmp 57), none⟩] (some [1, 56]))
 (.cond (.tmp 56) (.seq (.region [⟨(some 58), .fieldAddr 4 (.tmp 1), none⟩,
 ⟨(some 59), .load none (.tmp 58), none⟩,
 ⟨(some 60), .len .slice (.tmp 59), none⟩,
 ⟨(some 61), .bin .num .eql (.tmp 60) (.val (.int .i64 3)), none⟩,
 ⟨(some 62), .mov (.tmp 61), none⟩,
 ⟨(some 63), .fieldAddr 2 (.tmp 1), (some (62, true))⟩,
 ⟨(some 64), .load (some 2) (.tmp 63), (some (62, true))⟩,
 ⟨(some 65), .build [(.int .i64 0), (.int .i64 0)] [], (some (62, true))⟩,
 ⟨(some 66), .aggeq false [.num, .num] (.tmp 64) (.tmp 65), (some (62, true))⟩,
 ⟨(some 67), .pick (.tmp 62) (.tmp 66) (.val (.bool false)), none⟩,
 ⟨(some 2), .mov (.tmp 67), none⟩] (some [2]))
 .ret)
 .skip))))))
 (.seq (.region [⟨(some 68), .fieldAddr 2 (.tmp 1), none⟩,
 ⟨(some 69), .load (some 2) (.tmp 68), none⟩,
 ⟨(some 70), .build [(.int .i64 0), (.int .i64 0)] [], none⟩,
 ⟨(some 71), .aggeq false [.num, .num] (.tmp 69) (.tmp 70), none⟩,
 ⟨(some 2), .mov (.tmp 71), none⟩] (some [2]))
 .ret))))))))
theorem cc82 : compF Tryz.prog [1] Tryz.f82 = some ac82 := by kernel_rfl
theorem go82 {args : List AV} {h0 : AHeap} {Q : AEnd → AHeap → Prop} (hl : args.length ≤ 72) (h : HLow h0.length h0 → Ewp Tryz.prog Φ h0.length ac82 (ebodyQ Φ [(.tmp 2)] h0.length Q) (argEnv args 0) h0) : S Tryz.prog Φ 82 args h0 Q :=
 S_of_codeW Tryz.func82 rfl rfl cc82 (by kernel_rfl) hl h
def ac83 : ACode :=
 (.seq (.region [⟨(some 4), .mov (.val (.int .i64 0)), none⟩] (some [0, 1]))
 (.seq (.seq (.region [⟨(some 6), .mov (.tmp 0), none⟩,
 ⟨(some 7), .len .slice (.tmp 6), none⟩,
 ⟨(some 8), .mov (.val (.int .i64 0)), none⟩] (some [0, 1, 7, 8]))
 (.block 0 (.loop (.seq (.region [⟨(some 9), .bin .num .lss (.tmp 8) (.tmp 7), none⟩] (some [0, 1, 7, 8, 9]))
 (.seq (.cond (.tmp 9) .skip
 (.exit 0))
 (.seq (.block 1 (.seq (.region [⟨(some 10), .mov (.tmp 8), none⟩,
 ⟨(some 5), .mov (.tmp 10), none⟩] (some [0, 1, 5, 7, 8]))
 (.seq (.region [⟨(some 11), .mov (.tmp 1), none⟩,
 ⟨(some 12), .mov (.tmp 0), none⟩,
 ⟨(some 13), .mov (.tmp 5), none⟩,
 ⟨(some 14), .elemAddr 6 (.tmp 12) (.tmp 13), none⟩,
 ⟨(some 15), .load (some 6) (.tmp 14), none⟩,
 ⟨(some 16), .callV (.tmp 11) [(.tmp 15)], none⟩] (some [0, 1, 5, 7, 8, 16]))
 (.cond (.tmp 16) (.seq (.region [⟨(some 17), .mov (.tmp 5), none⟩,
 ⟨(some 4), .mov (.tmp 17), none⟩] (some [4]))
 .ret)
 .skip))))
 (.region [⟨(some 18), .bin .num .add (.tmp 8) (.val (.int .i64 1)), none⟩,
 ⟨(some 8), .mov (.tmp 18), none⟩] (some [0, 1, 7, 8]))))))))
 (.seq (.region [⟨(some 4), .mov (.val (.int .i64 (-1))), none⟩] (some [4]))
 .ret)))
theorem cc83 : compF Tryz.prog [] Tryz.f83 = some ac83 := by kernel_rfl
theorem go83 {args : List AV} {h0 : AHeap} {Q : AEnd → AHeap → Prop} (hl : args.length ≤ 19) (h : HLow h0.length h0 → Ewp Tryz.prog Φ h0.length ac83 (ebodyQ Φ [(.tmp 4)] h0.length Q) (argEnv args 0) h0) : S Tryz.prog Φ 83 args h0 Q :=
 S_of_codeW Tryz.func83 rfl rfl cc83 (by kernel_rfl) hl h
def ac84 : ACode :=
 (.seq (.region [⟨(some 2), .fbox 6 (.tmp 0), none⟩,
 ⟨(some 3), .mov (.val (.bool false)), none⟩] (some [1, 2]))
 (.seq (.region [⟨(some 4), .fieldAddr 0 (.tmp 2), none⟩,
 ⟨(some 5), .load none (.tmp 4), none⟩,
 ⟨(some 6), .load none (.tmp 1), none⟩,
 ⟨(some 7), .bin .str .eql (.tmp 5) (.tmp 6), none⟩,
 ⟨(some 3), .mov (.tmp 7), none⟩] (some [3]))
 .ret))
theorem cc84 : compF Tryz.prog [2] Tryz.f84 = some ac84 := by kernel_rfl
theorem go84 {args : List AV} {h0 : AHeap} {Q : AEnd → AHeap → Prop} (hl : args.length ≤ 8) (h : HLow h0.length h0 → Ewp Tryz.prog Φ h0.length ac84 (ebodyQ Φ [(.tmp 3)] h0.length Q) (argEnv args 0) h0) : S Tryz.prog Φ 84 args h0 Q :=
 S_of_codeW Tryz.func84 rfl rfl cc84 (by kernel_rfl) hl h
def ac87 : ACode :=
 (.seq (.region [⟨(some 2), .fbox 5 (.tmp 0), none⟩,
 ⟨(some 3), .mov (.val (.bool false)), none⟩] (some [1, 2]))
 (.seq (.region [⟨(some 4), .load (some 5) (.tmp 2), none⟩,
 ⟨(some 5), .load none (.tmp 1), none⟩,
 ⟨(some 6), .callF 59 [(.tmp 4), (.tmp 5)], none⟩,
 ⟨(some 7), .un .not (.tmp 6), none⟩,
 ⟨(some 3), .mov (.tmp 7), none⟩] (some [3]))
 .ret))
theorem cc87 : compF Tryz.prog [2] Tryz.f87 = some ac87 := by kernel_rfl
theorem go87 {args : List AV} {h0 : AHeap} {Q : AEnd → AHeap → Prop} (hl : args.length ≤ 8) (h : HLow h0.length h0 → Ewp Tryz.prog Φ h0.length ac87 (ebodyQ Φ [(.tmp 3)] h0.length Q) (argEnv args 0) h0) : S Tryz.prog Φ 87 args h0 Q :=
 S_of_codeW Tryz.func87 rfl rfl cc87 (by kernel_rfl) hl h
def ac88 : ACode :=
 (.seq (.region [⟨(some 2), .mov (.val (.bool false)), none⟩] (some [0]))
 (.seq (.region [⟨(some 3), .mov (.tmp 0), none⟩,
 ⟨(some 4), .callF 36 [(.tmp 3)], none⟩,
 ⟨(some 5), .mov (.tmp 4), none⟩,
 ⟨(some 6), .mov (.tmp 0), (some (5, true))⟩,
 ⟨(some 7), .callF 121 [(.tmp 6)], (some (5, true))⟩,
 ⟨(some 8), .un .not (.tmp 7), (some (5, true))⟩,
 ⟨(some 9), .pick (.tmp 5) (.tmp 8) (.val (.bool false)), none⟩,
 ⟨(some 2), .mov (.tmp 9), none⟩] (some [2]))
 .ret))
theorem cc88 : compF Tryz.prog [] Tryz.f88 = some ac88 := by kernel_rfl
theorem go88 {args : List AV} {h0 : AHeap} {Q : AEnd → AHeap → Prop} (hl : args.length ≤ 10) (h : HLow h0.length h0 → Ewp Tryz.prog Φ h0.length ac88 (ebodyQ Φ [(.tmp 2)] h0.length Q) (argEnv args 0) h0) : S Tryz.prog Φ 88 args h0 Q :=
 S_of_codeW Tryz.func88 rfl rfl cc88 (by kernel_rfl) hl h
def ac90 : ACode :=
 (.region [⟨(some 1), .fieldAddr 0 (.tmp 0), none⟩,
 ⟨none, .store 1 (.tmp 1) (.val (.int .i64 1)), none⟩] (some []))
theorem cc90 : compF Tryz.prog [] Tryz.f90 = some ac90 := by kernel_rfl
theorem go90 {args : List AV} {h0 : AHeap} {Q : AEnd → AHeap → Prop} (hl : args.length ≤ 2) (h : HLow h0.length h0 → Ewp Tryz.prog Φ h0.length ac90 (ebodyQ Φ [] h0.length Q) (argEnv args 0) h0) : S Tryz.prog Φ 90 args h0 Q :=
 S_of_codeW Tryz.func90 rfl rfl cc90 (by kernel_rfl) hl h
def ac91 : ACode :=
 (.region [⟨(some 2), .load none (.tmp 0), none⟩,
 ⟨(some 3), .callF 92 [(.tmp 2)], none⟩,
 ⟨(some 4), .fieldAddr 0 (.tmp 1), none⟩,
 ⟨none, .store 1 (.tmp 4) (.val (.int .i64 2)), none⟩,
 ⟨(some 5), .fieldAddr 7 (.tmp 1), none⟩,
 ⟨none, .store 1 (.tmp 5) (.tmp 3), none⟩] (some []))
theorem cc91 : compF Tryz.prog [] Tryz.f91 = some ac91 := by kernel_rfl
theorem go91 {args : List AV} {h0 : AHeap} {Q : AEnd → AHeap → Prop} (hl : args.length ≤ 6) (h : HLow h0.length h0 → Ewp Tryz.prog Φ h0.length ac91 (ebodyQ Φ [] h0.length Q) (argEnv args 0) h0) : S Tryz.prog Φ 91 args h0 Q :=
 S_of_codeW Tryz.func91 rfl rfl cc91 (by kernel_rfl) hl h
def ac92 : ACode :=
 (.seq (.region [⟨(some 2), .mov (.val (.str [])), none⟩] (some [0]))
 (.seq (.region [⟨(some 3), .mov (.tmp 0), none⟩,
 ⟨(some 4), .callF 123 [(.tmp 3), (.val (.int .i64 1)), (.val (.fn 36 [] []))], none⟩,
 ⟨(some 2), .mov (.tmp 4), none⟩] (some [2]))
 .ret))
theorem cc92 : compF Tryz.prog [] Tryz.f92 = some ac92 := by kernel_rfl
theorem go92 {args : List AV} {h0 : AHeap} {Q : AEnd → AHeap → Prop} (hl : args.length ≤ 5) (h : HLow h0.length h0 → Ewp Tryz.prog Φ h0.length ac92 (ebodyQ Φ [(.tmp 2)] h0.length Q) (argEnv args 0) h0) : S Tryz.prog Φ 92 args h0 Q :=
 S_of_codeW Tryz.func92 rfl rfl cc92 (by kernel_rfl) hl h
def ac93 : ACode :=
 (.seq (.region [⟨(some 2), .load none (.tmp 0), none⟩,
 ⟨(some 3), .callF 92 [(.tmp 2)], none⟩,
 ⟨(some 4), .fieldAddr 0 (.tmp 1), none⟩,
 ⟨none, .store 1 (.tmp 4) (.val (.int .i64 3)), none⟩,
 ⟨(some 5), .fieldAddr 7 (.tmp 1), none⟩,
 ⟨none, .store 1 (.tmp 5) (.tmp 3), none⟩] (some [0, 1]))
 (.seq (.region [⟨(some 6), .load none (.tmp 0), none⟩,
 ⟨(some 7), .callF 94 [(.tmp 6), (.val (.str [98, 121]))], none⟩] (some [0, 1]))
 (.region [⟨(some 8), .load none (.tmp 0), none⟩,
 ⟨(some 9), .callF 95 [(.tmp 8), (.val (.int .i64 0)), (.val (.int .i64 1048576))], none⟩,
 ⟨(some 10), .fieldAddr 8 (.tmp 1), none⟩,
 ⟨none, .store 1 (.tmp 10) (.tmp 9), none⟩] (some []))))
theorem cc93 : compF Tryz.prog [] Tryz.f93 = some ac93 := by kernel_rfl
theorem go93 {args : List AV} {h0 : AHeap} {Q : AEnd → AHeap → Prop} (hl : args.length ≤ 11) (h : HLow h0.length h0 → Ewp Tryz.prog Φ h0.length ac93 (ebodyQ Φ [] h0.length Q) (argEnv args 0) h0) : S Tryz.prog Φ 93 args h0 Q :=
 S_of_codeW Tryz.func93 rfl rfl cc93 (by kernel_rfl) hl h
def ac94 : ACode :=
 (.seq (.region [⟨(some 4), .mov (.tmp 0), none⟩,
 ⟨(some 5), .mov (.tmp 1), none⟩,
 ⟨(some 6), .callF 64 [(.tmp 4), (.tmp 5)], none⟩,
 ⟨(some 7), .un .not (.tmp 6), none⟩] (some [0, 7]))
 (.cond (.tmp 7) (.region [⟨(some 8), .mov (.tmp 0), none⟩,
 ⟨(some 9), .callF 65 [(.tmp 8), (.val (.int .i64 5))], none⟩] (some []))
 .skip))
theorem cc94 : compF Tryz.prog [] Tryz.f94 = some ac94 := by kernel_rfl
theorem go94 {args : List AV} {h0 : AHeap} {Q : AEnd → AHeap → Prop} (hl : args.length ≤ 10) (h : HLow h0.length h0 → Ewp Tryz.prog Φ h0.length ac94 (ebodyQ Φ [] h0.length Q) (argEnv args 0) h0) : S Tryz.prog Φ 94 args h0 Q :=
 S_of_codeW Tryz.func94 rfl rfl cc94 (by kernel_rfl) hl h
def ac95 : ACode :=
 (.seq (.region [⟨(some 4), .fbox 1 (.tmp 1), none⟩,
 ⟨(some 5), .fbox 1 (.tmp 2), none⟩,
 ⟨(some 6), .mov (.val (.int .i64 0)), none⟩] (some [0, 4, 5]))
 (.seq (.region [⟨(some 7), .alloc 3 1 (.int .i64 0), none⟩] (some [0, 4, 5, 7]))
 (.seq (.region [⟨(some 8), .mov (.tmp 0), none⟩,
 ⟨(some 9), .mkfn 124 [] [(.tmp 7), (.tmp 4), (.tmp 5)], none⟩,
 ⟨(some 10), .callF 123 [(.tmp 8), (.val (.int .i64 2)), (.tmp 9)], none⟩] (some [7]))
 (.seq (.region [⟨(some 11), .load none (.tmp 7), none⟩,
 ⟨(some 6), .mov (.tmp 11), none⟩] (some [6]))
 .ret))))
theorem cc95 : compF Tryz.prog [4, 5] Tryz.f95 = some ac95 := by kernel_rfl
theorem go95 {args : List AV} {h0 : AHeap} {Q : AEnd → AHeap → Prop} (hl : args.length ≤ 12) (h : HLow h0.length h0 → Ewp Tryz.prog Φ h0.length ac95 (ebodyQ Φ [(.tmp 6)] h0.length Q) (argEnv args 0) h0) : S Tryz.prog Φ 95 args h0 Q :=
 S_of_codeW Tryz.func95 rfl rfl cc95 (by kernel_rfl) hl h
def ac96 : ACode :=
 (.seq (.region [⟨(some 2), .load none (.tmp 0), none⟩,
 ⟨(some 3), .callF 95 [(.tmp 2), (.val (.int .i64 1)), (.val (.int .i64 10000))], none⟩,
 ⟨(some 4), .fieldAddr 0 (.tmp 1), none⟩,
 ⟨none, .store 1 (.tmp 4) (.val (.int .i64 4)), none⟩,
 ⟨(some 5), .fieldAddr 8 (.tmp 1), none⟩,
 ⟨none, .store 1 (.tmp 5) (.tmp 3), none⟩] (some [0, 1]))
 (.seq (.region [⟨(some 6), .load none (.tmp 0), none⟩,
 ⟨(some 7), .callF 94 [(.tmp 6), (.val (.str [116, 111]))], none⟩] (some [0, 1]))
 (.seq (.region [⟨(some 8), .load none (.tmp 0), none⟩,
 ⟨(some 9), .callF 95 [(.tmp 8), (.val (.int .i64 0)), (.val (.int .i64 1048575))], none⟩,
 ⟨(some 10), .fieldAddr 9 (.tmp 1), none⟩,
 ⟨(some 11), .fieldAddr 0 (.tmp 10), none⟩,
 ⟨none, .store 1 (.tmp 11) (.tmp 9), none⟩] (some [0, 1]))
 (.region [⟨(some 12), .load none (.tmp 0), none⟩,
 ⟨(some 13), .callF 95 [(.tmp 12), (.val (.int .i64 0)), (.val (.int .i64 1048575))], none⟩,
 ⟨(some 14), .fieldAddr 9 (.tmp 1), none⟩,
 ⟨(some 15), .fieldAddr 1 (.tmp 14), none⟩,
 ⟨none, .store 1 (.tmp 15) (.tmp 13), none⟩] (some [])))))
theorem cc96 : compF Tryz.prog [] Tryz.f96 = some ac96 := by kernel_rfl
theorem go96 {args : List AV} {h0 : AHeap} {Q : AEnd → AHeap → Prop} (hl : args.length ≤ 16) (h : HLow h0.length h0 → Ewp Tryz.prog Φ h0.length ac96 (ebodyQ Φ [] h0.length Q) (argEnv args 0) h0) : S Tryz.prog Φ 96 args h0 Q :=
 S_of_codeW Tryz.func96 rfl rfl cc96 (by kernel_rfl) hl h
def ac97 : ACode :=
 (.seq (.region [⟨(some 2), .load none (.tmp 0), none⟩,
 ⟨(some 3), .callF 92 [(.tmp 2)], none⟩,
 ⟨(some 4), .fieldAddr 0 (.tmp 1), none⟩,
 ⟨none, .store 1 (.tmp 4) (.val (.int .i64 5)), none⟩,
 ⟨(some 5), .fieldAddr 7 (.tmp 1), none⟩,
 ⟨none, .store 1 (.tmp 5) (.tmp 3), none⟩] (some [0, 1]))
 (.seq (.region [⟨(some 6), .load none (.tmp 0), none⟩,
 ⟨(some 7), .callF 94 [(.tmp 6), (.val (.str [105, 110]))], none⟩] (some [0, 1]))
 (.seq (.region [⟨(some 8), .load none (.tmp 0), none⟩,
 ⟨(some 9), .callF 95 [(.tmp 8), (.val (.int .i64 0)), (.val (.int .i64 10080))], none⟩,
 ⟨(some 10), .fieldAddr 8 (.tmp 1), none⟩,
 ⟨none, .store 1 (.tmp 10) (.tmp 9), none⟩] (some [0, 1]))
 (.seq (.region [⟨(some 11), .load none (.tmp 0), none⟩,
 ⟨(some 12), .callF 94 [(.tmp 11), (.val (.str [98, 121]))], none⟩] (some [0, 1]))
 (.seq (.region [⟨(some 13), .load none (.tmp 0), none⟩,
 ⟨(some 14), .callF 92 [(.tmp 13)], none⟩,
 ⟨(some 15), .fieldAddr 12 (.tmp 1), none⟩,
 ⟨none, .store 1 (.tmp 15) (.tmp 14), none⟩] (some [0, 1]))
 (.seq (.region [⟨(some 16), .load none (.tmp 0), none⟩,
 ⟨(some 17), .callF 94 [(.tmp 16), (.val (.str [97, 116]))], none⟩] (some [0, 1]))
 (.region [⟨(some 18), .load none (.tmp 0), none⟩,
 ⟨(some 19), .callF 95 [(.tmp 18), (.val (.int .i64 0)), (.val (.int .i64 9999999))], none⟩,
 ⟨(some 20), .fieldAddr 13 (.tmp 1), none⟩,
 ⟨none, .store 1 (.tmp 20) (.tmp 19), none⟩] (some []))))))))
theorem cc97 : compF Tryz.prog [] Tryz.f97 = some ac97 := by kernel_rfl
theorem go97 {args : List AV} {h0 : AHeap} {Q : AEnd → AHeap → Prop} (hl : args.length ≤ 21) (h : HLow h0.length h0 → Ewp Tryz.prog Φ h0.length ac97 (ebodyQ Φ [] h0.length Q) (argEnv args 0) h0) : S Tryz.prog Φ 97 args h0 Q :=
 S_of_codeW Tryz.func97 rfl rfl cc97 (by kernel_rfl) hl h
def ac98 : ACode :=
 (.region [⟨(some 2), .load none (.tmp 0), none⟩,
 ⟨(some 3), .callF 92 [(.tmp 2)], none⟩,
 ⟨(some 4), .fieldAddr 0 (.tmp 1), none⟩,
 ⟨none, .store 1 (.tmp 4) (.val (.int .i64 6)), none⟩,
 ⟨(some 5), .fieldAddr 11 (.tmp 1), none⟩,
 ⟨none, .store 1 (.tmp 5) (.tmp 3), none⟩] (some []))
theorem cc98 : compF Tryz.prog [] Tryz.f98 = some ac98 := by kernel_rfl
theorem go98 {args : List AV} {h0 : AHeap} {Q : AEnd → AHeap → Prop} (hl : args.length ≤ 6) (h : HLow h0.length h0 → Ewp Tryz.prog Φ h0.length ac98 (ebodyQ Φ [] h0.length Q) (argEnv args 0) h0) : S Tryz.prog Φ 98 args h0 Q :=
 S_of_codeW Tryz.func98 rfl rfl cc98 (by kernel_rfl) hl h
def ac99 : ACode :=
 (.seq (.region [⟨(some 4), .mov (.val (.bool false)), none⟩] (some [0, 1]))
 (.seq (.region [⟨(some 5), .mov (.tmp 0), none⟩,
 ⟨(some 6), .nilchk (.tmp 5), none⟩,
 ⟨(some 7), .fieldAddr 0 (.tmp 6), none⟩,
 ⟨(some 8), .load none (.tmp 7), none⟩,
 ⟨(some 9), .len .slice (.tmp 8), none⟩,
 ⟨(some 10), .bin .num .gtr (.tmp 9) (.val (.int .i64 0)), none⟩,
 ⟨(some 11), .mov (.tmp 10), none⟩,
 ⟨(some 12), .mov (.tmp 0), (some (11, true))⟩,
 ⟨(some 13), .nilchk (.tmp 12), (some (11, true))⟩,
 ⟨(some 14), .fieldAddr 0 (.tmp 13), (some (11, true))⟩,
 ⟨(some 15), .load none (.tmp 14), (some (11, true))⟩,
 ⟨(some 16), .elemAddr 3 (.tmp 15) (.val (.int .i64 0)), (some (11, true))⟩,
 ⟨(some 17), .fieldAddr 1 (.tmp 16), (some (11, true))⟩,
 ⟨(some 18), .load none (.tmp 17), (some (11, true))⟩,
 ⟨(some 19), .mov (.tmp 1), (some (11, true))⟩,
 ⟨(some 20), .bin .str .eql (.tmp 18) (.tmp 19), (some (11, true))⟩,
 ⟨(some 21), .pick (.tmp 11) (.tmp 20) (.val (.bool false)), none⟩,
 ⟨(some 22), .mov (.tmp 21), none⟩,
 ⟨(some 23), .mov (.tmp 0), (some (22, true))⟩,
 ⟨(some 24), .nilchk (.tmp 23), (some (22, true))⟩,
 ⟨(some 25), .fieldAddr 0 (.tmp 24), (some (22, true))⟩,
 ⟨(some 26), .load none (.tmp 25), (some (22, true))⟩,
 ⟨(some 27), .elemAddr 3 (.tmp 26) (.val (.int .i64 0)), (some (22, true))⟩,
 ⟨(some 28), .fieldAddr 0 (.tmp 27), (some (22, true))⟩,
 ⟨(some 29), .load none (.tmp 28), (some (22, true))⟩,
 ⟨(some 30), .bin .num .eql (.tmp 29) (.val (.int .i64 1)), (some (22, true))⟩,
 ⟨(some 31), .mov (.tmp 30), (some (22, true))⟩,
 ⟨(some 32), .mov (.tmp 0), (some (31, false))⟩,
 ⟨(some 33), .nilchk (.tmp 32), (some (31, false))⟩,
 ⟨(some 34), .fieldAddr 0 (.tmp 33), (some (31, false))⟩,
 ⟨(some 35), .load none (.tmp 34), (some (31, false))⟩,
 ⟨(some 36), .elemAddr 3 (.tmp 35) (.val (.int .i64 0)), (some (31, false))⟩,
 ⟨(some 37), .fieldAddr 0 (.tmp 36), (some (31, false))⟩,
 ⟨(some 38), .load none (.tmp 37), (some (31, false))⟩,
 ⟨(some 39), .bin .num .eql (.tmp 38) (.val (.int .i64 4)), (some (31, false))⟩,
 ⟨(some 40), .pick (.tmp 31) (.val (.bool true)) (.tmp 39), (some (22, true))⟩,
 ⟨(some 41), .pick (.tmp 22) (.tmp 40) (.val (.bool false)), none⟩,
 ⟨(some 4), .mov (.tmp 41), none⟩] (some [4]))
 .ret))
theorem cc99 : compF Tryz.prog [] Tryz.f99 = some ac99 := by kernel_rfl
theorem go99 {args : List AV} {h0 : AHeap} {Q : AEnd → AHeap → Prop} (hl : args.length ≤ 42) (h : HLow h0.length h0 → Ewp Tryz.prog Φ h0.length ac99 (ebodyQ Φ [(.tmp 4)] h0.length Q) (argEnv args 0) h0) : S Tryz.prog Φ 99 args h0 Q :=
 S_of_codeW Tryz.func99 rfl rfl cc99 (by kernel_rfl) hl h
def ac100 : ACode :=
 (.seq (.region [⟨(some 8), .alloc 24 5 (.agg [(.int .i64 0), (.str []), (.str []), (.int .i64 0), .nils]), none⟩] (some [0, 1, 2, 3, 8]))
 (.seq (.region [⟨(some 10), .mov (.tmp 2), none⟩,
 ⟨(some 11), .callV (.tmp 10) [], none⟩,
 ⟨(some 12), .bslice 24 5 [(.tmp 11)], none⟩,
 ⟨(some 9), .mov (.tmp 12), none⟩] (some [0, 1, 2, 3, 8, 9]))
 (.seq (.block 0 (.loop (.seq (.seq (.region [⟨(some 13), .mov (.tmp 0), none⟩,
 ⟨(some 14), .mov (.tmp 1), none⟩,
 ⟨(some 15), .callF 64 [(.tmp 13), (.tmp 14)], none⟩] (some [0, 1, 2, 3, 8, 9, 15]))
 (.cond (.tmp 15) .skip
 (.exit 0)))
 (.block 1 (.region [⟨(some 16), .mov (.tmp 9), none⟩,
 ⟨(some 17), .mov (.tmp 2), none⟩,
 ⟨(some 18), .callV (.tmp 17) [], none⟩,
 ⟨(some 19), .fslice 5 [(.tmp 18)], none⟩,
 ⟨(some 20), .append 24 5 72 (.tmp 16) (.tmp 19), none⟩,
 ⟨(some 9), .mov (.tmp 20), none⟩] (some [0, 1, 2, 3, 8, 9]))))))
 (.seq (.seq (.region [⟨(some 21), .mov (.tmp 9), none⟩,
 ⟨(some 22), .len .slice (.tmp 21), none⟩,
 ⟨(some 23), .bin .num .eql (.tmp 22) (.val (.int .i64 1)), none⟩] (some [3, 8, 9, 23]))
 (.cond (.tmp 23) (.seq (.region [⟨(some 24), .mov (.tmp 9), none⟩,
 ⟨(some 25), .elemAddr 5 (.tmp 24) (.val (.int .i64 0)), none⟩,
 ⟨(some 26), .load (some 5) (.tmp 25), none⟩,
 ⟨none, .store 5 (.tmp 8) (.tmp 26), none⟩] (some [8]))
 .ret)
 .skip))
 (.seq (.region [⟨(some 27), .mov (.tmp 3), none⟩,
 ⟨(some 28), .mov (.tmp 9), none⟩,
 ⟨(some 29), .callV (.tmp 27) [(.tmp 28)], none⟩,
 ⟨none, .store 5 (.tmp 8) (.tmp 29), none⟩] (some [8]))
 .ret)))))
theorem cc100 : compF Tryz.prog [19] Tryz.f100 = some ac100 := by kernel_rfl
theorem go100 {args : List AV} {h0 : AHeap} {Q : AEnd → AHeap → Prop} (hl : args.length ≤ 30) (h : HLow h0.length h0 → Ewp Tryz.prog Φ h0.length ac100 (ebodyQ Φ [(.cell 8 (some 5))] h0.length Q) (argEnv args 0) h0) : S Tryz.prog Φ 100 args h0 Q :=
 S_of_codeW Tryz.func100 rfl rfl cc100 (by kernel_rfl) hl h
def ac101 : ACode :=
 (.seq (.region [⟨(some 2), .alloc 24 5 (.agg [(.int .i64 0), (.str []), (.str []), (.int .i64 0), .nils]), none⟩] (some [0, 2]))
 (.seq (.region [⟨(some 3), .mov (.tmp 0), none⟩,
 ⟨(some 4), .mov (.tmp 0), none⟩,
 ⟨(some 5), .mkfn 125 [(.tmp 4)] [], none⟩,
 ⟨(some 6), .mkfn 102 [(.val (.int .i64 5))] [], none⟩,
 ⟨(some 7), .callF 100 [(.tmp 3), (.val (.str [97, 110, 100])), (.tmp 5), (.tmp 6)], none⟩,
 ⟨none, .store 5 (.tmp 2) (.tmp 7), none⟩] (some [2]))
 .ret))
theorem cc101 : compF Tryz.prog [] Tryz.f101 = some ac101 := by kernel_rfl
theorem go101 {args : List AV} {h0 : AHeap} {Q : AEnd → AHeap → Prop} (hl : args.length ≤ 8) (h : HLow h0.length h0 → Ewp Tryz.prog Φ h0.length ac101 (ebodyQ Φ [(.cell 2 (some 5))] h0.length Q) (argEnv args 0) h0) : S Tryz.prog Φ 101 args h0 Q :=
 S_of_codeW Tryz.func101 rfl rfl cc101 (by kernel_rfl) hl h
def ac102 : ACode :=
 (.seq (.region [⟨(some 4), .alloc 24 5 (.agg [(.int .i64 0), (.str []), (.str []), (.int .i64 0), .nils]), none⟩] (some [0, 1, 4]))
 (.seq (.region [⟨(some 5), .mov (.tmp 0), none⟩,
 ⟨(some 6), .mov (.tmp 1), none⟩,
 ⟨(some 7), .build [(.int .i64 0), (.str []), (.str []), (.int .i64 0), .nils] [(0, 1, (.tmp 5)), (4, 1, (.tmp 6))], none⟩,
 ⟨none, .store 5 (.tmp 4) (.tmp 7), none⟩] (some [4]))
 .ret))
theorem cc102 : compF Tryz.prog [] Tryz.f102 = some ac102 := by kernel_rfl
theorem go102 {args : List AV} {h0 : AHeap} {Q : AEnd → AHeap → Prop} (hl : args.length ≤ 8) (h : HLow h0.length h0 → Ewp Tryz.prog Φ h0.length ac102 (ebodyQ Φ [(.cell 4 (some 5))] h0.length Q) (argEnv args 0) h0) : S Tryz.prog Φ 102 args h0 Q :=
 S_of_codeW Tryz.func102 rfl rfl cc102 (by kernel_rfl) hl h
def ac108 : ACode :=
 (.seq (.region [⟨(some 4), .mov (.val (.int .i64 0)), none⟩] (some [0, 1]))
 (.seq (.seq (.region [⟨(some 6), .mov (.tmp 0), none⟩,
 ⟨(some 7), .len .slice (.tmp 6), none⟩,
 ⟨(some 8), .mov (.val (.int .i64 0)), none⟩] (some [0, 1, 7, 8]))
 (.block 0 (.loop (.seq (.region [⟨(some 9), .bin .num .lss (.tmp 8) (.tmp 7), none⟩] (some [0, 1, 7, 8, 9]))
 (.seq (.cond (.tmp 9) .skip
 (.exit 0))
 (.seq (.block 1 (.seq (.region [⟨(some 10), .mov (.tmp 8), none⟩,
 ⟨(some 5), .mov (.tmp 10), none⟩] (some [0, 1, 5, 7, 8]))
 (.seq (.region [⟨(some 11), .mov (.tmp 1), none⟩,
 ⟨(some 12), .mov (.tmp 0), none⟩,
 ⟨(some 13), .mov (.tmp 5), none⟩,
 ⟨(some 14), .elemAddr 5 (.tmp 12) (.tmp 13), none⟩,
 ⟨(some 15), .load (some 5) (.tmp 14), none⟩,
 ⟨(some 16), .callV (.tmp 11) [(.tmp 15)], none⟩] (some [0, 1, 5, 7, 8, 16]))
 (.cond (.tmp 16) (.seq (.region [⟨(some 17), .mov (.tmp 5), none⟩,
 ⟨(some 4), .mov (.tmp 17), none⟩] (some [4]))
 .ret)
 .skip))))
 (.region [⟨(some 18), .bin .num .add (.tmp 8) (.val (.int .i64 1)), none⟩,
 ⟨(some 8), .mov (.tmp 18), none⟩] (some [0, 1, 7, 8]))))))))
 (.seq (.region [⟨(some 4), .mov (.val (.int .i64 (-1))), none⟩] (some [4]))
 .ret)))
theorem cc108 : compF Tryz.prog [] Tryz.f108 = some ac108 := by kernel_rfl
theorem go108 {args : List AV} {h0 : AHeap} {Q : AEnd → AHeap → Prop} (hl : args.length ≤ 19) (h : HLow h0.length h0 → Ewp Tryz.prog Φ h0.length ac108 (ebodyQ Φ [(.tmp 4)] h0.length Q) (argEnv args 0) h0) : S Tryz.prog Φ 108 args h0 Q :=
 S_of_codeW Tryz.func108 rfl rfl cc108 (by kernel_rfl) hl h
def ac110 : ACode :=
 (.seq (.region [⟨(some 2), .mov (.val (.str [])), none⟩] (some [0]))
 (.seq (.region [⟨(some 4), .build [(.str []), (.str []), (.str []), (.str []), (.str []), (.str [])] [(1, 1, (.val (.str [110, 111, 100, 101]))), (2, 1, (.val (.str [119, 97, 121]))), (3, 1, (.val (.str [97, 114, 101, 97]))), (4, 1, (.val (.str [114, 111, 117, 116, 101]))), (5, 1, (.val (.str [116, 117, 114, 110])))], none⟩,
 ⟨(some 3), .alloc 154 6 (.agg [(.str []), (.str []), (.str []), (.str []), (.str []), (.str [])]), none⟩,
 ⟨none, .store 6 (.tmp 3) (.tmp 4), none⟩] (some [0, 3]))
 (.seq (.seq (.region [⟨(some 5), .mov (.tmp 0), none⟩,
 ⟨(some 6), .bin .num .lss (.tmp 5) (.val (.int .i64 0)), none⟩,
 ⟨(some 7), .mov (.tmp 6), none⟩,
 ⟨(some 8), .mov (.tmp 0), (some (7, false))⟩,
 ⟨(some 9), .bin .num .geq (.tmp 8) (.val (.int .i64 6)), (some (7, false))⟩,
 ⟨(some 10), .pick (.tmp 7) (.val (.bool true)) (.tmp 9), none⟩] (some [0, 3, 10]))
 (.cond (.tmp 10) (.seq (.region [⟨(some 2), .mov (.val (.str [])), none⟩] (some [2]))
 .ret)
 .skip))
 (.seq (.region [⟨(some 11), .mov (.tmp 0), none⟩,
 ⟨(some 12), .cellAddr 6 1 (.tmp 3) (.tmp 11), none⟩,
 ⟨(some 13), .load none (.tmp 12), none⟩,
 ⟨(some 2), .mov (.tmp 13), none⟩] (some [2]))
 .ret))))
theorem cc110 : compF Tryz.prog [] Tryz.f110 = some ac110 := by kernel_rfl
theorem go110 {args : List AV} {h0 : AHeap} {Q : AEnd → AHeap → Prop} (hl : args.length ≤ 14) (h : HLow h0.length h0 → Ewp Tryz.prog Φ h0.length ac110 (ebodyQ Φ [(.tmp 2)] h0.length Q) (argEnv args 0) h0) : S Tryz.prog Φ 110 args h0 Q :=
 S_of_codeW Tryz.func110 rfl rfl cc110 (by kernel_rfl) hl h
def ac111 : ACode :=
 (.seq (.region [⟨(some 2), .mov (.val (.bool false)), none⟩] (some [0]))
 (.seq (.region [⟨(some 3), .mov (.val (.str [])), none⟩] (some [0, 3]))
 (.seq (.seq (.region [⟨(some 6), .mov (.tmp 0), none⟩,
 ⟨(some 7), .len .slice (.tmp 6), none⟩,
 ⟨(some 8), .mov (.val (.int .i64 0)), none⟩] (some [0, 3, 6, 7, 8]))
 (.block 0 (.loop (.seq (.region [⟨(some 9), .bin .num .lss (.tmp 8) (.tmp 7), none⟩] (some [0, 3, 6, 7, 8, 9]))
 (.seq (.cond (.tmp 9) .skip
 (.exit 0))
 (.seq (.block 1 (.seq (.region [⟨(some 10), .elemAddr 2 (.tmp 6) (.tmp 8), none⟩,
 ⟨(some 11), .load (some 2) (.tmp 10), none⟩,
 ⟨(some 5), .alloc 58 2 (.agg [(.str []), (.str [])]), none⟩,
 ⟨none, .store 2 (.tmp 5) (.tmp 11), none⟩] (some [0, 3, 5, 6, 7, 8]))
 (.seq (.seq (.region [⟨(some 12), .fieldAddr 0 (.tmp 5), none⟩,
 ⟨(some 13), .load none (.tmp 12), none⟩,
 ⟨(some 14), .callF 36 [(.tmp 13)], none⟩,
 ⟨(some 15), .un .not (.tmp 14), none⟩,
 ⟨(some 16), .mov (.tmp 15), none⟩,
 ⟨(some 17), .fieldAddr 0 (.tmp 5), (some (16, false))⟩,
 ⟨(some 18), .load none (.tmp 17), (some (16, false))⟩,
 ⟨(some 19), .mov (.tmp 3), (some (16, false))⟩,
 ⟨(some 20), .bin .str .leq (.tmp 18) (.tmp 19), (some (16, false))⟩,
 ⟨(some 21), .pick (.tmp 16) (.val (.bool true)) (.tmp 20), none⟩,
 ⟨(some 22), .mov (.tmp 21), none⟩,
 ⟨(some 23), .fieldAddr 1 (.tmp 5), (some (22, false))⟩,
 ⟨(some 24), .load none (.tmp 23), (some (22, false))⟩,
 ⟨(some 25), .bin .str .eql (.tmp 24) (.val (.str [])), (some (22, false))⟩,
 ⟨(some 26), .pick (.tmp 22) (.val (.bool true)) (.tmp 25), none⟩,
 ⟨(some 27), .mov (.tmp 26), none⟩,
 ⟨(some 28), .fieldAddr 1 (.tmp 5), (some (27, false))⟩,
 ⟨(some 29), .load none (.tmp 28), (some (27, false))⟩,
 ⟨(some 30), .len .str (.tmp 29), (some (27, false))⟩,
 ⟨(some 31), .bin .num .gtr (.tmp 30) (.val (.int .i64 200)), (some (27, false))⟩,
 ⟨(some 32), .pick (.tmp 27) (.val (.bool true)) (.tmp 31), none⟩] (some [0, 5, 6, 7, 8, 32]))
 (.cond (.tmp 32) (.seq (.region [⟨(some 2), .mov (.val (.bool false)), none⟩] (some [2]))
 .ret)
 .skip))
 (.region [⟨(some 33), .fieldAddr 0 (.tmp 5), none⟩,
 ⟨(some 34), .load none (.tmp 33), none⟩,
 ⟨(some 3), .mov (.tmp 34), none⟩] (some [0, 3, 6, 7, 8])))))
 (.region [⟨(some 35), .bin .num .add (.tmp 8) (.val (.int .i64 1)), none⟩,
 ⟨(some 8), .mov (.tmp 35), none⟩] (some [0, 3, 6, 7, 8]))))))))
 (.seq (.region [⟨(some 36), .mov (.tmp 0), none⟩,
 ⟨(some 37), .len .slice (.tmp 36), none⟩,
 ⟨(some 38), .bin .num .leq (.tmp 37) (.val (.int .i64 60)), none⟩,
 ⟨(some 2), .mov (.tmp 38), none⟩] (some [2]))
 .ret))))
theorem cc111 : compF Tryz.prog [] Tryz.f111 = some ac111 := by kernel_rfl
theorem go111 {args : List AV} {h0 : AHeap} {Q : AEnd → AHeap → Prop} (hl : args.length ≤ 39) (h : HLow h0.length h0 → Ewp Tryz.prog Φ h0.length ac111 (ebodyQ Φ [(.tmp 2)] h0.length Q) (argEnv args 0) h0) : S Tryz.prog Φ 111 args h0 Q :=
 S_of_codeW Tryz.func111 rfl rfl cc111 (by kernel_rfl) hl h
def ac112 : ACode :=
 (.seq (.region [⟨(some 2), .mov (.val (.int .i64 0)), none⟩] (some [0]))
 (.seq (.region [⟨(some 3), .build [(.int .i64 0), (.int .i64 0), (.int .i64 0), (.int .i64 0), (.int .i64 0), (.int .i64 0)] [(1, 1, (.val (.int .i64 0))), (2, 1, (.val (.int .i64 2))), (3, 1, (.val (.int .i64 3))), (4, 1, (.val (.int .i64 1))), (5, 1, (.val (.int .i64 3)))], none⟩,
 ⟨(some 4), .mov (.tmp 0), none⟩,
 ⟨(some 5), .arrAt 6 1 none (.tmp 3) (.tmp 4), none⟩,
 ⟨(some 2), .mov (.tmp 5), none⟩] (some [2]))
 .ret))
theorem cc112 : compF Tryz.prog [] Tryz.f112 = some ac112 := by kernel_rfl
theorem go112 {args : List AV} {h0 : AHeap} {Q : AEnd → AHeap → Prop} (hl : args.length ≤ 6) (h : HLow h0.length h0 → Ewp Tryz.prog Φ h0.length ac112 (ebodyQ Φ [(.tmp 2)] h0.length Q) (argEnv args 0) h0) : S Tryz.prog Φ 112 args h0 Q :=
 S_of_codeW Tryz.func112 rfl rfl cc112 (by kernel_rfl) hl h
def ac113 : ACode :=
 (.seq (.region [⟨(some 5), .mov (.val (.bool false)), none⟩] (some [0, 1, 2, 3]))
 (.seq (.region [⟨(some 7), .fieldAddr 1 (.tmp 1), none⟩,
 ⟨(some 8), .load none (.tmp 7), none⟩,
 ⟨(some 9), .bin .num .eql (.tmp 8) (.val (.int .i64 2)), none⟩,
 ⟨(some 10), .mov (.tmp 9), none⟩,
 ⟨(some 11), .mov (.tmp 0), (some (10, true))⟩,
 ⟨(some 12), .load none (.tmp 2), (some (10, true))⟩,
 ⟨(some 13), .bin .str .eql (.tmp 11) (.tmp 12), (some (10, true))⟩,
 ⟨(some 14), .pick (.tmp 10) (.tmp 13) (.val (.bool false)), none⟩,
 ⟨(some 15), .mov (.tmp 14), none⟩,
 ⟨(some 16), .fieldAddr 1 (.tmp 1), (some (15, false))⟩,
 ⟨(some 17), .load none (.tmp 16), (some (15, false))⟩,
 ⟨(some 18), .bin .num .eql (.tmp 17) (.val (.int .i64 3)), (some (15, false))⟩,
 ⟨(some 19), .mov (.tmp 18), (some (15, false))⟩,
 ⟨(some 20), .load none (.tmp 3), (some (19, true))⟩,
 ⟨(some 21), .mov (.tmp 0), (some (19, true))⟩,
 ⟨(some 22), .lookup .str false (.bool false) (.tmp 20) (.tmp 21), (some (19, true))⟩,
 ⟨(some 23), .pick (.tmp 19) (.tmp 22) (.val (.bool false)), (some (15, false))⟩,
 ⟨(some 24), .pick (.tmp 15) (.val (.bool true)) (.tmp 23), none⟩,
 ⟨(some 6), .mov (.tmp 24), none⟩] (some [0, 2, 3, 6]))
 (.seq (.region [⟨(some 25), .load none (.tmp 3), none⟩,
 ⟨(some 26), .mov (.tmp 0), none⟩,
 ⟨(some 27), .mov (.tmp 0), none⟩,
 ⟨none, .mapup .str (.tmp 25) (.tmp 26) (.val (.bool true)), none⟩,
 ⟨none, .store 1 (.tmp 2) (.tmp 27), none⟩] (some [0, 6]))
 (.seq (.region [⟨(some 28), .mov (.tmp 6), none⟩,
 ⟨(some 29), .mov (.tmp 28), none⟩,
 ⟨(some 30), .mov (.tmp 0), (some (29, false))⟩,
 ⟨(some 31), .callF 36 [(.tmp 30)], (some (29, false))⟩,
 ⟨(some 32), .un .not (.tmp 31), (some (29, false))⟩,
 ⟨(some 33), .pick (.tmp 29) (.val (.bool true)) (.tmp 32), none⟩,
 ⟨(some 5), .mov (.tmp 33), none⟩] (some [5]))
 .ret))))
theorem cc113 : compF Tryz.prog [] Tryz.f113 = some ac113 := by kernel_rfl
theorem go113 {args : List AV} {h0 : AHeap} {Q : AEnd → AHeap → Prop} (hl : args.length ≤ 34) (h : HLow h0.length h0 → Ewp Tryz.prog Φ h0.length ac113 (ebodyQ Φ [(.tmp 5)] h0.length Q) (argEnv args 0) h0) : S Tryz.prog Φ 113 args h0 Q :=
 S_of_codeW Tryz.func113 rfl rfl cc113 (by kernel_rfl) hl h
def ac114 : ACode :=
 (.seq (.region [⟨(some 4), .mov (.val (.bool false)), none⟩] (some [0, 1]))
 (.seq (.region [⟨(some 5), .mov (.tmp 0), none⟩,
 ⟨(some 6), .mov (.tmp 1), none⟩,
 ⟨(some 7), .callF 63 [(.tmp 5), (.tmp 6)], none⟩,
 ⟨(some 8), .bin .num .geq (.tmp 7) (.val (.int .i64 0)), none⟩,
 ⟨(some 4), .mov (.tmp 8), none⟩] (some [4]))
 .ret))
theorem cc114 : compF Tryz.prog [] Tryz.f114 = some ac114 := by kernel_rfl
theorem go114 {args : List AV} {h0 : AHeap} {Q : AEnd → AHeap → Prop} (hl : args.length ≤ 9) (h : HLow h0.length h0 → Ewp Tryz.prog Φ h0.length ac114 (ebodyQ Φ [(.tmp 4)] h0.length Q) (argEnv args 0) h0) : S Tryz.prog Φ 114 args h0 Q :=
 S_of_codeW Tryz.func114 rfl rfl cc114 (by kernel_rfl) hl h
def ac115 : ACode :=
 (.seq (.region [⟨(some 1), .fbox 2 (.tmp 0), none⟩,
 ⟨(some 2), .mov (.val (.bool false)), none⟩] (some [1]))
 (.seq (.region [⟨(some 3), .fieldAddr 0 (.tmp 1), none⟩,
 ⟨(some 4), .load none (.tmp 3), none⟩,
 ⟨(some 5), .bin .num .geq (.tmp 4) (.val (.int .i64 0)), none⟩,
 ⟨(some 6), .mov (.tmp 5), none⟩,
 ⟨(some 7), .fieldAddr 0 (.tmp 1), (some (6, true))⟩,
 ⟨(some 8), .load none (.tmp 7), (some (6, true))⟩,
 ⟨(some 9), .bin .num .lss (.tmp 8) (.val (.int .i64 1048576)), (some (6, true))⟩,
 ⟨(some 10), .pick (.tmp 6) (.tmp 9) (.val (.bool false)), none⟩,
 ⟨(some 11), .mov (.tmp 10), none⟩,
 ⟨(some 12), .fieldAddr 1 (.tmp 1), (some (11, true))⟩,
 ⟨(some 13), .load none (.tmp 12), (some (11, true))⟩,
 ⟨(some 14), .bin .num .geq (.tmp 13) (.val (.int .i64 0)), (some (11, true))⟩,
 ⟨(some 15), .pick (.tmp 11) (.tmp 14) (.val (.bool false)), none⟩,
 ⟨(some 16), .mov (.tmp 15), none⟩,
 ⟨(some 17), .fieldAddr 1 (.tmp 1), (some (16, true))⟩,
 ⟨(some 18), .load none (.tmp 17), (some (16, true))⟩,
 ⟨(some 19), .bin .num .lss (.tmp 18) (.val (.int .i64 1048576)), (some (16, true))⟩,
 ⟨(some 20), .pick (.tmp 16) (.tmp 19) (.val (.bool false)), none⟩,
 ⟨(some 2), .mov (.tmp 20), none⟩] (some [2]))
 .ret))
theorem cc115 : compF Tryz.prog [1] Tryz.f115 = some ac115 := by kernel_rfl
theorem go115 {args : List AV} {h0 : AHeap} {Q : AEnd → AHeap → Prop} (hl : args.length ≤ 21) (h : HLow h0.length h0 → Ewp Tryz.prog Φ h0.length ac115 (ebodyQ Φ [(.tmp 2)] h0.length Q) (argEnv args 0) h0) : S Tryz.prog Φ 115 args h0 Q :=
 S_of_codeW Tryz.func115 rfl rfl cc115 (by kernel_rfl) hl h
def ac121 : ACode :=
 (.seq (.region [⟨(some 2), .mov (.val (.bool false)), none⟩] (some [0]))
 (.seq (.region [⟨(some 3), .fslice 1 [(.val (.str [97, 108, 119, 97, 121, 115])), (.val (.str [97, 110, 100])), (.val (.str [110, 111, 116])), (.val (.str [111, 114])), (.val (.str [119, 104, 101, 114, 101]))], none⟩,
 ⟨(some 4), .mov (.tmp 0), none⟩,
 ⟨(some 5), .callF 138 [(.tmp 3), (.tmp 4)], none⟩,
 ⟨(some 2), .mov (.tmp 5), none⟩] (some [2]))
 .ret))
theorem cc121 : compF Tryz.prog [3] Tryz.f121 = some ac121 := by kernel_rfl
theorem go121 {args : List AV} {h0 : AHeap} {Q : AEnd → AHeap → Prop} (hl : args.length ≤ 6) (h : HLow h0.length h0 → Ewp Tryz.prog Φ h0.length ac121 (ebodyQ Φ [(.tmp 2)] h0.length Q) (argEnv args 0) h0) : S Tryz.prog Φ 121 args h0 Q :=
 S_of_codeW Tryz.func121 rfl rfl cc121 (by kernel_rfl) hl h
def ac123 : ACode :=
 (.seq (.region [⟨(some 6), .mov (.val (.str [])), none⟩] (some [0, 1, 2]))
 (.seq (.seq (.region [⟨(some 8), .mov (.tmp 0), none⟩,
 ⟨(some 9), .nilchk (.tmp 8), none⟩,
 ⟨(some 10), .fieldAddr 0 (.tmp 9), none⟩,
 ⟨(some 11), .load none (.tmp 10), none⟩,
 ⟨(some 12), .len .slice (.tmp 11), none⟩,
 ⟨(some 13), .bin .num .eql (.tmp 12) (.val (.int .i64 0)), none⟩,
 ⟨(some 14), .mov (.tmp 13), none⟩,
 ⟨(some 15), .mov (.tmp 0), (some (14, false))⟩,
 ⟨(some 16), .nilchk (.tmp 15), (some (14, false))⟩,
 ⟨(some 17), .fieldAddr 0 (.tmp 16), (some (14, false))⟩,
 ⟨(some 18), .load none (.tmp 17), (some (14, false))⟩,
 ⟨(some 19), .elemAddr 3 (.tmp 18) (.val (.int .i64 0)), (some (14, false))⟩,
 ⟨(some 20), .fieldAddr 0 (.tmp 19), (some (14, false))⟩,
 ⟨(some 21), .load none (.tmp 20), (some (14, false))⟩,
 ⟨(some 22), .mov (.tmp 1), (some (14, false))⟩,
 ⟨(some 23), .bin .num .neq (.tmp 21) (.tmp 22), (some (14, false))⟩,
 ⟨(some 24), .pick (.tmp 14) (.val (.bool true)) (.tmp 23), none⟩] (some [0, 2, 24]))
 (.cond (.tmp 24) (.region [⟨(some 25), .mov (.tmp 0), none⟩,
 ⟨(some 26), .callF 65 [(.tmp 25), (.val (.int .i64 5))], none⟩] (some [0, 2]))
 .skip))
 (.seq (.region [⟨(some 27), .mov (.tmp 0), none⟩,
 ⟨(some 28), .nilchk (.tmp 27), none⟩,
 ⟨(some 29), .fieldAddr 0 (.tmp 28), none⟩,
 ⟨(some 30), .load none (.tmp 29), none⟩,
 ⟨(some 31), .elemAddr 3 (.tmp 30) (.val (.int .i64 0)), none⟩,
 ⟨(some 32), .fieldAddr 1 (.tmp 31), none⟩,
 ⟨(some 33), .load none (.tmp 32), none⟩,
 ⟨(some 7), .mov (.tmp 33), none⟩] (some [0, 2, 7]))
 (.seq (.seq (.region [⟨(some 34), .mov (.tmp 2), none⟩,
 ⟨(some 35), .mov (.tmp 7), none⟩,
 ⟨(some 36), .callV (.tmp 34) [(.tmp 35)], none⟩,
 ⟨(some 37), .un .not (.tmp 36), none⟩] (some [0, 7, 37]))
 (.cond (.tmp 37) (.region [⟨(some 38), .mov (.tmp 0), none⟩,
 ⟨(some 39), .callF 65 [(.tmp 38), (.val (.int .i64 10))], none⟩] (some [0, 7]))
 .skip))
 (.seq (.region [⟨(some 40), .mov (.tmp 0), none⟩,
 ⟨(some 41), .mov (.tmp 0), none⟩,
 ⟨(some 42), .nilchk (.tmp 41), none⟩,
 ⟨(some 43), .fieldAddr 0 (.tmp 42), none⟩,
 ⟨(some 44), .load none (.tmp 43), none⟩,
 ⟨(some 45), .slc 3 (.tmp 44) (some (.val (.int .i64 1))) none, none⟩,
 ⟨(some 46), .nilchk (.tmp 40), none⟩,
 ⟨(some 47), .fieldAddr 0 (.tmp 46), none⟩,
 ⟨none, .store 1 (.tmp 47) (.tmp 45), none⟩] (some [7]))
 (.seq (.region [⟨(some 48), .mov (.tmp 7), none⟩,
 ⟨(some 6), .mov (.tmp 48), none⟩] (some [6]))
 .ret))))))
theorem cc123 : compF Tryz.prog [] Tryz.f123 = some ac123 := by kernel_rfl
theorem go123 {args : List AV} {h0 : AHeap} {Q : AEnd → AHeap → Prop} (hl : args.length ≤ 49) (h : HLow h0.length h0 → Ewp Tryz.prog Φ h0.length ac123 (ebodyQ Φ [(.tmp 6)] h0.length Q) (argEnv args 0) h0) : S Tryz.prog Φ 123 args h0 Q :=
 S_of_codeW Tryz.func123 rfl rfl cc123 (by kernel_rfl) hl h
def ac124 : ACode :=
 (.seq (.region [⟨(some 5), .mov (.val (.bool false)), none⟩] (some [0, 1, 2, 3]))
 (.seq (.region [⟨(some 7), .mov (.tmp 0), none⟩,
 ⟨(some 8), .callF 78 [(.tmp 7)], none⟩,
 ⟨(some 6), .mov (.tmp 8), none⟩,
 ⟨(some 9), .extract (.tmp 6) 0, none⟩,
 ⟨(some 10), .extract (.tmp 6) 1, none⟩,
 ⟨none, .store 1 (.tmp 1) (.tmp 9), none⟩] (some [1, 2, 3]))
 (.seq (.region [⟨(some 11), .load none (.tmp 1), none⟩,
 ⟨(some 12), .load none (.tmp 2), none⟩,
 ⟨(some 13), .bin .num .geq (.tmp 11) (.tmp 12), none⟩,
 ⟨(some 14), .mov (.tmp 13), none⟩,
 ⟨(some 15), .load none (.tmp 1), (some (14, true))⟩,
 ⟨(some 16), .load none (.tmp 3), (some (14, true))⟩,
 ⟨(some 17), .bin .num .leq (.tmp 15) (.tmp 16), (some (14, true))⟩,
 ⟨(some 18), .pick (.tmp 14) (.tmp 17) (.val (.bool false)), none⟩,
 ⟨(some 5), .mov (.tmp 18), none⟩] (some [5]))
 .ret)))
theorem cc124 : compF Tryz.prog [] Tryz.f124 = some ac124 := by kernel_rfl
theorem go124 {args : List AV} {h0 : AHeap} {Q : AEnd → AHeap → Prop} (hl : args.length ≤ 19) (h : HLow h0.length h0 → Ewp Tryz.prog Φ h0.length ac124 (ebodyQ Φ [(.tmp 5)] h0.length Q) (argEnv args 0) h0) : S Tryz.prog Φ 124 args h0 Q :=
 S_of_codeW Tryz.func124 rfl rfl cc124 (by kernel_rfl) hl h
def ac125 : ACode :=
 (.seq (.region [⟨(some 2), .alloc 24 5 (.agg [(.int .i64 0), (.str []), (.str []), (.int .i64 0), .nils]), none⟩] (some [0, 2]))
 (.seq (.block 0 (.seq (.region [⟨(some 6), .mov (.tmp 0), none⟩,
 ⟨(some 7), .callF 64 [(.tmp 6), (.val (.str [110, 111, 116]))], none⟩,
 ⟨(some 5), .mov (.tmp 7), none⟩] (some [0, 2, 5]))
 (.cond (.tmp 5) (.seq (.region [⟨(some 8), .mov (.tmp 0), none⟩,
 ⟨(some 9), .callF 125 [(.tmp 8)], none⟩,
 ⟨(some 10), .fslice 5 [(.tmp 9)], none⟩,
 ⟨(some 11), .callF 102 [(.val (.int .i64 4)), (.tmp 10)], none⟩,
 ⟨none, .store 5 (.tmp 2) (.tmp 11), none⟩] (some [2]))
 .ret)
 (.seq (.region [⟨(some 13), .mov (.tmp 0), none⟩,
 ⟨(some 14), .callF 64 [(.tmp 13), (.val (.str [40]))], none⟩,
 ⟨(some 12), .mov (.tmp 14), none⟩] (some [0, 2, 12]))
 (.cond (.tmp 12) (.seq (.region [⟨(some 15), .mov (.tmp 0), none⟩,
 ⟨(some 16), .callF 66 [(.tmp 15)], none⟩,
 ⟨(some 3), .alloc 24 5 (.agg [(.int .i64 0), (.str []), (.str []), (.int .i64 0), .nils]), none⟩,
 ⟨none, .store 5 (.tmp 3) (.tmp 16), none⟩] (some [0, 2, 3]))
 (.seq (.region [⟨(some 17), .mov (.tmp 0), none⟩,
 ⟨(some 18), .callF 94 [(.tmp 17), (.val (.str [41]))], none⟩] (some [2, 3]))
 (.seq (.region [⟨(some 19), .load (some 5) (.tmp 3), none⟩,
 ⟨none, .store 5 (.tmp 2) (.tmp 19), none⟩] (some [2]))
 .ret)))
 (.seq (.region [⟨(some 21), .mov (.tmp 0), none⟩,
 ⟨(some 22), .callF 64 [(.tmp 21), (.val (.str [97, 108, 119, 97, 121, 115]))], none⟩,
 ⟨(some 20), .mov (.tmp 22), none⟩] (some [0, 2, 20]))
 (.cond (.tmp 20) (.seq (.region [⟨(some 23), .build [(.int .i64 0), (.str []), (.str []), (.int .i64 0), .nils] [(0, 1, (.val (.int .i64 1)))], none⟩,
 ⟨none, .store 5 (.tmp 2) (.tmp 23), none⟩] (some [2]))
 .ret)
 (.seq (.region [⟨(some 25), .mov (.tmp 0), none⟩,
 ⟨(some 26), .nilchk (.tmp 25), none⟩,
 ⟨(some 27), .fieldAddr 0 (.tmp 26), none⟩,
 ⟨(some 28), .load none (.tmp 27), none⟩,
 ⟨(some 29), .len .slice (.tmp 28), none⟩,
 ⟨(some 30), .bin .num .gtr (.tmp 29) (.val (.int .i64 0)), none⟩,
 ⟨(some 31), .mov (.tmp 30), none⟩,
 ⟨(some 32), .mov (.tmp 0), (some (31, true))⟩,
 ⟨(some 33), .nilchk (.tmp 32), (some (31, true))⟩,
 ⟨(some 34), .fieldAddr 0 (.tmp 33), (some (31, true))⟩,
 ⟨(some 35), .load none (.tmp 34), (some (31, true))⟩,
 ⟨(some 36), .elemAddr 3 (.tmp 35) (.val (.int .i64 0)), (some (31, true))⟩,
 ⟨(some 37), .fieldAddr 1 (.tmp 36), (some (31, true))⟩,
 ⟨(some 38), .load none (.tmp 37), (some (31, true))⟩,
 ⟨(some 39), .callF 121 [(.tmp 38)], (some (31, true))⟩,
 ⟨(some 40), .pick (.tmp 31) (.tmp 39) (.val (.bool false)), none⟩,
 ⟨(some 24), .mov (.tmp 40), none⟩] (some [0, 2, 24]))
 (.cond (.tmp 24) (.region [⟨(some 41), .mov (.tmp 0), none⟩,
 ⟨(some 42), .callF 65 [(.tmp 41), (.val (.int .i64 5))], none⟩] (some [0, 2]))
 .skip)))))))))
 (.seq (.region [⟨(some 43), .mov (.tmp 0), none⟩,
 ⟨(some 44), .callF 92 [(.tmp 43)], none⟩,
 ⟨(some 45), .build [(.int .i64 0), (.str []), (.str []), (.int .i64 0), .nils] [(0, 1, (.val (.int .i64 2))), (1, 1, (.tmp 44))], none⟩,
 ⟨(some 4), .alloc 24 5 (.agg [(.int .i64 0), (.str []), (.str []), (.int .i64 0), .nils]), none⟩,
 ⟨none, .store 5 (.tmp 4) (.tmp 45), none⟩] (some [0, 2, 4]))
 (.seq (.block 1 (.seq (.region [⟨(some 47), .mov (.tmp 0), none⟩,
 ⟨(some 48), .callF 64 [(.tmp 47), (.val (.str [61]))], none⟩,
 ⟨(some 46), .mov (.tmp 48), none⟩] (some [0, 2, 4, 46]))
 (.cond (.tmp 46) (.region [⟨(some 49), .mov (.tmp 0), none⟩,
 ⟨(some 50), .callF 123 [(.tmp 49), (.val (.int .i64 3)), (.val (.fn 140 [] []))], none⟩,
 ⟨(some 51), .fieldAddr 0 (.tmp 4), none⟩,
 ⟨none, .store 1 (.tmp 51) (.val (.int .i64 3)), none⟩,
 ⟨(some 52), .fieldAddr 2 (.tmp 4), none⟩,
 ⟨none, .store 1 (.tmp 52) (.tmp 50), none⟩] (some [2, 4]))
 (.seq (.region [⟨(some 54), .mov (.tmp 0), none⟩,
 ⟨(some 55), .callF 64 [(.tmp 54), (.val (.str [62]))], none⟩,
 ⟨(some 53), .mov (.tmp 55), none⟩] (some [0, 2, 4, 53]))
 (.cond (.tmp 53) (.region [⟨(some 56), .mov (.tmp 0), none⟩,
 ⟨(some 57), .callF 95 [(.tmp 56), (.val (.int .i64 0)), (.val (.int .i64 9999999))], none⟩,
 ⟨(some 58), .fieldAddr 0 (.tmp 4), none⟩,
 ⟨none, .store 1 (.tmp 58) (.val (.int .i64 7)), none⟩,
 ⟨(some 59), .fieldAddr 3 (.tmp 4), none⟩,
 ⟨none, .store 1 (.tmp 59) (.tmp 57), none⟩] (some [2, 4]))
 .skip)))))
 (.seq (.region [⟨(some 60), .load (some 5) (.tmp 4), none⟩,
 ⟨none, .store 5 (.tmp 2) (.tmp 60), none⟩] (some [2]))
 .ret)))))
theorem cc125 : compF Tryz.prog [10] Tryz.f125 = some ac125 := by kernel_rfl
theorem go125 {args : List AV} {h0 : AHeap} {Q : AEnd → AHeap → Prop} (hl : args.length ≤ 61) (h : HLow h0.length h0 → Ewp Tryz.prog Φ h0.length ac125 (ebodyQ Φ [(.cell 2 (some 5))] h0.length Q) (argEnv args 0) h0) : S Tryz.prog Φ 125 args h0 Q :=
 S_of_codeW Tryz.func125 rfl rfl cc125 (by kernel_rfl) hl h
def ac138 : ACode :=
 (.seq (.region [⟨(some 4), .mov (.val (.bool false)), none⟩] (some [0, 1]))
 (.seq (.region [⟨(some 5), .mov (.tmp 0), none⟩,
 ⟨(some 6), .mov (.tmp 1), none⟩,
 ⟨(some 7), .callF 146 [(.tmp 5), (.tmp 6)], none⟩,
 ⟨(some 8), .bin .num .geq (.tmp 7) (.val (.int .i64 0)), none⟩,
 ⟨(some 4), .mov (.tmp 8), none⟩] (some [4]))
 .ret))
theorem cc138 : compF Tryz.prog [] Tryz.f138 = some ac138 := by kernel_rfl
theorem go138 {args : List AV} {h0 : AHeap} {Q : AEnd → AHeap → Prop} (hl : args.length ≤ 9) (h : HLow h0.length h0 → Ewp Tryz.prog Φ h0.length ac138 (ebodyQ Φ [(.tmp 4)] h0.length Q) (argEnv args 0) h0) : S Tryz.prog Φ 138 args h0 Q :=
 S_of_codeW Tryz.func138 rfl rfl cc138 (by kernel_rfl) hl h
def ac140 : ACode :=
 (.seq (.region [⟨(some 2), .mov (.val (.bool false)), none⟩] (some [0]))
 (.seq (.region [⟨(some 3), .mov (.tmp 0), none⟩,
 ⟨(some 4), .bin .str .neq (.tmp 3) (.val (.str [])), none⟩,
 ⟨(some 5), .mov (.tmp 4), none⟩,
 ⟨(some 6), .mov (.tmp 0), (some (5, true))⟩,
 ⟨(some 7), .len .str (.tmp 6), (some (5, true))⟩,
 ⟨(some 8), .bin .num .leq (.tmp 7) (.val (.int .i64 200)), (some (5, true))⟩,
 ⟨(some 9), .pick (.tmp 5) (.tmp 8) (.val (.bool false)), none⟩,
 ⟨(some 2), .mov (.tmp 9), none⟩] (some [2]))
 .ret))
theorem cc140 : compF Tryz.prog [] Tryz.f140 = some ac140 := by kernel_rfl
theorem go140 {args : List AV} {h0 : AHeap} {Q : AEnd → AHeap → Prop} (hl : args.length ≤ 10) (h : HLow h0.length h0 → Ewp Tryz.prog Φ h0.length ac140 (ebodyQ Φ [(.tmp 2)] h0.length Q) (argEnv args 0) h0) : S Tryz.prog Φ 140 args h0 Q :=
 S_of_codeW Tryz.func140 rfl rfl cc140 (by kernel_rfl) hl h
def ac146 : ACode :=
 (.seq (.region [⟨(some 4), .mov (.val (.int .i64 0)), none⟩] (some [0, 1]))
 (.seq (.seq (.region [⟨(some 6), .mov (.tmp 0), none⟩,
 ⟨(some 7), .len .slice (.tmp 6), none⟩,
 ⟨(some 8), .mov (.val (.int .i64 0)), none⟩] (some [0, 1, 7, 8]))
 (.block 0 (.loop (.seq (.region [⟨(some 9), .bin .num .lss (.tmp 8) (.tmp 7), none⟩] (some [0, 1, 7, 8, 9]))
 (.seq (.cond (.tmp 9) .skip
 (.exit 0))
 (.seq (.block 1 (.seq (.region [⟨(some 10), .mov (.tmp 8), none⟩,
 ⟨(some 5), .mov (.tmp 10), none⟩] (some [0, 1, 5, 7, 8]))
 (.seq (.region [⟨(some 11), .mov (.tmp 1), none⟩,
 ⟨(some 12), .mov (.tmp 0), none⟩,
 ⟨(some 13), .mov (.tmp 5), none⟩,
 ⟨(some 14), .elemAddr 1 (.tmp 12) (.tmp 13), none⟩,
 ⟨(some 15), .load none (.tmp 14), none⟩,
 ⟨(some 16), .bin .str .eql (.tmp 11) (.tmp 15), none⟩] (some [0, 1, 5, 7, 8, 16]))
 (.cond (.tmp 16) (.seq (.region [⟨(some 17), .mov (.tmp 5), none⟩,
 ⟨(some 4), .mov (.tmp 17), none⟩] (some [4]))
 .ret)
 .skip))))
 (.region [⟨(some 18), .bin .num .add (.tmp 8) (.val (.int .i64 1)), none⟩,
 ⟨(some 8), .mov (.tmp 18), none⟩] (some [0, 1, 7, 8]))))))))
 (.seq (.region [⟨(some 4), .mov (.val (.int .i64 (-1))), none⟩] (some [4]))
 .ret)))
theorem cc146 : compF Tryz.prog [] Tryz.f146 = some ac146 := by kernel_rfl
theorem go146 {args : List AV} {h0 : AHeap} {Q : AEnd → AHeap → Prop} (hl : args.length ≤ 19) (h : HLow h0.length h0 → Ewp Tryz.prog Φ h0.length ac146 (ebodyQ Φ [(.tmp 4)] h0.length Q) (argEnv args 0) h0) : S Tryz.prog Φ 146 args h0 Q :=
 S_of_codeW Tryz.func146 rfl rfl cc146 (by kernel_rfl) hl h
end Go.QZ
end
