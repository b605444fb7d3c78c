import Derived.Test.YtahflobpopclpaaAb17
import Derived.Test.YtahflobpopclpaaProg
import Derived.KernelRfl
namespace Go.Ab
open Go Go.Proofs
namespace Fac
theorem k3 : kindT Try.prog 3 = some false := by kernel_rfl
theorem s3 : sizeT Try.prog 3 = 1 := by kernel_rfl
theorem c3 : Try.prog.cellsOf 3 = 1 := by kernel_rfl
theorem b3 : Try.prog.bytesOf 3 = 8 := by kernel_rfl
theorem e3 : elemT Try.prog 3 = none := by kernel_rfl
theorem a3 : arrT Try.prog 3 = none := by kernel_rfl
theorem z3 : zeroV Try.prog 3 = some [(.int .i64 0)] := by kernel_rfl
theorem y3 : zero1 Try.prog 3 = some (.int .i64 0) := by kernel_rfl
theorem k4 : kindT Try.prog 4 = some false := by kernel_rfl
theorem s4 : sizeT Try.prog 4 = 1 := by kernel_rfl
theorem c4 : Try.prog.cellsOf 4 = 1 := by kernel_rfl
theorem b4 : Try.prog.bytesOf 4 = 1 := by kernel_rfl
theorem e4 : elemT Try.prog 4 = none := by kernel_rfl
theorem a4 : arrT Try.prog 4 = none := by kernel_rfl
theorem z4 : zeroV Try.prog 4 = some [(.bool false)] := by kernel_rfl
theorem y4 : zero1 Try.prog 4 = some (.bool false) := by kernel_rfl
theorem k22 : kindT Try.prog 22 = some false := by kernel_rfl
theorem s22 : sizeT Try.prog 22 = 1 := by kernel_rfl
theorem c22 : Try.prog.cellsOf 22 = 1 := by kernel_rfl
theorem b22 : Try.prog.bytesOf 22 = 24 := by kernel_rfl
theorem e22 : elemT Try.prog 22 = some (23, 1) := by kernel_rfl
theorem z22 : zeroV Try.prog 22 = some [.nil] := by kernel_rfl
theorem y22 : zero1 Try.prog 22 = some .nil := by kernel_rfl
theorem k23 : kindT Try.prog 23 = some false := by kernel_rfl
theorem s23 : sizeT Try.prog 23 = 1 := by kernel_rfl
theorem c23 : Try.prog.cellsOf 23 = 1 := by kernel_rfl
theorem b23 : Try.prog.bytesOf 23 = 24 := by kernel_rfl
theorem e23 : elemT Try.prog 23 = some (3, 1) := by kernel_rfl
theorem z23 : zeroV Try.prog 23 = some [.nil] := by kernel_rfl
theorem y23 : zero1 Try.prog 23 = some .nil := by kernel_rfl
theorem k24 : kindT Try.prog 24 = some false := by kernel_rfl
theorem s24 : sizeT Try.prog 24 = 1 := by kernel_rfl
theorem c24 : Try.prog.cellsOf 24 = 1 := by kernel_rfl
theorem b24 : Try.prog.bytesOf 24 = 24 := by kernel_rfl
theorem e24 : elemT Try.prog 24 = some (4, 1) := by kernel_rfl
theorem z24 : zeroV Try.prog 24 = some [.nil] := by kernel_rfl
theorem y24 : zero1 Try.prog 24 = some .nil := by kernel_rfl
theorem k25 : kindT Try.prog 25 = some false := by kernel_rfl
theorem s25 : sizeT Try.prog 25 = 1 := by kernel_rfl
theorem c25 : Try.prog.cellsOf 25 = 1 := by kernel_rfl
theorem b25 : Try.prog.bytesOf 25 = 24 := by kernel_rfl
theorem e25 : elemT Try.prog 25 = some (40, 3) := by kernel_rfl
theorem z25 : zeroV Try.prog 25 = some [.nil] := by kernel_rfl
theorem y25 : zero1 Try.prog 25 = some .nil := by kernel_rfl
theorem k26 : kindT Try.prog 26 = some false := by kernel_rfl
theorem s26 : sizeT Try.prog 26 = 1 := by kernel_rfl
theorem c26 : Try.prog.cellsOf 26 = 1 := by kernel_rfl
theorem b26 : Try.prog.bytesOf 26 = 24 := by kernel_rfl
theorem e26 : elemT Try.prog 26 = some (43, 2) := by kernel_rfl
theorem z26 : zeroV Try.prog 26 = some [.nil] := by kernel_rfl
theorem y26 : zero1 Try.prog 26 = some .nil := by kernel_rfl
theorem k28 : kindT Try.prog 28 = some true := by kernel_rfl
theorem s28 : sizeT Try.prog 28 = 6 := by kernel_rfl
theorem c28 : Try.prog.cellsOf 28 = 6 := by kernel_rfl
theorem b28 : Try.prog.bytesOf 28 = 128 := by kernel_rfl
theorem e28 : elemT Try.prog 28 = none := by kernel_rfl
theorem a28 : arrT Try.prog 28 = none := by kernel_rfl
theorem z28 : zeroV Try.prog 28 = some [.nil, (.int .i64 0), .nil, .nil, .nil, .nil] := by kernel_rfl
theorem f28_0 : foff Try.prog 28 0 = some 0 := by kernel_rfl
theorem f28_1 : foff Try.prog 28 1 = some 1 := by kernel_rfl
theorem f28_2 : foff Try.prog 28 2 = some 2 := by kernel_rfl
theorem f28_3 : foff Try.prog 28 3 = some 3 := by kernel_rfl
theorem f28_4 : foff Try.prog 28 4 = some 4 := by kernel_rfl
theorem f28_5 : foff Try.prog 28 5 = some 5 := by kernel_rfl
theorem p28 : placesT Try.prog 28 = some [(0, 1), (1, 1), (2, 1), (3, 1), (4, 1), (5, 1)] := by kernel_rfl
theorem k33 : kindT Try.prog 33 = some false := by kernel_rfl
theorem s33 : sizeT Try.prog 33 = 1 := by kernel_rfl
theorem c33 : Try.prog.cellsOf 33 = 1 := by kernel_rfl
theorem b33 : Try.prog.bytesOf 33 = 8 := by kernel_rfl
theorem e33 : elemT Try.prog 33 = none := by kernel_rfl
theorem a33 : arrT Try.prog 33 = none := by kernel_rfl
theorem z33 : zeroV Try.prog 33 = some [(.int .i64 0)] := by kernel_rfl
theorem y33 : zero1 Try.prog 33 = some (.int .i64 0) := by kernel_rfl
theorem k35 : kindT Try.prog 35 = some true := by kernel_rfl
theorem s35 : sizeT Try.prog 35 = 2 := by kernel_rfl
theorem c35 : Try.prog.cellsOf 35 = 2 := by kernel_rfl
theorem b35 : Try.prog.bytesOf 35 = 16 := by kernel_rfl
theorem e35 : elemT Try.prog 35 = none := by kernel_rfl
theorem a35 : arrT Try.prog 35 = none := by kernel_rfl
theorem z35 : zeroV Try.prog 35 = some [(.int .i64 0), (.int .i64 0)] := by kernel_rfl
theorem f35_0 : foff Try.prog 35 0 = some 0 := by kernel_rfl
theorem f35_1 : foff Try.prog 35 1 = some 1 := by kernel_rfl
theorem p35 : placesT Try.prog 35 = some [(0, 1), (1, 1)] := by kernel_rfl
theorem k36 : kindT Try.prog 36 = some false := by kernel_rfl
theorem s36 : sizeT Try.prog 36 = 1 := by kernel_rfl
theorem c36 : Try.prog.cellsOf 36 = 1 := by kernel_rfl
theorem b36 : Try.prog.bytesOf 36 = 8 := by kernel_rfl
theorem e36 : elemT Try.prog 36 = none := by kernel_rfl
theorem a36 : arrT Try.prog 36 = none := by kernel_rfl
theorem z36 : zeroV Try.prog 36 = some [(.int .i64 0)] := by kernel_rfl
theorem y36 : zero1 Try.prog 36 = some (.int .i64 0) := by kernel_rfl
theorem k40 : kindT Try.prog 40 = some true := by kernel_rfl
theorem s40 : sizeT Try.prog 40 = 3 := by kernel_rfl
theorem c40 : Try.prog.cellsOf 40 = 3 := by kernel_rfl
theorem b40 : Try.prog.bytesOf 40 = 40 := by kernel_rfl
theorem e40 : elemT Try.prog 40 = none := by kernel_rfl
theorem a40 : arrT Try.prog 40 = none := by kernel_rfl
theorem z40 : zeroV Try.prog 40 = some [(.int .i64 0), .nil, (.bool false)] := by kernel_rfl
theorem f40_0 : foff Try.prog 40 0 = some 0 := by kernel_rfl
theorem f40_1 : foff Try.prog 40 1 = some 1 := by kernel_rfl
theorem f40_2 : foff Try.prog 40 2 = some 2 := by kernel_rfl
theorem p40 : placesT Try.prog 40 = some [(0, 1), (1, 1), (2, 1)] := by kernel_rfl
theorem k43 : kindT Try.prog 43 = some true := by kernel_rfl
theorem s43 : sizeT Try.prog 43 = 2 := by kernel_rfl
theorem c43 : Try.prog.cellsOf 43 = 2 := by kernel_rfl
theorem b43 : Try.prog.bytesOf 43 = 16 := by kernel_rfl
theorem e43 : elemT Try.prog 43 = none := by kernel_rfl
theorem a43 : arrT Try.prog 43 = none := by kernel_rfl
theorem z43 : zeroV Try.prog 43 = some [(.int .i64 0), (.int .i64 0)] := by kernel_rfl
theorem f43_0 : foff Try.prog 43 0 = some 0 := by kernel_rfl
theorem f43_1 : foff Try.prog 43 1 = some 1 := by kernel_rfl
theorem p43 : placesT Try.prog 43 = some [(0, 1), (1, 1)] := by kernel_rfl
theorem k57 : kindT Try.prog 57 = some false := by kernel_rfl
theorem s57 : sizeT Try.prog 57 = 1 := by kernel_rfl
theorem c57 : Try.prog.cellsOf 57 = 1 := by kernel_rfl
theorem b57 : Try.prog.bytesOf 57 = 24 := by kernel_rfl
theorem e57 : elemT Try.prog 57 = some (67, 2) := by kernel_rfl
theorem z57 : zeroV Try.prog 57 = some [.nil] := by kernel_rfl
theorem y57 : zero1 Try.prog 57 = some .nil := by kernel_rfl
theorem k67 : kindT Try.prog 67 = some true := by kernel_rfl
theorem s67 : sizeT Try.prog 67 = 2 := by kernel_rfl
theorem c67 : Try.prog.cellsOf 67 = 2 := by kernel_rfl
theorem b67 : Try.prog.bytesOf 67 = 16 := by kernel_rfl
theorem e67 : elemT Try.prog 67 = none := by kernel_rfl
theorem a67 : arrT Try.prog 67 = none := by kernel_rfl
theorem z67 : zeroV Try.prog 67 = some [(.int .i64 0), (.int .i64 0)] := by kernel_rfl
theorem f67_0 : foff Try.prog 67 0 = some 0 := by kernel_rfl
theorem f67_1 : foff Try.prog 67 1 = some 1 := by kernel_rfl
theorem p67 : placesT Try.prog 67 = some [(0, 1), (1, 1)] := by kernel_rfl
theorem k69 : kindT Try.prog 69 = some true := by kernel_rfl
theorem s69 : sizeT Try.prog 69 = 7 := by kernel_rfl
theorem c69 : Try.prog.cellsOf 69 = 7 := by kernel_rfl
theorem b69 : Try.prog.bytesOf 69 = 152 := by kernel_rfl
theorem e69 : elemT Try.prog 69 = none := by kernel_rfl
theorem a69 : arrT Try.prog 69 = none := by kernel_rfl
theorem z69 : zeroV Try.prog 69 = some [.nil, (.int .i64 0), .nil, .nil, .nil, .nil, .nil] := by kernel_rfl
theorem f69_0 : foff Try.prog 69 0 = some 0 := by kernel_rfl
theorem f69_1 : foff Try.prog 69 1 = some 6 := by kernel_rfl
theorem p69 : placesT Try.prog 69 = some [(0, 6), (6, 1)] := by kernel_rfl
theorem k75 : kindT Try.prog 75 = some true := by kernel_rfl
theorem s75 : sizeT Try.prog 75 = 2 := by kernel_rfl
theorem c75 : Try.prog.cellsOf 75 = 2 := by kernel_rfl
theorem b75 : Try.prog.bytesOf 75 = 16 := by kernel_rfl
theorem e75 : elemT Try.prog 75 = none := by kernel_rfl
theorem a75 : arrT Try.prog 75 = some (2, 1) := by kernel_rfl
theorem p75 : placesT Try.prog 75 = some [(0, 1), (1, 1)] := by kernel_rfl
theorem z75 : zeroV Try.prog 75 = some [(.int .i64 0), (.int .i64 0)] := by kernel_rfl
theorem k85 : kindT Try.prog 85 = some true := by kernel_rfl
theorem s85 : sizeT Try.prog 85 = 6 := by kernel_rfl
theorem c85 : Try.prog.cellsOf 85 = 6 := by kernel_rfl
theorem b85 : Try.prog.bytesOf 85 = 48 := by kernel_rfl
theorem e85 : elemT Try.prog 85 = none := by kernel_rfl
theorem a85 : arrT Try.prog 85 = some (6, 1) := by kernel_rfl
theorem p85 : placesT Try.prog 85 = some [(0, 1), (1, 1), (2, 1), (3, 1), (4, 1), (5, 1)] := by kernel_rfl
theorem z85 : zeroV Try.prog 85 = some [(.int .i64 0), (.int .i64 0), (.int .i64 0), (.int .i64 0), (.int .i64 0), (.int .i64 0)] := by kernel_rfl
theorem k87 : kindT Try.prog 87 = some true := by kernel_rfl
theorem s87 : sizeT Try.prog 87 = 8 := by kernel_rfl
theorem c87 : Try.prog.cellsOf 87 = 8 := by kernel_rfl
theorem b87 : Try.prog.bytesOf 87 = 64 := by kernel_rfl
theorem e87 : elemT Try.prog 87 = none := by kernel_rfl
theorem a87 : arrT Try.prog 87 = none := by kernel_rfl
theorem z87 : zeroV Try.prog 87 = some [(.int .i64 0), (.int .i64 0), (.int .i64 0), (.int .i64 0), (.int .i64 0), (.int .i64 0), (.int .i64 0), (.int .i64 0)] := by kernel_rfl
theorem f87_0 : foff Try.prog 87 0 = some 0 := by kernel_rfl
theorem f87_1 : foff Try.prog 87 1 = some 6 := by kernel_rfl
theorem p87 : placesT Try.prog 87 = some [(0, 6), (6, 2)] := by kernel_rfl
theorem k89 : kindT Try.prog 89 = some false := by kernel_rfl
theorem s89 : sizeT Try.prog 89 = 1 := by kernel_rfl
theorem c89 : Try.prog.cellsOf 89 = 1 := by kernel_rfl
theorem b89 : Try.prog.bytesOf 89 = 8 := by kernel_rfl
theorem e89 : elemT Try.prog 89 = none := by kernel_rfl
theorem a89 : arrT Try.prog 89 = none := by kernel_rfl
theorem z89 : zeroV Try.prog 89 = some [.nilptr] := by kernel_rfl
theorem y89 : zero1 Try.prog 89 = some .nilptr := by kernel_rfl
theorem k90 : kindT Try.prog 90 = some false := by kernel_rfl
theorem s90 : sizeT Try.prog 90 = 1 := by kernel_rfl
theorem c90 : Try.prog.cellsOf 90 = 1 := by kernel_rfl
theorem b90 : Try.prog.bytesOf 90 = 24 := by kernel_rfl
theorem e90 : elemT Try.prog 90 = some (85, 6) := by kernel_rfl
theorem z90 : zeroV Try.prog 90 = some [.nil] := by kernel_rfl
theorem y90 : zero1 Try.prog 90 = some .nil := by kernel_rfl
theorem k92 : kindT Try.prog 92 = some true := by kernel_rfl
theorem s92 : sizeT Try.prog 92 = 1 := by kernel_rfl
theorem c92 : Try.prog.cellsOf 92 = 1 := by kernel_rfl
theorem b92 : Try.prog.bytesOf 92 = 24 := by kernel_rfl
theorem e92 : elemT Try.prog 92 = none := by kernel_rfl
theorem a92 : arrT Try.prog 92 = none := by kernel_rfl
theorem z92 : zeroV Try.prog 92 = some [.nil] := by kernel_rfl
theorem f92_0 : foff Try.prog 92 0 = some 0 := by kernel_rfl
theorem p92 : placesT Try.prog 92 = some [(0, 1)] := by kernel_rfl
theorem k105 : kindT Try.prog 105 = some true := by kernel_rfl
theorem s105 : sizeT Try.prog 105 = 5 := by kernel_rfl
theorem c105 : Try.prog.cellsOf 105 = 5 := by kernel_rfl
theorem b105 : Try.prog.bytesOf 105 = 40 := by kernel_rfl
theorem e105 : elemT Try.prog 105 = none := by kernel_rfl
theorem a105 : arrT Try.prog 105 = some (5, 1) := by kernel_rfl
theorem p105 : placesT Try.prog 105 = some [(0, 1), (1, 1), (2, 1), (3, 1), (4, 1)] := by kernel_rfl
theorem z105 : zeroV Try.prog 105 = some [.nilfn, .nilfn, .nilfn, .nilfn, .nilfn] := by kernel_rfl
theorem k114 : kindT Try.prog 114 = some true := by kernel_rfl
theorem s114 : sizeT Try.prog 114 = 1 := by kernel_rfl
theorem c114 : Try.prog.cellsOf 114 = 1 := by kernel_rfl
theorem b114 : Try.prog.bytesOf 114 = 8 := by kernel_rfl
theorem e114 : elemT Try.prog 114 = none := by kernel_rfl
theorem a114 : arrT Try.prog 114 = none := by kernel_rfl
theorem z114 : zeroV Try.prog 114 = some [(.int .i64 0)] := by kernel_rfl
theorem f114_0 : foff Try.prog 114 0 = some 0 := by kernel_rfl
theorem p114 : placesT Try.prog 114 = some [(0, 1)] := by kernel_rfl
attribute [go_sem] k3 s3 c3 b3 e3 a3 z3 y3 k4 s4 c4 b4 e4 a4 z4 y4 k22 s22 c22 b22 e22 z22 y22 k23 s23 c23 b23 e23 z23 y23 k24 s24 c24 b24 e24 z24 y24 k25 s25 c25 b25 e25 z25 y25 k26 s26 c26 b26 e26 z26 y26 k28 s28 c28 b28 e28 a28 z28 f28_0 f28_1 f28_2 f28_3 f28_4 f28_5 p28 k33 s33 c33 b33 e33 a33 z33 y33 k35 s35 c35 b35 e35 a35 z35 f35_0 f35_1 p35 k36 s36 c36 b36 e36 a36 z36 y36 k40 s40 c40 b40 e40 a40 z40 f40_0 f40_1 f40_2 p40 k43 s43 c43 b43 e43 a43 z43 f43_0 f43_1 p43 k57 s57 c57 b57 e57 z57 y57 k67 s67 c67 b67 e67 a67 z67 f67_0 f67_1 p67 k69 s69 c69 b69 e69 a69 z69 f69_0 f69_1 p69 k75 s75 c75 b75 e75 a75 p75 z75 k85 s85 c85 b85 e85 a85 p85 z85 k87 s87 c87 b87 e87 a87 z87 f87_0 f87_1 p87 k89 s89 c89 b89 e89 a89 z89 y89 k90 s90 c90 b90 e90 z90 y90 k92 s92 c92 b92 e92 a92 z92 f92_0 p92 k105 s105 c105 b105 e105 a105 p105 z105 k114 s114 c114 b114 e114 a114 z114 f114_0 p114
end Fac
end Go.Ab
