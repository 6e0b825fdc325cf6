/- The types of this program, as the rules want them. -/
import Derived.Test.YtbhgpnbfdjoglaaGreatChecked
import Derived.Test.YtbhgpnbfdjoglaaGreatFloat
import Derived.Test.YtbhgpnbfdjoglaaGreatMaps
section
namespace Go.Proofs.YtbhgpnbfdjoglaaGreat
theorem prog_mixed : Tryz.prog.follows .mixedOrders = true := by kernel_rfl
instance : MethodOf Tryz.prog 135 "bogworks/drain.joins" 135 := ⟨fun _ _ => by kernel_rfl⟩
instance : TySz Tryz.prog 2 false 1 8 := ⟨by kernel_rfl, by kernel_rfl⟩
instance : ConcTy Tryz.prog 2 := ⟨by kernel_rfl⟩
instance : TyZero Tryz.prog 2 [.int .i64 0] := ⟨by kernel_rfl⟩
instance : IntTy Tryz.prog 2 .i64 := ⟨Tryz.underlying2⟩
instance : TySz Tryz.prog 3 false 1 8 := ⟨by kernel_rfl, by kernel_rfl⟩
instance : ConcTy Tryz.prog 3 := ⟨by kernel_rfl⟩
instance : TyZero Tryz.prog 3 [.int .i64 0] := ⟨by kernel_rfl⟩
instance : IntTy Tryz.prog 3 .i64 := ⟨Tryz.underlying3⟩
instance : TySz Tryz.prog 4 false 1 1 := ⟨by kernel_rfl, by kernel_rfl⟩
instance : ConcTy Tryz.prog 4 := ⟨by kernel_rfl⟩
instance : TyZero Tryz.prog 4 [.bool false] := ⟨by kernel_rfl⟩
instance : BoolTy Tryz.prog 4 := ⟨Tryz.underlying4⟩
instance : TySz Tryz.prog 5 false 1 1 := ⟨by kernel_rfl, by kernel_rfl⟩
instance : ConcTy Tryz.prog 5 := ⟨by kernel_rfl⟩
instance : TyZero Tryz.prog 5 [.int .u8 0] := ⟨by kernel_rfl⟩
instance : IntTy Tryz.prog 5 .u8 := ⟨Tryz.underlying5⟩
instance : TySz Tryz.prog 6 false 1 1 := ⟨by kernel_rfl, by kernel_rfl⟩
instance : ConcTy Tryz.prog 6 := ⟨by kernel_rfl⟩
instance : TyZero Tryz.prog 6 [.int .u8 0] := ⟨by kernel_rfl⟩
instance : IntTy Tryz.prog 6 .u8 := ⟨Tryz.underlying6⟩
instance : TySz Tryz.prog 8 true 4 24 := ⟨by kernel_rfl, by kernel_rfl⟩
instance : ConcTy Tryz.prog 8 := ⟨by kernel_rfl⟩
instance : TyZero Tryz.prog 8 [.int .i64 0, .int .i64 0, .bool false, .int .u8 0] := ⟨by kernel_rfl⟩
instance : FieldOff Tryz.prog 8 0 0 2 := ⟨by kernel_rfl⟩
instance : FieldOff Tryz.prog 8 1 1 3 := ⟨by kernel_rfl⟩
instance : FieldOff Tryz.prog 8 2 2 4 := ⟨by kernel_rfl⟩
instance : FieldOff Tryz.prog 8 3 3 6 := ⟨by kernel_rfl⟩
instance : BuildTy Tryz.prog 8 (fun i => (#[(0, 1), (1, 1), (2, 1), (3, 1)] : Array (Nat × Nat))[i]?) [.int .i64 0, .int .i64 0, .bool false, .int .u8 0] := ⟨fun _ => by kernel_rfl⟩
instance : TySz Tryz.prog 9 false 1 16 := ⟨by kernel_rfl, by kernel_rfl⟩
instance : ConcTy Tryz.prog 9 := ⟨by kernel_rfl⟩
instance : TyZero Tryz.prog 9 [.string .empty] := ⟨by kernel_rfl⟩
instance : TySz Tryz.prog 10 false 1 16 := ⟨by kernel_rfl, by kernel_rfl⟩
instance : ConcTy Tryz.prog 10 := ⟨by kernel_rfl⟩
instance : TyZero Tryz.prog 10 [.string .empty] := ⟨by kernel_rfl⟩
instance : TySz Tryz.prog 11 false 1 16 := ⟨by kernel_rfl, by kernel_rfl⟩
instance : ConcTy Tryz.prog 11 := ⟨by kernel_rfl⟩
instance : TyZero Tryz.prog 11 [.string .empty] := ⟨by kernel_rfl⟩
instance : TySz Tryz.prog 12 false 1 8 := ⟨by kernel_rfl, by kernel_rfl⟩
instance : ConcTy Tryz.prog 12 := ⟨by kernel_rfl⟩
instance : TyZero Tryz.prog 12 [.int .u64 0] := ⟨by kernel_rfl⟩
instance : IntTy Tryz.prog 12 .u64 := ⟨Tryz.underlying12⟩
instance : TySz Tryz.prog 14 true 2 24 := ⟨by kernel_rfl, by kernel_rfl⟩
instance : ConcTy Tryz.prog 14 := ⟨by kernel_rfl⟩
instance : TyZero Tryz.prog 14 [.string .empty, .int .u64 0] := ⟨by kernel_rfl⟩
instance : FieldOff Tryz.prog 14 0 0 9 := ⟨by kernel_rfl⟩
instance : FieldOff Tryz.prog 14 1 1 12 := ⟨by kernel_rfl⟩
instance : BuildTy Tryz.prog 14 (fun i => (#[(0, 1), (1, 1)] : Array (Nat × Nat))[i]?) [.string .empty, .int .u64 0] := ⟨fun _ => by kernel_rfl⟩
instance : TySz Tryz.prog 15 false 1 8 := ⟨by kernel_rfl, by kernel_rfl⟩
instance : ConcTy Tryz.prog 15 := ⟨by kernel_rfl⟩
instance : TyZero Tryz.prog 15 [.pointer none] := ⟨by kernel_rfl⟩
instance : TySz Tryz.prog 16 false 1 8 := ⟨by kernel_rfl, by kernel_rfl⟩
instance : ConcTy Tryz.prog 16 := ⟨by kernel_rfl⟩
instance : TyZero Tryz.prog 16 [.pointer none] := ⟨by kernel_rfl⟩
instance : TySz Tryz.prog 17 false 1 8 := ⟨by kernel_rfl, by kernel_rfl⟩
instance : ConcTy Tryz.prog 17 := ⟨by kernel_rfl⟩
instance : TyZero Tryz.prog 17 [.pointer none] := ⟨by kernel_rfl⟩
instance : TySz Tryz.prog 19 true 1 8 := ⟨by kernel_rfl, by kernel_rfl⟩
instance : ConcTy Tryz.prog 19 := ⟨by kernel_rfl⟩
instance : TyZero Tryz.prog 19 [.pointer none] := ⟨by kernel_rfl⟩
instance : FieldOff Tryz.prog 19 0 0 17 := ⟨by kernel_rfl⟩
instance : BuildTy Tryz.prog 19 (fun i => (#[(0, 1)] : Array (Nat × Nat))[i]?) [.pointer none] := ⟨fun _ => by kernel_rfl⟩
instance : TySz Tryz.prog 20 false 1 16 := ⟨by kernel_rfl, by kernel_rfl⟩
instance : TyZero Tryz.prog 20 [.nilIface] := ⟨by kernel_rfl⟩
instance : IfaceTy Tryz.prog 20 := ⟨by kernel_rfl⟩
instance : TySz Tryz.prog 22 false 1 24 := ⟨by kernel_rfl, by kernel_rfl⟩
instance : ConcTy Tryz.prog 22 := ⟨by kernel_rfl⟩
instance : TyZero Tryz.prog 22 [.slice none 0 0] := ⟨by kernel_rfl⟩
instance : SliceOf Tryz.prog 22 104 := ⟨Tryz.underlying22⟩
instance : TySz Tryz.prog 23 false 1 24 := ⟨by kernel_rfl, by kernel_rfl⟩
instance : ConcTy Tryz.prog 23 := ⟨by kernel_rfl⟩
instance : TyZero Tryz.prog 23 [.slice none 0 0] := ⟨by kernel_rfl⟩
instance : SliceOf Tryz.prog 23 45 := ⟨Tryz.underlying23⟩
instance : TySz Tryz.prog 24 false 1 24 := ⟨by kernel_rfl, by kernel_rfl⟩
instance : ConcTy Tryz.prog 24 := ⟨by kernel_rfl⟩
instance : TyZero Tryz.prog 24 [.slice none 0 0] := ⟨by kernel_rfl⟩
instance : SliceOf Tryz.prog 24 80 := ⟨Tryz.underlying24⟩
instance : TySz Tryz.prog 26 true 4 96 := ⟨by kernel_rfl, by kernel_rfl⟩
instance : ConcTy Tryz.prog 26 := ⟨by kernel_rfl⟩
instance : TyZero Tryz.prog 26 [.slice none 0 0, .slice none 0 0, .slice none 0 0, .slice none 0 0] := ⟨by kernel_rfl⟩
instance : FieldOff Tryz.prog 26 0 0 22 := ⟨by kernel_rfl⟩
instance : FieldOff Tryz.prog 26 1 1 23 := ⟨by kernel_rfl⟩
instance : FieldOff Tryz.prog 26 2 2 24 := ⟨by kernel_rfl⟩
instance : FieldOff Tryz.prog 26 3 3 23 := ⟨by kernel_rfl⟩
instance : BuildTy Tryz.prog 26 (fun i => (#[(0, 1), (1, 1), (2, 1), (3, 1)] : Array (Nat × Nat))[i]?) [.slice none 0 0, .slice none 0 0, .slice none 0 0, .slice none 0 0] := ⟨fun _ => by kernel_rfl⟩
instance : TySz Tryz.prog 29 false 1 8 := ⟨by kernel_rfl, by kernel_rfl⟩
instance : ConcTy Tryz.prog 29 := ⟨by kernel_rfl⟩
instance : TyZero Tryz.prog 29 [.int .i64 0] := ⟨by kernel_rfl⟩
instance : IntTy Tryz.prog 29 .i64 := ⟨Tryz.underlying29⟩
instance : TySz Tryz.prog 33 true 2 16 := ⟨by kernel_rfl, by kernel_rfl⟩
instance : ConcTy Tryz.prog 33 := ⟨by kernel_rfl⟩
instance : TyZero Tryz.prog 33 [.int .i64 0, .int .i64 0] := ⟨by kernel_rfl⟩
instance : FieldOff Tryz.prog 33 0 0 3 := ⟨by kernel_rfl⟩
instance : FieldOff Tryz.prog 33 1 1 3 := ⟨by kernel_rfl⟩
instance : BuildTy Tryz.prog 33 (fun i => (#[(0, 1), (1, 1)] : Array (Nat × Nat))[i]?) [.int .i64 0, .int .i64 0] := ⟨fun _ => by kernel_rfl⟩
instance : TySz Tryz.prog 45 true 2 16 := ⟨by kernel_rfl, by kernel_rfl⟩
instance : ConcTy Tryz.prog 45 := ⟨by kernel_rfl⟩
instance : TyZero Tryz.prog 45 [.int .i64 0, .int .i64 0] := ⟨by kernel_rfl⟩
instance : FieldOff Tryz.prog 45 0 0 3 := ⟨by kernel_rfl⟩
instance : FieldOff Tryz.prog 45 1 1 3 := ⟨by kernel_rfl⟩
instance : BuildTy Tryz.prog 45 (fun i => (#[(0, 1), (1, 1)] : Array (Nat × Nat))[i]?) [.int .i64 0, .int .i64 0] := ⟨fun _ => by kernel_rfl⟩
instance : TySz Tryz.prog 49 false 1 8 := ⟨by kernel_rfl, by kernel_rfl⟩
instance : ConcTy Tryz.prog 49 := ⟨by kernel_rfl⟩
instance : TyZero Tryz.prog 49 [.pointer none] := ⟨by kernel_rfl⟩
instance : TySz Tryz.prog 50 false 1 8 := ⟨by kernel_rfl, by kernel_rfl⟩
instance : ConcTy Tryz.prog 50 := ⟨by kernel_rfl⟩
instance : TyZero Tryz.prog 50 [.pointer none] := ⟨by kernel_rfl⟩
instance : TySz Tryz.prog 52 false 1 8 := ⟨by kernel_rfl, by kernel_rfl⟩
instance : ConcTy Tryz.prog 52 := ⟨by kernel_rfl⟩
instance : TyZero Tryz.prog 52 [.nilFunc] := ⟨by kernel_rfl⟩
instance : TySz Tryz.prog 53 false 1 8 := ⟨by kernel_rfl, by kernel_rfl⟩
instance : ConcTy Tryz.prog 53 := ⟨by kernel_rfl⟩
instance : TyZero Tryz.prog 53 [.nilFunc] := ⟨by kernel_rfl⟩
instance : TySz Tryz.prog 55 false 1 24 := ⟨by kernel_rfl, by kernel_rfl⟩
instance : ConcTy Tryz.prog 55 := ⟨by kernel_rfl⟩
instance : TyZero Tryz.prog 55 [.slice none 0 0] := ⟨by kernel_rfl⟩
instance : SliceOf Tryz.prog 55 3 := ⟨Tryz.underlying55⟩
instance : TySz Tryz.prog 56 false 1 24 := ⟨by kernel_rfl, by kernel_rfl⟩
instance : ConcTy Tryz.prog 56 := ⟨by kernel_rfl⟩
instance : TyZero Tryz.prog 56 [.slice none 0 0] := ⟨by kernel_rfl⟩
instance : SliceOf Tryz.prog 56 3 := ⟨Tryz.underlying56⟩
instance : TySz Tryz.prog 57 false 1 8 := ⟨by kernel_rfl, by kernel_rfl⟩
instance : ConcTy Tryz.prog 57 := ⟨by kernel_rfl⟩
instance : TyZero Tryz.prog 57 [.nilFunc] := ⟨by kernel_rfl⟩
instance : TySz Tryz.prog 58 false 1 24 := ⟨by kernel_rfl, by kernel_rfl⟩
instance : ConcTy Tryz.prog 58 := ⟨by kernel_rfl⟩
instance : TyZero Tryz.prog 58 [.slice none 0 0] := ⟨by kernel_rfl⟩
instance : SliceOf Tryz.prog 58 55 := ⟨Tryz.underlying58⟩
instance : TySz Tryz.prog 65 false 1 8 := ⟨by kernel_rfl, by kernel_rfl⟩
instance : ConcTy Tryz.prog 65 := ⟨by kernel_rfl⟩
instance : TyZero Tryz.prog 65 [.nilFunc] := ⟨by kernel_rfl⟩
instance : TySz Tryz.prog 67 false 1 24 := ⟨by kernel_rfl, by kernel_rfl⟩
instance : ConcTy Tryz.prog 67 := ⟨by kernel_rfl⟩
instance : TyZero Tryz.prog 67 [.slice none 0 0] := ⟨by kernel_rfl⟩
instance : SliceOf Tryz.prog 67 33 := ⟨Tryz.underlying67⟩
instance : TySz Tryz.prog 69 false 1 8 := ⟨by kernel_rfl, by kernel_rfl⟩
instance : ConcTy Tryz.prog 69 := ⟨by kernel_rfl⟩
instance : TyZero Tryz.prog 69 [.map none] := ⟨by kernel_rfl⟩
instance : MapTy Tryz.prog 69 88 56 := ⟨Tryz.underlying69⟩
instance : TySz Tryz.prog 71 true 5 104 := ⟨by kernel_rfl, by kernel_rfl⟩
instance : ConcTy Tryz.prog 71 := ⟨by kernel_rfl⟩
instance : TyZero Tryz.prog 71 [.slice none 0 0, .slice none 0 0, .slice none 0 0, .slice none 0 0, .map none] := ⟨by kernel_rfl⟩
instance : FieldOff Tryz.prog 71 0 0 26 := ⟨by kernel_rfl⟩
instance : FieldOff Tryz.prog 71 1 4 69 := ⟨by kernel_rfl⟩
instance : BuildTy Tryz.prog 71 (fun i => (#[(0, 4), (4, 1)] : Array (Nat × Nat))[i]?) [.slice none 0 0, .slice none 0 0, .slice none 0 0, .slice none 0 0, .map none] := ⟨fun _ => by kernel_rfl⟩
instance : TySz Tryz.prog 72 false 1 8 := ⟨by kernel_rfl, by kernel_rfl⟩
instance : ConcTy Tryz.prog 72 := ⟨by kernel_rfl⟩
instance : TyZero Tryz.prog 72 [.nilFunc] := ⟨by kernel_rfl⟩
instance : TySz Tryz.prog 77 false 1 24 := ⟨by kernel_rfl, by kernel_rfl⟩
instance : ConcTy Tryz.prog 77 := ⟨by kernel_rfl⟩
instance : TyZero Tryz.prog 77 [.slice none 0 0] := ⟨by kernel_rfl⟩
instance : SliceOf Tryz.prog 77 83 := ⟨Tryz.underlying77⟩
instance : TySz Tryz.prog 80 true 3 24 := ⟨by kernel_rfl, by kernel_rfl⟩
instance : ConcTy Tryz.prog 80 := ⟨by kernel_rfl⟩
instance : TyZero Tryz.prog 80 [.int .i64 0, .int .i64 0, .int .i64 0] := ⟨by kernel_rfl⟩
instance : FieldOff Tryz.prog 80 0 0 3 := ⟨by kernel_rfl⟩
instance : FieldOff Tryz.prog 80 1 1 3 := ⟨by kernel_rfl⟩
instance : FieldOff Tryz.prog 80 2 2 3 := ⟨by kernel_rfl⟩
instance : BuildTy Tryz.prog 80 (fun i => (#[(0, 1), (1, 1), (2, 1)] : Array (Nat × Nat))[i]?) [.int .i64 0, .int .i64 0, .int .i64 0] := ⟨fun _ => by kernel_rfl⟩
instance : TySz Tryz.prog 83 true 5 40 := ⟨by kernel_rfl, by kernel_rfl⟩
instance : ConcTy Tryz.prog 83 := ⟨by kernel_rfl⟩
instance : TyZero Tryz.prog 83 [.int .i64 0, .int .i64 0, .int .i64 0, .int .i64 0, .int .i64 0] := ⟨by kernel_rfl⟩
instance : ArrayOf Tryz.prog 83 5 3 := ⟨Tryz.underlying83⟩
instance : BuildTy Tryz.prog 83 (fun i => some (i * 1, 1)) [.int .i64 0, .int .i64 0, .int .i64 0, .int .i64 0, .int .i64 0] := ⟨fun _ => by kernel_rfl⟩
instance : TySz Tryz.prog 86 false 1 8 := ⟨by kernel_rfl, by kernel_rfl⟩
instance : ConcTy Tryz.prog 86 := ⟨by kernel_rfl⟩
instance : TyZero Tryz.prog 86 [.int .u64 0] := ⟨by kernel_rfl⟩
instance : IntTy Tryz.prog 86 .u64 := ⟨Tryz.underlying86⟩
instance : TySz Tryz.prog 88 true 8 64 := ⟨by kernel_rfl, by kernel_rfl⟩
instance : ConcTy Tryz.prog 88 := ⟨by kernel_rfl⟩
instance : TyZero Tryz.prog 88 [.int .i64 0, .int .i64 0, .int .i64 0, .int .i64 0, .int .i64 0, .int .u64 0, .int .i64 0, .int .i64 0] := ⟨by kernel_rfl⟩
instance : FieldOff Tryz.prog 88 0 0 83 := ⟨by kernel_rfl⟩
instance : FieldOff Tryz.prog 88 1 5 86 := ⟨by kernel_rfl⟩
instance : FieldOff Tryz.prog 88 2 6 45 := ⟨by kernel_rfl⟩
instance : BuildTy Tryz.prog 88 (fun i => (#[(0, 5), (5, 1), (6, 2)] : Array (Nat × Nat))[i]?) [.int .i64 0, .int .i64 0, .int .i64 0, .int .i64 0, .int .i64 0, .int .u64 0, .int .i64 0, .int .i64 0] := ⟨fun _ => by kernel_rfl⟩
instance : TySz Tryz.prog 92 false 1 24 := ⟨by kernel_rfl, by kernel_rfl⟩
instance : ConcTy Tryz.prog 92 := ⟨by kernel_rfl⟩
instance : TyZero Tryz.prog 92 [.slice none 0 0] := ⟨by kernel_rfl⟩
instance : SliceOf Tryz.prog 92 86 := ⟨Tryz.underlying92⟩
instance : TySz Tryz.prog 95 false 1 8 := ⟨by kernel_rfl, by kernel_rfl⟩
instance : ConcTy Tryz.prog 95 := ⟨by kernel_rfl⟩
instance : TyZero Tryz.prog 95 [.nilFunc] := ⟨by kernel_rfl⟩
instance : TySz Tryz.prog 96 false 1 8 := ⟨by kernel_rfl, by kernel_rfl⟩
instance : ConcTy Tryz.prog 96 := ⟨by kernel_rfl⟩
instance : TyZero Tryz.prog 96 [.nilFunc] := ⟨by kernel_rfl⟩
instance : TySz Tryz.prog 98 true 1 8 := ⟨by kernel_rfl, by kernel_rfl⟩
instance : ConcTy Tryz.prog 98 := ⟨by kernel_rfl⟩
instance : TyZero Tryz.prog 98 [.nilFunc] := ⟨by kernel_rfl⟩
instance : FieldOff Tryz.prog 98 0 0 96 := ⟨by kernel_rfl⟩
instance : BuildTy Tryz.prog 98 (fun i => (#[(0, 1)] : Array (Nat × Nat))[i]?) [.nilFunc] := ⟨fun _ => by kernel_rfl⟩
instance : TySz Tryz.prog 104 true 4 32 := ⟨by kernel_rfl, by kernel_rfl⟩
instance : ConcTy Tryz.prog 104 := ⟨by kernel_rfl⟩
instance : TyZero Tryz.prog 104 [.int .i64 0, .int .i64 0, .int .i64 0, .int .i64 0] := ⟨by kernel_rfl⟩
instance : FieldOff Tryz.prog 104 0 0 33 := ⟨by kernel_rfl⟩
instance : FieldOff Tryz.prog 104 1 2 33 := ⟨by kernel_rfl⟩
instance : BuildTy Tryz.prog 104 (fun i => (#[(0, 2), (2, 2)] : Array (Nat × Nat))[i]?) [.int .i64 0, .int .i64 0, .int .i64 0, .int .i64 0] := ⟨fun _ => by kernel_rfl⟩
instance : TySz Tryz.prog 107 true 1 8 := ⟨by kernel_rfl, by kernel_rfl⟩
instance : ConcTy Tryz.prog 107 := ⟨by kernel_rfl⟩
instance : TyZero Tryz.prog 107 [.int .i64 0] := ⟨by kernel_rfl⟩
instance : FieldOff Tryz.prog 107 0 0 29 := ⟨by kernel_rfl⟩
instance : BuildTy Tryz.prog 107 (fun i => (#[(0, 1)] : Array (Nat × Nat))[i]?) [.int .i64 0] := ⟨fun _ => by kernel_rfl⟩
instance : TySz Tryz.prog 114 false 1 8 := ⟨by kernel_rfl, by kernel_rfl⟩
instance : ConcTy Tryz.prog 114 := ⟨by kernel_rfl⟩
instance : TyZero Tryz.prog 114 [.nilFunc] := ⟨by kernel_rfl⟩
instance : TySz Tryz.prog 118 false 1 8 := ⟨by kernel_rfl, by kernel_rfl⟩
instance : ConcTy Tryz.prog 118 := ⟨by kernel_rfl⟩
instance : TyZero Tryz.prog 118 [.nilFunc] := ⟨by kernel_rfl⟩
instance : TySz Tryz.prog 122 false 1 8 := ⟨by kernel_rfl, by kernel_rfl⟩
instance : ConcTy Tryz.prog 122 := ⟨by kernel_rfl⟩
instance : TyZero Tryz.prog 122 [.nilFunc] := ⟨by kernel_rfl⟩
instance : TySz Tryz.prog 125 false 1 4 := ⟨by kernel_rfl, by kernel_rfl⟩
instance : ConcTy Tryz.prog 125 := ⟨by kernel_rfl⟩
instance : TyZero Tryz.prog 125 [.int .u32 0] := ⟨by kernel_rfl⟩
instance : IntTy Tryz.prog 125 .u32 := ⟨Tryz.underlying125⟩
instance : TySz Tryz.prog 127 false 1 8 := ⟨by kernel_rfl, by kernel_rfl⟩
instance : ConcTy Tryz.prog 127 := ⟨by kernel_rfl⟩
instance : TyZero Tryz.prog 127 [.int .u64 0] := ⟨by kernel_rfl⟩
instance : IntTy Tryz.prog 127 .u64 := ⟨Tryz.underlying127⟩
instance : TySz Tryz.prog 129 false 1 24 := ⟨by kernel_rfl, by kernel_rfl⟩
instance : ConcTy Tryz.prog 129 := ⟨by kernel_rfl⟩
instance : TyZero Tryz.prog 129 [.slice none 0 0] := ⟨by kernel_rfl⟩
instance : SliceOf Tryz.prog 129 23 := ⟨Tryz.underlying129⟩
instance : TySz Tryz.prog 133 true 1 24 := ⟨by kernel_rfl, by kernel_rfl⟩
instance : ConcTy Tryz.prog 133 := ⟨by kernel_rfl⟩
instance : TyZero Tryz.prog 133 [.slice none 0 0] := ⟨by kernel_rfl⟩
instance : FieldOff Tryz.prog 133 0 0 23 := ⟨by kernel_rfl⟩
instance : BuildTy Tryz.prog 133 (fun i => (#[(0, 1)] : Array (Nat × Nat))[i]?) [.slice none 0 0] := ⟨fun _ => by kernel_rfl⟩
instance : TySz Tryz.prog 135 true 2 32 := ⟨by kernel_rfl, by kernel_rfl⟩
instance : ConcTy Tryz.prog 135 := ⟨by kernel_rfl⟩
instance : TyZero Tryz.prog 135 [.slice none 0 0, .int .u64 0] := ⟨by kernel_rfl⟩
instance : FieldOff Tryz.prog 135 0 0 133 := ⟨by kernel_rfl⟩
instance : FieldOff Tryz.prog 135 1 1 86 := ⟨by kernel_rfl⟩
instance : BuildTy Tryz.prog 135 (fun i => (#[(0, 1), (1, 1)] : Array (Nat × Nat))[i]?) [.slice none 0 0, .int .u64 0] := ⟨fun _ => by kernel_rfl⟩
instance : TySz Tryz.prog 145 true 4 40 := ⟨by kernel_rfl, by kernel_rfl⟩
instance : ConcTy Tryz.prog 145 := ⟨by kernel_rfl⟩
instance : TyZero Tryz.prog 145 [.pointer none, .pointer none, .pointer none, .string .empty] := ⟨by kernel_rfl⟩
instance : FieldOff Tryz.prog 145 0 0 17 := ⟨by kernel_rfl⟩
instance : FieldOff Tryz.prog 145 1 1 17 := ⟨by kernel_rfl⟩
instance : FieldOff Tryz.prog 145 2 2 17 := ⟨by kernel_rfl⟩
instance : FieldOff Tryz.prog 145 3 3 9 := ⟨by kernel_rfl⟩
instance : BuildTy Tryz.prog 145 (fun i => (#[(0, 1), (1, 1), (2, 1), (3, 1)] : Array (Nat × Nat))[i]?) [.pointer none, .pointer none, .pointer none, .string .empty] := ⟨fun _ => by kernel_rfl⟩
instance : TySz Tryz.prog 150 false 1 1 := ⟨by kernel_rfl, by kernel_rfl⟩
instance : ConcTy Tryz.prog 150 := ⟨by kernel_rfl⟩
instance : TyZero Tryz.prog 150 [.int .u8 0] := ⟨by kernel_rfl⟩
instance : IntTy Tryz.prog 150 .u8 := ⟨Tryz.underlying150⟩
instance : TySz Tryz.prog 151 false 1 1 := ⟨by kernel_rfl, by kernel_rfl⟩
instance : ConcTy Tryz.prog 151 := ⟨by kernel_rfl⟩
instance : TyZero Tryz.prog 151 [.int .u8 0] := ⟨by kernel_rfl⟩
instance : IntTy Tryz.prog 151 .u8 := ⟨Tryz.underlying151⟩
instance : TySz Tryz.prog 152 false 1 8 := ⟨by kernel_rfl, by kernel_rfl⟩
instance : ConcTy Tryz.prog 152 := ⟨by kernel_rfl⟩
instance : TyZero Tryz.prog 152 [.nilFunc] := ⟨by kernel_rfl⟩
instance : TySz Tryz.prog 153 false 1 8 := ⟨by kernel_rfl, by kernel_rfl⟩
instance : ConcTy Tryz.prog 153 := ⟨by kernel_rfl⟩
instance : TyZero Tryz.prog 153 [.pointer none] := ⟨by kernel_rfl⟩
instance : TySz Tryz.prog 154 false 1 4 := ⟨by kernel_rfl, by kernel_rfl⟩
instance : ConcTy Tryz.prog 154 := ⟨by kernel_rfl⟩
instance : TyZero Tryz.prog 154 [.int .i32 0] := ⟨by kernel_rfl⟩
instance : IntTy Tryz.prog 154 .i32 := ⟨Tryz.underlying154⟩
instance : TySz Tryz.prog 155 false 1 4 := ⟨by kernel_rfl, by kernel_rfl⟩
instance : ConcTy Tryz.prog 155 := ⟨by kernel_rfl⟩
instance : TyZero Tryz.prog 155 [.int .i32 0] := ⟨by kernel_rfl⟩
instance : IntTy Tryz.prog 155 .i32 := ⟨Tryz.underlying155⟩
instance : TySz Tryz.prog 157 true 11 48 := ⟨by kernel_rfl, by kernel_rfl⟩
instance : ConcTy Tryz.prog 157 := ⟨by kernel_rfl⟩
instance : TyZero Tryz.prog 157 [.int .u64 0, .int .u64 0, .int .u32 0, .int .u8 0, .int .u8 0, .int .u8 0, .int .u8 0, .nilFunc, .pointer none, .int .i32 0, .int .i32 0] := ⟨by kernel_rfl⟩
instance : FieldOff Tryz.prog 157 0 0 12 := ⟨by kernel_rfl⟩
instance : FieldOff Tryz.prog 157 1 1 12 := ⟨by kernel_rfl⟩
instance : FieldOff Tryz.prog 157 2 2 125 := ⟨by kernel_rfl⟩
instance : FieldOff Tryz.prog 157 3 3 150 := ⟨by kernel_rfl⟩
instance : FieldOff Tryz.prog 157 4 4 5 := ⟨by kernel_rfl⟩
instance : FieldOff Tryz.prog 157 5 5 5 := ⟨by kernel_rfl⟩
instance : FieldOff Tryz.prog 157 6 6 151 := ⟨by kernel_rfl⟩
instance : FieldOff Tryz.prog 157 7 7 152 := ⟨by kernel_rfl⟩
instance : FieldOff Tryz.prog 157 8 8 153 := ⟨by kernel_rfl⟩
instance : FieldOff Tryz.prog 157 9 9 154 := ⟨by kernel_rfl⟩
instance : FieldOff Tryz.prog 157 10 10 155 := ⟨by kernel_rfl⟩
instance : BuildTy Tryz.prog 157 (fun i => (#[(0, 1), (1, 1), (2, 1), (3, 1), (4, 1), (5, 1), (6, 1), (7, 1), (8, 1), (9, 1), (10, 1)] : Array (Nat × Nat))[i]?) [.int .u64 0, .int .u64 0, .int .u32 0, .int .u8 0, .int .u8 0, .int .u8 0, .int .u8 0, .nilFunc, .pointer none, .int .i32 0, .int .i32 0] := ⟨fun _ => by kernel_rfl⟩
instance : TySz Tryz.prog 160 false 1 8 := ⟨by kernel_rfl, by kernel_rfl⟩
instance : ConcTy Tryz.prog 160 := ⟨by kernel_rfl⟩
instance : TyZero Tryz.prog 160 [.nilFunc] := ⟨by kernel_rfl⟩
instance : ZeroV Tryz.prog 56 (.slice none 0 0) := ⟨by kernel_rfl⟩
instance : KeyTy Tryz.prog 33 [.i64, .i64] where
  dt := by kernel_rfl
  wide := by kernel_rfl
  sz := by kernel_rfl
  ng := by kernel_rfl
  ls := by
    intro is h hw
    match is, h with
    | [a0, a1], _ =>
      have c3 : Tryz.prog.cellsOf 3 = 1 := by kernel_rfl
      have c33 : Tryz.prog.cellsOf 33 = 2 := by kernel_rfl
      simp at hw
      simp [Program.keyLits, c3, c33, hw] <;> rfl
instance : KeyTy Tryz.prog 88 [.i64, .i64, .i64, .i64, .i64, .u64, .i64, .i64] where
  dt := by kernel_rfl
  wide := by kernel_rfl
  sz := by kernel_rfl
  ng := by kernel_rfl
  ls := by
    intro is h hw
    match is, h with
    | [a0, a1, a2, a3, a4, a5, a6, a7], _ =>
      have c3 : Tryz.prog.cellsOf 3 = 1 := by kernel_rfl
      have c45 : Tryz.prog.cellsOf 45 = 2 := by kernel_rfl
      have c83 : Tryz.prog.cellsOf 83 = 5 := by kernel_rfl
      have c86 : Tryz.prog.cellsOf 86 = 1 := by kernel_rfl
      have c88 : Tryz.prog.cellsOf 88 = 8 := by kernel_rfl
      simp at hw
      simp [Program.keyLits, c3, c45, c83, c86, c88, hw, List.range_succ] <;> rfl
instance : HasBody Tryz.prog 3 := ⟨by kernel_rfl⟩
instance : HasBody Tryz.prog 4 := ⟨by kernel_rfl⟩
instance : HasBody Tryz.prog 5 := ⟨by kernel_rfl⟩
instance : HasBody Tryz.prog 6 := ⟨by kernel_rfl⟩
instance : HasBody Tryz.prog 7 := ⟨by kernel_rfl⟩
instance : HasBody Tryz.prog 8 := ⟨by kernel_rfl⟩
instance : HasBody Tryz.prog 9 := ⟨by kernel_rfl⟩
instance : HasBody Tryz.prog 10 := ⟨by kernel_rfl⟩
instance : HasBody Tryz.prog 11 := ⟨by kernel_rfl⟩
instance : HasBody Tryz.prog 12 := ⟨by kernel_rfl⟩
instance : HasBody Tryz.prog 13 := ⟨by kernel_rfl⟩
instance : HasBody Tryz.prog 14 := ⟨by kernel_rfl⟩
instance : HasBody Tryz.prog 15 := ⟨by kernel_rfl⟩
instance : HasBody Tryz.prog 16 := ⟨by kernel_rfl⟩
instance : HasBody Tryz.prog 17 := ⟨by kernel_rfl⟩
instance : HasBody Tryz.prog 18 := ⟨by kernel_rfl⟩
instance : HasBody Tryz.prog 19 := ⟨by kernel_rfl⟩
instance : HasBody Tryz.prog 20 := ⟨by kernel_rfl⟩
instance : HasBody Tryz.prog 21 := ⟨by kernel_rfl⟩
instance : HasBody Tryz.prog 22 := ⟨by kernel_rfl⟩
instance : HasBody Tryz.prog 23 := ⟨by kernel_rfl⟩
instance : HasBody Tryz.prog 24 := ⟨by kernel_rfl⟩
instance : HasBody Tryz.prog 25 := ⟨by kernel_rfl⟩
instance : HasBody Tryz.prog 26 := ⟨by kernel_rfl⟩
instance : HasBody Tryz.prog 27 := ⟨by kernel_rfl⟩
instance : HasBody Tryz.prog 28 := ⟨by kernel_rfl⟩
instance : HasBody Tryz.prog 29 := ⟨by kernel_rfl⟩
instance : HasBody Tryz.prog 30 := ⟨by kernel_rfl⟩
instance : HasBody Tryz.prog 31 := ⟨by kernel_rfl⟩
instance : HasBody Tryz.prog 32 := ⟨by kernel_rfl⟩
instance : HasBody Tryz.prog 33 := ⟨by kernel_rfl⟩
instance : HasBody Tryz.prog 34 := ⟨by kernel_rfl⟩
instance : HasBody Tryz.prog 35 := ⟨by kernel_rfl⟩
instance : HasBody Tryz.prog 36 := ⟨by kernel_rfl⟩
instance : HasBody Tryz.prog 37 := ⟨by kernel_rfl⟩
instance : HasBody Tryz.prog 38 := ⟨by kernel_rfl⟩
instance : HasBody Tryz.prog 39 := ⟨by kernel_rfl⟩
instance : HasBody Tryz.prog 40 := ⟨by kernel_rfl⟩
instance : HasBody Tryz.prog 41 := ⟨by kernel_rfl⟩
instance : HasBody Tryz.prog 42 := ⟨by kernel_rfl⟩
instance : HasBody Tryz.prog 43 := ⟨by kernel_rfl⟩
instance : HasBody Tryz.prog 44 := ⟨by kernel_rfl⟩
instance : HasBody Tryz.prog 45 := ⟨by kernel_rfl⟩
instance : HasBody Tryz.prog 46 := ⟨by kernel_rfl⟩
instance : HasBody Tryz.prog 47 := ⟨by kernel_rfl⟩
instance : HasBody Tryz.prog 48 := ⟨by kernel_rfl⟩
instance : HasBody Tryz.prog 49 := ⟨by kernel_rfl⟩
instance : HasBody Tryz.prog 50 := ⟨by kernel_rfl⟩
instance : HasBody Tryz.prog 51 := ⟨by kernel_rfl⟩
instance : HasBody Tryz.prog 52 := ⟨by kernel_rfl⟩
instance : HasBody Tryz.prog 53 := ⟨by kernel_rfl⟩
instance : HasBody Tryz.prog 54 := ⟨by kernel_rfl⟩
instance : HasBody Tryz.prog 55 := ⟨by kernel_rfl⟩
instance : HasBody Tryz.prog 56 := ⟨by kernel_rfl⟩
instance : HasBody Tryz.prog 57 := ⟨by kernel_rfl⟩
instance : HasBody Tryz.prog 58 := ⟨by kernel_rfl⟩
instance : HasBody Tryz.prog 59 := ⟨by kernel_rfl⟩
instance : HasBody Tryz.prog 60 := ⟨by kernel_rfl⟩
instance : HasBody Tryz.prog 61 := ⟨by kernel_rfl⟩
instance : HasBody Tryz.prog 62 := ⟨by kernel_rfl⟩
instance : HasBody Tryz.prog 63 := ⟨by kernel_rfl⟩
instance : HasBody Tryz.prog 64 := ⟨by kernel_rfl⟩
instance : HasBody Tryz.prog 65 := ⟨by kernel_rfl⟩
instance : HasBody Tryz.prog 66 := ⟨by kernel_rfl⟩
instance : HasBody Tryz.prog 67 := ⟨by kernel_rfl⟩
instance : HasBody Tryz.prog 68 := ⟨by kernel_rfl⟩
instance : HasBody Tryz.prog 69 := ⟨by kernel_rfl⟩
instance : HasBody Tryz.prog 70 := ⟨by kernel_rfl⟩
instance : HasBody Tryz.prog 71 := ⟨by kernel_rfl⟩
instance : HasBody Tryz.prog 72 := ⟨by kernel_rfl⟩
instance : HasBody Tryz.prog 73 := ⟨by kernel_rfl⟩
instance : HasBody Tryz.prog 74 := ⟨by kernel_rfl⟩
instance : HasBody Tryz.prog 75 := ⟨by kernel_rfl⟩
instance : HasBody Tryz.prog 76 := ⟨by kernel_rfl⟩
instance : HasBody Tryz.prog 77 := ⟨by kernel_rfl⟩
instance : HasBody Tryz.prog 78 := ⟨by kernel_rfl⟩
instance : HasBody Tryz.prog 79 := ⟨by kernel_rfl⟩
instance : HasBody Tryz.prog 80 := ⟨by kernel_rfl⟩
instance : HasBody Tryz.prog 81 := ⟨by kernel_rfl⟩
instance : HasBody Tryz.prog 82 := ⟨by kernel_rfl⟩
instance : HasBody Tryz.prog 83 := ⟨by kernel_rfl⟩
instance : HasBody Tryz.prog 84 := ⟨by kernel_rfl⟩
instance : HasBody Tryz.prog 85 := ⟨by kernel_rfl⟩
instance : HasBody Tryz.prog 86 := ⟨by kernel_rfl⟩
instance : HasBody Tryz.prog 87 := ⟨by kernel_rfl⟩
instance : HasBody Tryz.prog 88 := ⟨by kernel_rfl⟩
instance : HasBody Tryz.prog 89 := ⟨by kernel_rfl⟩
instance : HasBody Tryz.prog 90 := ⟨by kernel_rfl⟩
instance : HasBody Tryz.prog 91 := ⟨by kernel_rfl⟩
instance : HasBody Tryz.prog 92 := ⟨by kernel_rfl⟩
instance : HasBody Tryz.prog 93 := ⟨by kernel_rfl⟩
instance : HasBody Tryz.prog 94 := ⟨by kernel_rfl⟩
instance : HasBody Tryz.prog 95 := ⟨by kernel_rfl⟩
instance : HasBody Tryz.prog 96 := ⟨by kernel_rfl⟩
instance : HasBody Tryz.prog 97 := ⟨by kernel_rfl⟩
instance : HasBody Tryz.prog 98 := ⟨by kernel_rfl⟩
instance : HasBody Tryz.prog 99 := ⟨by kernel_rfl⟩
instance : HasBody Tryz.prog 100 := ⟨by kernel_rfl⟩
instance : HasBody Tryz.prog 101 := ⟨by kernel_rfl⟩
instance : HasBody Tryz.prog 102 := ⟨by kernel_rfl⟩
instance : HasBody Tryz.prog 103 := ⟨by kernel_rfl⟩
instance : HasBody Tryz.prog 104 := ⟨by kernel_rfl⟩
instance : HasBody Tryz.prog 105 := ⟨by kernel_rfl⟩
instance : HasBody Tryz.prog 106 := ⟨by kernel_rfl⟩
instance : HasBody Tryz.prog 107 := ⟨by kernel_rfl⟩
instance : HasBody Tryz.prog 108 := ⟨by kernel_rfl⟩
instance : HasBody Tryz.prog 109 := ⟨by kernel_rfl⟩
instance : HasBody Tryz.prog 110 := ⟨by kernel_rfl⟩
instance : HasBody Tryz.prog 111 := ⟨by kernel_rfl⟩
instance : HasBody Tryz.prog 112 := ⟨by kernel_rfl⟩
instance : HasBody Tryz.prog 113 := ⟨by kernel_rfl⟩
instance : HasBody Tryz.prog 114 := ⟨by kernel_rfl⟩
instance : HasBody Tryz.prog 130 := ⟨by kernel_rfl⟩
instance : HasBody Tryz.prog 131 := ⟨by kernel_rfl⟩
instance : HasBody Tryz.prog 132 := ⟨by kernel_rfl⟩
instance : HasBody Tryz.prog 133 := ⟨by kernel_rfl⟩
instance : HasBody Tryz.prog 134 := ⟨by kernel_rfl⟩
instance : HasBody Tryz.prog 135 := ⟨by kernel_rfl⟩
end Go.Proofs.YtbhgpnbfdjoglaaGreat
end
