/- The types of this program, as the rules want them. -/
import Derived.Test.YtbhgpnbfdjoglaaChecked
import Derived.Test.YtbhgpnbfdjoglaaFloat
import Derived.Test.YtbhgpnbfdjoglaaMaps
section
namespace Go.Proofs.Ytbhgpnbfdjoglaa
theorem prog_mixed : Try.prog.follows .mixedOrders = true := by kernel_rfl
instance : MethodOf Try.prog 139 "bogworks/drain.joins" 129 := ⟨fun _ _ => by kernel_rfl⟩
instance : TySz Try.prog 2 false 1 8 := ⟨by kernel_rfl, by kernel_rfl⟩
instance : ConcTy Try.prog 2 := ⟨by kernel_rfl⟩
instance : TyZero Try.prog 2 [.int .i64 0] := ⟨by kernel_rfl⟩
instance : IntTy Try.prog 2 .i64 := ⟨Try.underlying2⟩
instance : TySz Try.prog 3 false 1 8 := ⟨by kernel_rfl, by kernel_rfl⟩
instance : ConcTy Try.prog 3 := ⟨by kernel_rfl⟩
instance : TyZero Try.prog 3 [.int .i64 0] := ⟨by kernel_rfl⟩
instance : IntTy Try.prog 3 .i64 := ⟨Try.underlying3⟩
instance : TySz Try.prog 4 false 1 1 := ⟨by kernel_rfl, by kernel_rfl⟩
instance : ConcTy Try.prog 4 := ⟨by kernel_rfl⟩
instance : TyZero Try.prog 4 [.bool false] := ⟨by kernel_rfl⟩
instance : BoolTy Try.prog 4 := ⟨Try.underlying4⟩
instance : TySz Try.prog 5 false 1 1 := ⟨by kernel_rfl, by kernel_rfl⟩
instance : ConcTy Try.prog 5 := ⟨by kernel_rfl⟩
instance : TyZero Try.prog 5 [.int .u8 0] := ⟨by kernel_rfl⟩
instance : IntTy Try.prog 5 .u8 := ⟨Try.underlying5⟩
instance : TySz Try.prog 6 false 1 1 := ⟨by kernel_rfl, by kernel_rfl⟩
instance : ConcTy Try.prog 6 := ⟨by kernel_rfl⟩
instance : TyZero Try.prog 6 [.int .u8 0] := ⟨by kernel_rfl⟩
instance : IntTy Try.prog 6 .u8 := ⟨Try.underlying6⟩
instance : TySz Try.prog 8 true 4 24 := ⟨by kernel_rfl, by kernel_rfl⟩
instance : ConcTy Try.prog 8 := ⟨by kernel_rfl⟩
instance : TyZero Try.prog 8 [.int .i64 0, .int .i64 0, .bool false, .int .u8 0] := ⟨by kernel_rfl⟩
instance : FieldOff Try.prog 8 0 0 2 := ⟨by kernel_rfl⟩
instance : FieldOff Try.prog 8 1 1 3 := ⟨by kernel_rfl⟩
instance : FieldOff Try.prog 8 2 2 4 := ⟨by kernel_rfl⟩
instance : FieldOff Try.prog 8 3 3 6 := ⟨by kernel_rfl⟩
instance : BuildTy Try.prog 8 (fun i => (#[(0, 1), (1, 1), (2, 1), (3, 1)] : Array (Nat × Nat))[i]?) [.int .i64 0, .int .i64 0, .bool false, .int .u8 0] := ⟨fun _ => by kernel_rfl⟩
instance : TySz Try.prog 9 false 1 16 := ⟨by kernel_rfl, by kernel_rfl⟩
instance : ConcTy Try.prog 9 := ⟨by kernel_rfl⟩
instance : TyZero Try.prog 9 [.string .empty] := ⟨by kernel_rfl⟩
instance : TySz Try.prog 10 false 1 16 := ⟨by kernel_rfl, by kernel_rfl⟩
instance : ConcTy Try.prog 10 := ⟨by kernel_rfl⟩
instance : TyZero Try.prog 10 [.string .empty] := ⟨by kernel_rfl⟩
instance : TySz Try.prog 11 false 1 16 := ⟨by kernel_rfl, by kernel_rfl⟩
instance : ConcTy Try.prog 11 := ⟨by kernel_rfl⟩
instance : TyZero Try.prog 11 [.string .empty] := ⟨by kernel_rfl⟩
instance : TySz Try.prog 12 false 1 8 := ⟨by kernel_rfl, by kernel_rfl⟩
instance : ConcTy Try.prog 12 := ⟨by kernel_rfl⟩
instance : TyZero Try.prog 12 [.int .u64 0] := ⟨by kernel_rfl⟩
instance : IntTy Try.prog 12 .u64 := ⟨Try.underlying12⟩
instance : TySz Try.prog 14 true 2 24 := ⟨by kernel_rfl, by kernel_rfl⟩
instance : ConcTy Try.prog 14 := ⟨by kernel_rfl⟩
instance : TyZero Try.prog 14 [.string .empty, .int .u64 0] := ⟨by kernel_rfl⟩
instance : FieldOff Try.prog 14 0 0 9 := ⟨by kernel_rfl⟩
instance : FieldOff Try.prog 14 1 1 12 := ⟨by kernel_rfl⟩
instance : BuildTy Try.prog 14 (fun i => (#[(0, 1), (1, 1)] : Array (Nat × Nat))[i]?) [.string .empty, .int .u64 0] := ⟨fun _ => by kernel_rfl⟩
instance : TySz Try.prog 15 false 1 8 := ⟨by kernel_rfl, by kernel_rfl⟩
instance : ConcTy Try.prog 15 := ⟨by kernel_rfl⟩
instance : TyZero Try.prog 15 [.pointer none] := ⟨by kernel_rfl⟩
instance : TySz Try.prog 16 false 1 8 := ⟨by kernel_rfl, by kernel_rfl⟩
instance : ConcTy Try.prog 16 := ⟨by kernel_rfl⟩
instance : TyZero Try.prog 16 [.pointer none] := ⟨by kernel_rfl⟩
instance : TySz Try.prog 17 false 1 8 := ⟨by kernel_rfl, by kernel_rfl⟩
instance : ConcTy Try.prog 17 := ⟨by kernel_rfl⟩
instance : TyZero Try.prog 17 [.pointer none] := ⟨by kernel_rfl⟩
instance : TySz Try.prog 19 true 1 8 := ⟨by kernel_rfl, by kernel_rfl⟩
instance : ConcTy Try.prog 19 := ⟨by kernel_rfl⟩
instance : TyZero Try.prog 19 [.pointer none] := ⟨by kernel_rfl⟩
instance : FieldOff Try.prog 19 0 0 17 := ⟨by kernel_rfl⟩
instance : BuildTy Try.prog 19 (fun i => (#[(0, 1)] : Array (Nat × Nat))[i]?) [.pointer none] := ⟨fun _ => by kernel_rfl⟩
instance : TySz Try.prog 20 false 1 16 := ⟨by kernel_rfl, by kernel_rfl⟩
instance : TyZero Try.prog 20 [.nilIface] := ⟨by kernel_rfl⟩
instance : IfaceTy Try.prog 20 := ⟨by kernel_rfl⟩
instance : TySz Try.prog 22 false 1 8 := ⟨by kernel_rfl, by kernel_rfl⟩
instance : ConcTy Try.prog 22 := ⟨by kernel_rfl⟩
instance : TyZero Try.prog 22 [.int .i64 0] := ⟨by kernel_rfl⟩
instance : IntTy Try.prog 22 .i64 := ⟨Try.underlying22⟩
instance : TySz Try.prog 25 false 1 24 := ⟨by kernel_rfl, by kernel_rfl⟩
instance : ConcTy Try.prog 25 := ⟨by kernel_rfl⟩
instance : TyZero Try.prog 25 [.slice none 0 0] := ⟨by kernel_rfl⟩
instance : SliceOf Try.prog 25 60 := ⟨Try.underlying25⟩
instance : TySz Try.prog 26 false 1 24 := ⟨by kernel_rfl, by kernel_rfl⟩
instance : ConcTy Try.prog 26 := ⟨by kernel_rfl⟩
instance : TyZero Try.prog 26 [.slice none 0 0] := ⟨by kernel_rfl⟩
instance : SliceOf Try.prog 26 32 := ⟨Try.underlying26⟩
instance : TySz Try.prog 27 false 1 24 := ⟨by kernel_rfl, by kernel_rfl⟩
instance : ConcTy Try.prog 27 := ⟨by kernel_rfl⟩
instance : TyZero Try.prog 27 [.slice none 0 0] := ⟨by kernel_rfl⟩
instance : SliceOf Try.prog 27 57 := ⟨Try.underlying27⟩
instance : TySz Try.prog 29 true 4 96 := ⟨by kernel_rfl, by kernel_rfl⟩
instance : ConcTy Try.prog 29 := ⟨by kernel_rfl⟩
instance : TyZero Try.prog 29 [.slice none 0 0, .slice none 0 0, .slice none 0 0, .slice none 0 0] := ⟨by kernel_rfl⟩
instance : FieldOff Try.prog 29 0 0 25 := ⟨by kernel_rfl⟩
instance : FieldOff Try.prog 29 1 1 26 := ⟨by kernel_rfl⟩
instance : FieldOff Try.prog 29 2 2 27 := ⟨by kernel_rfl⟩
instance : FieldOff Try.prog 29 3 3 26 := ⟨by kernel_rfl⟩
instance : BuildTy Try.prog 29 (fun i => (#[(0, 1), (1, 1), (2, 1), (3, 1)] : Array (Nat × Nat))[i]?) [.slice none 0 0, .slice none 0 0, .slice none 0 0, .slice none 0 0] := ⟨fun _ => by kernel_rfl⟩
instance : TySz Try.prog 32 true 2 16 := ⟨by kernel_rfl, by kernel_rfl⟩
instance : ConcTy Try.prog 32 := ⟨by kernel_rfl⟩
instance : TyZero Try.prog 32 [.int .i64 0, .int .i64 0] := ⟨by kernel_rfl⟩
instance : FieldOff Try.prog 32 0 0 3 := ⟨by kernel_rfl⟩
instance : FieldOff Try.prog 32 1 1 3 := ⟨by kernel_rfl⟩
instance : BuildTy Try.prog 32 (fun i => (#[(0, 1), (1, 1)] : Array (Nat × Nat))[i]?) [.int .i64 0, .int .i64 0] := ⟨fun _ => by kernel_rfl⟩
instance : TySz Try.prog 35 true 2 16 := ⟨by kernel_rfl, by kernel_rfl⟩
instance : ConcTy Try.prog 35 := ⟨by kernel_rfl⟩
instance : TyZero Try.prog 35 [.int .i64 0, .int .i64 0] := ⟨by kernel_rfl⟩
instance : FieldOff Try.prog 35 0 0 3 := ⟨by kernel_rfl⟩
instance : FieldOff Try.prog 35 1 1 3 := ⟨by kernel_rfl⟩
instance : BuildTy Try.prog 35 (fun i => (#[(0, 1), (1, 1)] : Array (Nat × Nat))[i]?) [.int .i64 0, .int .i64 0] := ⟨fun _ => by kernel_rfl⟩
instance : TySz Try.prog 45 false 1 24 := ⟨by kernel_rfl, by kernel_rfl⟩
instance : ConcTy Try.prog 45 := ⟨by kernel_rfl⟩
instance : TyZero Try.prog 45 [.slice none 0 0] := ⟨by kernel_rfl⟩
instance : SliceOf Try.prog 45 112 := ⟨Try.underlying45⟩
instance : TySz Try.prog 47 false 1 24 := ⟨by kernel_rfl, by kernel_rfl⟩
instance : ConcTy Try.prog 47 := ⟨by kernel_rfl⟩
instance : TyZero Try.prog 47 [.slice none 0 0] := ⟨by kernel_rfl⟩
instance : SliceOf Try.prog 47 3 := ⟨Try.underlying47⟩
instance : TySz Try.prog 50 false 1 8 := ⟨by kernel_rfl, by kernel_rfl⟩
instance : ConcTy Try.prog 50 := ⟨by kernel_rfl⟩
instance : TyZero Try.prog 50 [.nilFunc] := ⟨by kernel_rfl⟩
instance : TySz Try.prog 57 true 3 24 := ⟨by kernel_rfl, by kernel_rfl⟩
instance : ConcTy Try.prog 57 := ⟨by kernel_rfl⟩
instance : TyZero Try.prog 57 [.int .i64 0, .int .i64 0, .int .i64 0] := ⟨by kernel_rfl⟩
instance : FieldOff Try.prog 57 0 0 3 := ⟨by kernel_rfl⟩
instance : FieldOff Try.prog 57 1 1 3 := ⟨by kernel_rfl⟩
instance : FieldOff Try.prog 57 2 2 3 := ⟨by kernel_rfl⟩
instance : BuildTy Try.prog 57 (fun i => (#[(0, 1), (1, 1), (2, 1)] : Array (Nat × Nat))[i]?) [.int .i64 0, .int .i64 0, .int .i64 0] := ⟨fun _ => by kernel_rfl⟩
instance : TySz Try.prog 60 true 4 32 := ⟨by kernel_rfl, by kernel_rfl⟩
instance : ConcTy Try.prog 60 := ⟨by kernel_rfl⟩
instance : TyZero Try.prog 60 [.int .i64 0, .int .i64 0, .int .i64 0, .int .i64 0] := ⟨by kernel_rfl⟩
instance : FieldOff Try.prog 60 0 0 35 := ⟨by kernel_rfl⟩
instance : FieldOff Try.prog 60 1 2 35 := ⟨by kernel_rfl⟩
instance : BuildTy Try.prog 60 (fun i => (#[(0, 2), (2, 2)] : Array (Nat × Nat))[i]?) [.int .i64 0, .int .i64 0, .int .i64 0, .int .i64 0] := ⟨fun _ => by kernel_rfl⟩
instance : TySz Try.prog 62 false 1 8 := ⟨by kernel_rfl, by kernel_rfl⟩
instance : ConcTy Try.prog 62 := ⟨by kernel_rfl⟩
instance : TyZero Try.prog 62 [.nilFunc] := ⟨by kernel_rfl⟩
instance : TySz Try.prog 64 false 1 8 := ⟨by kernel_rfl, by kernel_rfl⟩
instance : ConcTy Try.prog 64 := ⟨by kernel_rfl⟩
instance : TyZero Try.prog 64 [.nilFunc] := ⟨by kernel_rfl⟩
instance : TySz Try.prog 68 false 1 24 := ⟨by kernel_rfl, by kernel_rfl⟩
instance : ConcTy Try.prog 68 := ⟨by kernel_rfl⟩
instance : TyZero Try.prog 68 [.slice none 0 0] := ⟨by kernel_rfl⟩
instance : SliceOf Try.prog 68 29 := ⟨Try.underlying68⟩
instance : TySz Try.prog 71 false 1 8 := ⟨by kernel_rfl, by kernel_rfl⟩
instance : ConcTy Try.prog 71 := ⟨by kernel_rfl⟩
instance : TyZero Try.prog 71 [.pointer none] := ⟨by kernel_rfl⟩
instance : TySz Try.prog 72 false 1 8 := ⟨by kernel_rfl, by kernel_rfl⟩
instance : ConcTy Try.prog 72 := ⟨by kernel_rfl⟩
instance : TyZero Try.prog 72 [.pointer none] := ⟨by kernel_rfl⟩
instance : TySz Try.prog 74 false 1 8 := ⟨by kernel_rfl, by kernel_rfl⟩
instance : ConcTy Try.prog 74 := ⟨by kernel_rfl⟩
instance : TyZero Try.prog 74 [.nilFunc] := ⟨by kernel_rfl⟩
instance : TySz Try.prog 76 false 1 24 := ⟨by kernel_rfl, by kernel_rfl⟩
instance : ConcTy Try.prog 76 := ⟨by kernel_rfl⟩
instance : TyZero Try.prog 76 [.slice none 0 0] := ⟨by kernel_rfl⟩
instance : SliceOf Try.prog 76 3 := ⟨Try.underlying76⟩
instance : TySz Try.prog 77 false 1 8 := ⟨by kernel_rfl, by kernel_rfl⟩
instance : ConcTy Try.prog 77 := ⟨by kernel_rfl⟩
instance : TyZero Try.prog 77 [.nilFunc] := ⟨by kernel_rfl⟩
instance : TySz Try.prog 79 false 1 8 := ⟨by kernel_rfl, by kernel_rfl⟩
instance : ConcTy Try.prog 79 := ⟨by kernel_rfl⟩
instance : TyZero Try.prog 79 [.nilFunc] := ⟨by kernel_rfl⟩
instance : TySz Try.prog 81 false 1 24 := ⟨by kernel_rfl, by kernel_rfl⟩
instance : ConcTy Try.prog 81 := ⟨by kernel_rfl⟩
instance : TyZero Try.prog 81 [.slice none 0 0] := ⟨by kernel_rfl⟩
instance : SliceOf Try.prog 81 35 := ⟨Try.underlying81⟩
instance : TySz Try.prog 83 false 1 8 := ⟨by kernel_rfl, by kernel_rfl⟩
instance : ConcTy Try.prog 83 := ⟨by kernel_rfl⟩
instance : TyZero Try.prog 83 [.map none] := ⟨by kernel_rfl⟩
instance : MapTy Try.prog 83 98 76 := ⟨Try.underlying83⟩
instance : TySz Try.prog 85 true 5 104 := ⟨by kernel_rfl, by kernel_rfl⟩
instance : ConcTy Try.prog 85 := ⟨by kernel_rfl⟩
instance : TyZero Try.prog 85 [.slice none 0 0, .slice none 0 0, .slice none 0 0, .slice none 0 0, .map none] := ⟨by kernel_rfl⟩
instance : FieldOff Try.prog 85 0 0 29 := ⟨by kernel_rfl⟩
instance : FieldOff Try.prog 85 1 4 83 := ⟨by kernel_rfl⟩
instance : BuildTy Try.prog 85 (fun i => (#[(0, 4), (4, 1)] : Array (Nat × Nat))[i]?) [.slice none 0 0, .slice none 0 0, .slice none 0 0, .slice none 0 0, .map none] := ⟨fun _ => by kernel_rfl⟩
instance : TySz Try.prog 86 false 1 8 := ⟨by kernel_rfl, by kernel_rfl⟩
instance : ConcTy Try.prog 86 := ⟨by kernel_rfl⟩
instance : TyZero Try.prog 86 [.nilFunc] := ⟨by kernel_rfl⟩
instance : TySz Try.prog 89 false 1 24 := ⟨by kernel_rfl, by kernel_rfl⟩
instance : ConcTy Try.prog 89 := ⟨by kernel_rfl⟩
instance : TyZero Try.prog 89 [.slice none 0 0] := ⟨by kernel_rfl⟩
instance : SliceOf Try.prog 89 93 := ⟨Try.underlying89⟩
instance : TySz Try.prog 93 true 5 40 := ⟨by kernel_rfl, by kernel_rfl⟩
instance : ConcTy Try.prog 93 := ⟨by kernel_rfl⟩
instance : TyZero Try.prog 93 [.int .i64 0, .int .i64 0, .int .i64 0, .int .i64 0, .int .i64 0] := ⟨by kernel_rfl⟩
instance : ArrayOf Try.prog 93 5 3 := ⟨Try.underlying93⟩
instance : BuildTy Try.prog 93 (fun i => some (i * 1, 1)) [.int .i64 0, .int .i64 0, .int .i64 0, .int .i64 0, .int .i64 0] := ⟨fun _ => by kernel_rfl⟩
instance : TySz Try.prog 96 false 1 8 := ⟨by kernel_rfl, by kernel_rfl⟩
instance : ConcTy Try.prog 96 := ⟨by kernel_rfl⟩
instance : TyZero Try.prog 96 [.int .u64 0] := ⟨by kernel_rfl⟩
instance : IntTy Try.prog 96 .u64 := ⟨Try.underlying96⟩
instance : TySz Try.prog 98 true 8 64 := ⟨by kernel_rfl, by kernel_rfl⟩
instance : ConcTy Try.prog 98 := ⟨by kernel_rfl⟩
instance : TyZero Try.prog 98 [.int .i64 0, .int .i64 0, .int .i64 0, .int .i64 0, .int .i64 0, .int .u64 0, .int .i64 0, .int .i64 0] := ⟨by kernel_rfl⟩
instance : FieldOff Try.prog 98 0 0 93 := ⟨by kernel_rfl⟩
instance : FieldOff Try.prog 98 1 5 96 := ⟨by kernel_rfl⟩
instance : FieldOff Try.prog 98 2 6 32 := ⟨by kernel_rfl⟩
instance : BuildTy Try.prog 98 (fun i => (#[(0, 5), (5, 1), (6, 2)] : Array (Nat × Nat))[i]?) [.int .i64 0, .int .i64 0, .int .i64 0, .int .i64 0, .int .i64 0, .int .u64 0, .int .i64 0, .int .i64 0] := ⟨fun _ => by kernel_rfl⟩
instance : TySz Try.prog 101 false 1 24 := ⟨by kernel_rfl, by kernel_rfl⟩
instance : ConcTy Try.prog 101 := ⟨by kernel_rfl⟩
instance : TyZero Try.prog 101 [.slice none 0 0] := ⟨by kernel_rfl⟩
instance : SliceOf Try.prog 101 96 := ⟨Try.underlying101⟩
instance : TySz Try.prog 104 false 1 8 := ⟨by kernel_rfl, by kernel_rfl⟩
instance : ConcTy Try.prog 104 := ⟨by kernel_rfl⟩
instance : TyZero Try.prog 104 [.nilFunc] := ⟨by kernel_rfl⟩
instance : TySz Try.prog 105 false 1 8 := ⟨by kernel_rfl, by kernel_rfl⟩
instance : ConcTy Try.prog 105 := ⟨by kernel_rfl⟩
instance : TyZero Try.prog 105 [.nilFunc] := ⟨by kernel_rfl⟩
instance : TySz Try.prog 107 true 1 8 := ⟨by kernel_rfl, by kernel_rfl⟩
instance : ConcTy Try.prog 107 := ⟨by kernel_rfl⟩
instance : TyZero Try.prog 107 [.nilFunc] := ⟨by kernel_rfl⟩
instance : FieldOff Try.prog 107 0 0 105 := ⟨by kernel_rfl⟩
instance : BuildTy Try.prog 107 (fun i => (#[(0, 1)] : Array (Nat × Nat))[i]?) [.nilFunc] := ⟨fun _ => by kernel_rfl⟩
instance : TySz Try.prog 112 false 1 2 := ⟨by kernel_rfl, by kernel_rfl⟩
instance : ConcTy Try.prog 112 := ⟨by kernel_rfl⟩
instance : TyZero Try.prog 112 [.int .u16 0] := ⟨by kernel_rfl⟩
instance : IntTy Try.prog 112 .u16 := ⟨Try.underlying112⟩
instance : TySz Try.prog 114 true 1 8 := ⟨by kernel_rfl, by kernel_rfl⟩
instance : ConcTy Try.prog 114 := ⟨by kernel_rfl⟩
instance : TyZero Try.prog 114 [.int .i64 0] := ⟨by kernel_rfl⟩
instance : FieldOff Try.prog 114 0 0 22 := ⟨by kernel_rfl⟩
instance : BuildTy Try.prog 114 (fun i => (#[(0, 1)] : Array (Nat × Nat))[i]?) [.int .i64 0] := ⟨fun _ => by kernel_rfl⟩
instance : TySz Try.prog 118 false 1 8 := ⟨by kernel_rfl, by kernel_rfl⟩
instance : ConcTy Try.prog 118 := ⟨by kernel_rfl⟩
instance : TyZero Try.prog 118 [.nilFunc] := ⟨by kernel_rfl⟩
instance : TySz Try.prog 122 false 1 8 := ⟨by kernel_rfl, by kernel_rfl⟩
instance : ConcTy Try.prog 122 := ⟨by kernel_rfl⟩
instance : TyZero Try.prog 122 [.nilFunc] := ⟨by kernel_rfl⟩
instance : TySz Try.prog 126 false 1 8 := ⟨by kernel_rfl, by kernel_rfl⟩
instance : ConcTy Try.prog 126 := ⟨by kernel_rfl⟩
instance : TyZero Try.prog 126 [.nilFunc] := ⟨by kernel_rfl⟩
instance : TySz Try.prog 129 false 1 4 := ⟨by kernel_rfl, by kernel_rfl⟩
instance : ConcTy Try.prog 129 := ⟨by kernel_rfl⟩
instance : TyZero Try.prog 129 [.int .u32 0] := ⟨by kernel_rfl⟩
instance : IntTy Try.prog 129 .u32 := ⟨Try.underlying129⟩
instance : TySz Try.prog 131 false 1 8 := ⟨by kernel_rfl, by kernel_rfl⟩
instance : ConcTy Try.prog 131 := ⟨by kernel_rfl⟩
instance : TyZero Try.prog 131 [.int .u64 0] := ⟨by kernel_rfl⟩
instance : IntTy Try.prog 131 .u64 := ⟨Try.underlying131⟩
instance : TySz Try.prog 133 false 1 24 := ⟨by kernel_rfl, by kernel_rfl⟩
instance : ConcTy Try.prog 133 := ⟨by kernel_rfl⟩
instance : TyZero Try.prog 133 [.slice none 0 0] := ⟨by kernel_rfl⟩
instance : SliceOf Try.prog 133 26 := ⟨Try.underlying133⟩
instance : TySz Try.prog 137 true 1 24 := ⟨by kernel_rfl, by kernel_rfl⟩
instance : ConcTy Try.prog 137 := ⟨by kernel_rfl⟩
instance : TyZero Try.prog 137 [.slice none 0 0] := ⟨by kernel_rfl⟩
instance : FieldOff Try.prog 137 0 0 26 := ⟨by kernel_rfl⟩
instance : BuildTy Try.prog 137 (fun i => (#[(0, 1)] : Array (Nat × Nat))[i]?) [.slice none 0 0] := ⟨fun _ => by kernel_rfl⟩
instance : TySz Try.prog 139 true 2 32 := ⟨by kernel_rfl, by kernel_rfl⟩
instance : ConcTy Try.prog 139 := ⟨by kernel_rfl⟩
instance : TyZero Try.prog 139 [.slice none 0 0, .int .u64 0] := ⟨by kernel_rfl⟩
instance : FieldOff Try.prog 139 0 0 137 := ⟨by kernel_rfl⟩
instance : FieldOff Try.prog 139 1 1 96 := ⟨by kernel_rfl⟩
instance : BuildTy Try.prog 139 (fun i => (#[(0, 1), (1, 1)] : Array (Nat × Nat))[i]?) [.slice none 0 0, .int .u64 0] := ⟨fun _ => by kernel_rfl⟩
instance : TySz Try.prog 149 true 4 40 := ⟨by kernel_rfl, by kernel_rfl⟩
instance : ConcTy Try.prog 149 := ⟨by kernel_rfl⟩
instance : TyZero Try.prog 149 [.pointer none, .pointer none, .pointer none, .string .empty] := ⟨by kernel_rfl⟩
instance : FieldOff Try.prog 149 0 0 17 := ⟨by kernel_rfl⟩
instance : FieldOff Try.prog 149 1 1 17 := ⟨by kernel_rfl⟩
instance : FieldOff Try.prog 149 2 2 17 := ⟨by kernel_rfl⟩
instance : FieldOff Try.prog 149 3 3 9 := ⟨by kernel_rfl⟩
instance : BuildTy Try.prog 149 (fun i => (#[(0, 1), (1, 1), (2, 1), (3, 1)] : Array (Nat × Nat))[i]?) [.pointer none, .pointer none, .pointer none, .string .empty] := ⟨fun _ => by kernel_rfl⟩
instance : TySz Try.prog 154 false 1 1 := ⟨by kernel_rfl, by kernel_rfl⟩
instance : ConcTy Try.prog 154 := ⟨by kernel_rfl⟩
instance : TyZero Try.prog 154 [.int .u8 0] := ⟨by kernel_rfl⟩
instance : IntTy Try.prog 154 .u8 := ⟨Try.underlying154⟩
instance : TySz Try.prog 155 false 1 1 := ⟨by kernel_rfl, by kernel_rfl⟩
instance : ConcTy Try.prog 155 := ⟨by kernel_rfl⟩
instance : TyZero Try.prog 155 [.int .u8 0] := ⟨by kernel_rfl⟩
instance : IntTy Try.prog 155 .u8 := ⟨Try.underlying155⟩
instance : TySz Try.prog 156 false 1 8 := ⟨by kernel_rfl, by kernel_rfl⟩
instance : ConcTy Try.prog 156 := ⟨by kernel_rfl⟩
instance : TyZero Try.prog 156 [.nilFunc] := ⟨by kernel_rfl⟩
instance : TySz Try.prog 157 false 1 8 := ⟨by kernel_rfl, by kernel_rfl⟩
instance : ConcTy Try.prog 157 := ⟨by kernel_rfl⟩
instance : TyZero Try.prog 157 [.pointer none] := ⟨by kernel_rfl⟩
instance : TySz Try.prog 158 false 1 4 := ⟨by kernel_rfl, by kernel_rfl⟩
instance : ConcTy Try.prog 158 := ⟨by kernel_rfl⟩
instance : TyZero Try.prog 158 [.int .i32 0] := ⟨by kernel_rfl⟩
instance : IntTy Try.prog 158 .i32 := ⟨Try.underlying158⟩
instance : TySz Try.prog 159 false 1 4 := ⟨by kernel_rfl, by kernel_rfl⟩
instance : ConcTy Try.prog 159 := ⟨by kernel_rfl⟩
instance : TyZero Try.prog 159 [.int .i32 0] := ⟨by kernel_rfl⟩
instance : IntTy Try.prog 159 .i32 := ⟨Try.underlying159⟩
instance : TySz Try.prog 161 true 11 48 := ⟨by kernel_rfl, by kernel_rfl⟩
instance : ConcTy Try.prog 161 := ⟨by kernel_rfl⟩
instance : TyZero Try.prog 161 [.int .u64 0, .int .u64 0, .int .u32 0, .int .u8 0, .int .u8 0, .int .u8 0, .int .u8 0, .nilFunc, .pointer none, .int .i32 0, .int .i32 0] := ⟨by kernel_rfl⟩
instance : FieldOff Try.prog 161 0 0 12 := ⟨by kernel_rfl⟩
instance : FieldOff Try.prog 161 1 1 12 := ⟨by kernel_rfl⟩
instance : FieldOff Try.prog 161 2 2 129 := ⟨by kernel_rfl⟩
instance : FieldOff Try.prog 161 3 3 154 := ⟨by kernel_rfl⟩
instance : FieldOff Try.prog 161 4 4 5 := ⟨by kernel_rfl⟩
instance : FieldOff Try.prog 161 5 5 5 := ⟨by kernel_rfl⟩
instance : FieldOff Try.prog 161 6 6 155 := ⟨by kernel_rfl⟩
instance : FieldOff Try.prog 161 7 7 156 := ⟨by kernel_rfl⟩
instance : FieldOff Try.prog 161 8 8 157 := ⟨by kernel_rfl⟩
instance : FieldOff Try.prog 161 9 9 158 := ⟨by kernel_rfl⟩
instance : FieldOff Try.prog 161 10 10 159 := ⟨by kernel_rfl⟩
instance : BuildTy Try.prog 161 (fun i => (#[(0, 1), (1, 1), (2, 1), (3, 1), (4, 1), (5, 1), (6, 1), (7, 1), (8, 1), (9, 1), (10, 1)] : Array (Nat × Nat))[i]?) [.int .u64 0, .int .u64 0, .int .u32 0, .int .u8 0, .int .u8 0, .int .u8 0, .int .u8 0, .nilFunc, .pointer none, .int .i32 0, .int .i32 0] := ⟨fun _ => by kernel_rfl⟩
instance : TySz Try.prog 164 false 1 8 := ⟨by kernel_rfl, by kernel_rfl⟩
instance : ConcTy Try.prog 164 := ⟨by kernel_rfl⟩
instance : TyZero Try.prog 164 [.nilFunc] := ⟨by kernel_rfl⟩
instance : ZeroV Try.prog 76 (.slice none 0 0) := ⟨by kernel_rfl⟩
instance : KeyTy Try.prog 32 [.i64, .i64] where
  dt := by kernel_rfl
  wide := by kernel_rfl
  sz := by kernel_rfl
  ng := by kernel_rfl
  ls := by
    intro is h hw
    match is, h with
    | [a0, a1], _ =>
      have c3 : Try.prog.cellsOf 3 = 1 := by kernel_rfl
      have c32 : Try.prog.cellsOf 32 = 2 := by kernel_rfl
      simp at hw
      simp [Program.keyLits, c3, c32, hw] <;> rfl
instance : KeyTy Try.prog 35 [.i64, .i64] where
  dt := by kernel_rfl
  wide := by kernel_rfl
  sz := by kernel_rfl
  ng := by kernel_rfl
  ls := by
    intro is h hw
    match is, h with
    | [a0, a1], _ =>
      have c3 : Try.prog.cellsOf 3 = 1 := by kernel_rfl
      have c35 : Try.prog.cellsOf 35 = 2 := by kernel_rfl
      simp at hw
      simp [Program.keyLits, c3, c35, hw] <;> rfl
instance : KeyTy Try.prog 57 [.i64, .i64, .i64] where
  dt := by kernel_rfl
  wide := by kernel_rfl
  sz := by kernel_rfl
  ng := by kernel_rfl
  ls := by
    intro is h hw
    match is, h with
    | [a0, a1, a2], _ =>
      have c3 : Try.prog.cellsOf 3 = 1 := by kernel_rfl
      have c57 : Try.prog.cellsOf 57 = 3 := by kernel_rfl
      simp at hw
      simp [Program.keyLits, c3, c57, hw] <;> rfl
instance : KeyTy Try.prog 60 [.i64, .i64, .i64, .i64] where
  dt := by kernel_rfl
  wide := by kernel_rfl
  sz := by kernel_rfl
  ng := by kernel_rfl
  ls := by
    intro is h hw
    match is, h with
    | [a0, a1, a2, a3], _ =>
      have c3 : Try.prog.cellsOf 3 = 1 := by kernel_rfl
      have c35 : Try.prog.cellsOf 35 = 2 := by kernel_rfl
      have c60 : Try.prog.cellsOf 60 = 4 := by kernel_rfl
      simp at hw
      simp [Program.keyLits, c3, c35, c60, hw] <;> rfl
instance : KeyTy Try.prog 98 [.i64, .i64, .i64, .i64, .i64, .u64, .i64, .i64] where
  dt := by kernel_rfl
  wide := by kernel_rfl
  sz := by kernel_rfl
  ng := by kernel_rfl
  ls := by
    intro is h hw
    match is, h with
    | [a0, a1, a2, a3, a4, a5, a6, a7], _ =>
      have c3 : Try.prog.cellsOf 3 = 1 := by kernel_rfl
      have c32 : Try.prog.cellsOf 32 = 2 := by kernel_rfl
      have c93 : Try.prog.cellsOf 93 = 5 := by kernel_rfl
      have c96 : Try.prog.cellsOf 96 = 1 := by kernel_rfl
      have c98 : Try.prog.cellsOf 98 = 8 := by kernel_rfl
      simp at hw
      simp [Program.keyLits, c3, c32, c93, c96, c98, hw, List.range_succ] <;> rfl
instance : HasBody Try.prog 3 := ⟨by kernel_rfl⟩
instance : HasBody Try.prog 4 := ⟨by kernel_rfl⟩
instance : HasBody Try.prog 5 := ⟨by kernel_rfl⟩
instance : HasBody Try.prog 6 := ⟨by kernel_rfl⟩
instance : HasBody Try.prog 7 := ⟨by kernel_rfl⟩
instance : HasBody Try.prog 8 := ⟨by kernel_rfl⟩
instance : HasBody Try.prog 9 := ⟨by kernel_rfl⟩
instance : HasBody Try.prog 10 := ⟨by kernel_rfl⟩
instance : HasBody Try.prog 11 := ⟨by kernel_rfl⟩
instance : HasBody Try.prog 12 := ⟨by kernel_rfl⟩
instance : HasBody Try.prog 13 := ⟨by kernel_rfl⟩
instance : HasBody Try.prog 14 := ⟨by kernel_rfl⟩
instance : HasBody Try.prog 15 := ⟨by kernel_rfl⟩
instance : HasBody Try.prog 16 := ⟨by kernel_rfl⟩
instance : HasBody Try.prog 17 := ⟨by kernel_rfl⟩
instance : HasBody Try.prog 18 := ⟨by kernel_rfl⟩
instance : HasBody Try.prog 19 := ⟨by kernel_rfl⟩
instance : HasBody Try.prog 20 := ⟨by kernel_rfl⟩
instance : HasBody Try.prog 21 := ⟨by kernel_rfl⟩
instance : HasBody Try.prog 22 := ⟨by kernel_rfl⟩
instance : HasBody Try.prog 23 := ⟨by kernel_rfl⟩
instance : HasBody Try.prog 24 := ⟨by kernel_rfl⟩
instance : HasBody Try.prog 25 := ⟨by kernel_rfl⟩
instance : HasBody Try.prog 26 := ⟨by kernel_rfl⟩
instance : HasBody Try.prog 27 := ⟨by kernel_rfl⟩
instance : HasBody Try.prog 28 := ⟨by kernel_rfl⟩
instance : HasBody Try.prog 29 := ⟨by kernel_rfl⟩
instance : HasBody Try.prog 30 := ⟨by kernel_rfl⟩
instance : HasBody Try.prog 31 := ⟨by kernel_rfl⟩
instance : HasBody Try.prog 32 := ⟨by kernel_rfl⟩
instance : HasBody Try.prog 33 := ⟨by kernel_rfl⟩
instance : HasBody Try.prog 34 := ⟨by kernel_rfl⟩
instance : HasBody Try.prog 35 := ⟨by kernel_rfl⟩
instance : HasBody Try.prog 36 := ⟨by kernel_rfl⟩
instance : HasBody Try.prog 37 := ⟨by kernel_rfl⟩
instance : HasBody Try.prog 38 := ⟨by kernel_rfl⟩
instance : HasBody Try.prog 39 := ⟨by kernel_rfl⟩
instance : HasBody Try.prog 40 := ⟨by kernel_rfl⟩
instance : HasBody Try.prog 41 := ⟨by kernel_rfl⟩
instance : HasBody Try.prog 42 := ⟨by kernel_rfl⟩
instance : HasBody Try.prog 43 := ⟨by kernel_rfl⟩
instance : HasBody Try.prog 44 := ⟨by kernel_rfl⟩
instance : HasBody Try.prog 45 := ⟨by kernel_rfl⟩
instance : HasBody Try.prog 46 := ⟨by kernel_rfl⟩
instance : HasBody Try.prog 47 := ⟨by kernel_rfl⟩
instance : HasBody Try.prog 48 := ⟨by kernel_rfl⟩
instance : HasBody Try.prog 49 := ⟨by kernel_rfl⟩
instance : HasBody Try.prog 50 := ⟨by kernel_rfl⟩
instance : HasBody Try.prog 51 := ⟨by kernel_rfl⟩
instance : HasBody Try.prog 52 := ⟨by kernel_rfl⟩
instance : HasBody Try.prog 53 := ⟨by kernel_rfl⟩
instance : HasBody Try.prog 54 := ⟨by kernel_rfl⟩
instance : HasBody Try.prog 55 := ⟨by kernel_rfl⟩
instance : HasBody Try.prog 56 := ⟨by kernel_rfl⟩
instance : HasBody Try.prog 57 := ⟨by kernel_rfl⟩
instance : HasBody Try.prog 58 := ⟨by kernel_rfl⟩
instance : HasBody Try.prog 59 := ⟨by kernel_rfl⟩
instance : HasBody Try.prog 60 := ⟨by kernel_rfl⟩
instance : HasBody Try.prog 61 := ⟨by kernel_rfl⟩
instance : HasBody Try.prog 62 := ⟨by kernel_rfl⟩
instance : HasBody Try.prog 63 := ⟨by kernel_rfl⟩
instance : HasBody Try.prog 64 := ⟨by kernel_rfl⟩
instance : HasBody Try.prog 65 := ⟨by kernel_rfl⟩
instance : HasBody Try.prog 66 := ⟨by kernel_rfl⟩
instance : HasBody Try.prog 67 := ⟨by kernel_rfl⟩
instance : HasBody Try.prog 68 := ⟨by kernel_rfl⟩
instance : HasBody Try.prog 69 := ⟨by kernel_rfl⟩
instance : HasBody Try.prog 70 := ⟨by kernel_rfl⟩
instance : HasBody Try.prog 71 := ⟨by kernel_rfl⟩
instance : HasBody Try.prog 72 := ⟨by kernel_rfl⟩
instance : HasBody Try.prog 73 := ⟨by kernel_rfl⟩
instance : HasBody Try.prog 74 := ⟨by kernel_rfl⟩
instance : HasBody Try.prog 75 := ⟨by kernel_rfl⟩
instance : HasBody Try.prog 76 := ⟨by kernel_rfl⟩
instance : HasBody Try.prog 77 := ⟨by kernel_rfl⟩
instance : HasBody Try.prog 78 := ⟨by kernel_rfl⟩
instance : HasBody Try.prog 79 := ⟨by kernel_rfl⟩
instance : HasBody Try.prog 80 := ⟨by kernel_rfl⟩
instance : HasBody Try.prog 81 := ⟨by kernel_rfl⟩
instance : HasBody Try.prog 82 := ⟨by kernel_rfl⟩
instance : HasBody Try.prog 83 := ⟨by kernel_rfl⟩
instance : HasBody Try.prog 84 := ⟨by kernel_rfl⟩
instance : HasBody Try.prog 85 := ⟨by kernel_rfl⟩
instance : HasBody Try.prog 86 := ⟨by kernel_rfl⟩
instance : HasBody Try.prog 87 := ⟨by kernel_rfl⟩
instance : HasBody Try.prog 88 := ⟨by kernel_rfl⟩
instance : HasBody Try.prog 89 := ⟨by kernel_rfl⟩
instance : HasBody Try.prog 90 := ⟨by kernel_rfl⟩
instance : HasBody Try.prog 91 := ⟨by kernel_rfl⟩
instance : HasBody Try.prog 92 := ⟨by kernel_rfl⟩
instance : HasBody Try.prog 93 := ⟨by kernel_rfl⟩
instance : HasBody Try.prog 94 := ⟨by kernel_rfl⟩
instance : HasBody Try.prog 95 := ⟨by kernel_rfl⟩
instance : HasBody Try.prog 96 := ⟨by kernel_rfl⟩
instance : HasBody Try.prog 97 := ⟨by kernel_rfl⟩
instance : HasBody Try.prog 98 := ⟨by kernel_rfl⟩
instance : HasBody Try.prog 99 := ⟨by kernel_rfl⟩
instance : HasBody Try.prog 100 := ⟨by kernel_rfl⟩
instance : HasBody Try.prog 101 := ⟨by kernel_rfl⟩
instance : HasBody Try.prog 102 := ⟨by kernel_rfl⟩
instance : HasBody Try.prog 103 := ⟨by kernel_rfl⟩
instance : HasBody Try.prog 104 := ⟨by kernel_rfl⟩
instance : HasBody Try.prog 105 := ⟨by kernel_rfl⟩
instance : HasBody Try.prog 106 := ⟨by kernel_rfl⟩
instance : HasBody Try.prog 107 := ⟨by kernel_rfl⟩
instance : HasBody Try.prog 108 := ⟨by kernel_rfl⟩
instance : HasBody Try.prog 124 := ⟨by kernel_rfl⟩
instance : HasBody Try.prog 125 := ⟨by kernel_rfl⟩
instance : HasBody Try.prog 126 := ⟨by kernel_rfl⟩
instance : HasBody Try.prog 127 := ⟨by kernel_rfl⟩
instance : HasBody Try.prog 128 := ⟨by kernel_rfl⟩
instance : HasBody Try.prog 129 := ⟨by kernel_rfl⟩
end Go.Proofs.Ytbhgpnbfdjoglaa
end
