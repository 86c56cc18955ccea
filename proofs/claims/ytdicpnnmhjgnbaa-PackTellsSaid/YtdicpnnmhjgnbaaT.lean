/- The types and functions of this translation, told for the walks: written by a program out of the loaded tables. -/
import Derived.Test.YtdicpnnmhjgnbaaF7
import Derived.Test.YtdicpnnmhjgnbaaProg
import Derived.KernelRfl
namespace Go.Proofs.Ytdicpnnmhjgnbaa.FW
open Go Go.Proofs
instance ty0 : Ty Try.prog 0 (TypeDesc.tuple #[]) 1 0 [Value.tuple #[]] := ⟨Try.underlying0, Try.t0, _, by kernel_rfl, rfl, rfl, rfl, rfl⟩
instance ty1 : Ty Try.prog 1 (TypeDesc.func #[] #[] false) 1 8 [Value.nilFunc] := ⟨Try.underlying1, Try.t1, _, by kernel_rfl, rfl, rfl, rfl, rfl⟩
instance ty2 : Ty Try.prog 2 (TypeDesc.int IntKind.i64) 1 8 [Value.int IntKind.i64 0] := ⟨Try.underlying2, Try.t2, _, by kernel_rfl, rfl, rfl, rfl, rfl⟩
instance ty3 : Ty Try.prog 3 (TypeDesc.int IntKind.i64) 1 8 [Value.int IntKind.i64 0] := ⟨Try.underlying3, Try.t3, _, by kernel_rfl, rfl, rfl, rfl, rfl⟩
instance ty4 : Ty Try.prog 4 (TypeDesc.bool) 1 1 [Value.bool false] := ⟨Try.underlying4, Try.t4, _, by kernel_rfl, rfl, rfl, rfl, rfl⟩
instance ty5 : Ty Try.prog 5 (TypeDesc.int IntKind.u8) 1 1 [Value.int IntKind.u8 0] := ⟨Try.underlying5, Try.t5, _, by kernel_rfl, rfl, rfl, rfl, rfl⟩
instance ty6 : Ty Try.prog 6 (TypeDesc.int IntKind.u8) 1 1 [Value.int IntKind.u8 0] := ⟨Try.underlying6, Try.t6, _, by kernel_rfl, rfl, rfl, rfl, rfl⟩
instance ty7 : Ty Try.prog 7 (TypeDesc.struct #[{ name := "x", type := 2, offset := 0, embedded := false, tag := "", pkgPath := "runtime", byteOffset := 0 }, { name := "y", type := 3, offset := 1, embedded := false, tag := "", pkgPath := "runtime", byteOffset := 8 }, { name := "signed", type := 4, offset := 2, embedded := false, tag := "", pkgPath := "runtime", byteOffset := 16 }, { name := "code", type := 6, offset := 3, embedded := false, tag := "", pkgPath := "runtime", byteOffset := 17 }]) 4 24 [Value.int IntKind.i64 0, Value.int IntKind.i64 0, Value.bool false, Value.int IntKind.u8 0] := ⟨Try.underlying7, Try.t7, _, by kernel_rfl, rfl, rfl, rfl, rfl⟩
instance fd7_0 : Fld Try.prog 7 0 2 0 1 := ⟨_, _, Try.underlying7, rfl, rfl, rfl, Try.sizeOf2⟩
instance fd7_1 : Fld Try.prog 7 1 3 1 1 := ⟨_, _, Try.underlying7, rfl, rfl, rfl, Try.sizeOf3⟩
instance fd7_2 : Fld Try.prog 7 2 4 2 1 := ⟨_, _, Try.underlying7, rfl, rfl, rfl, Try.sizeOf4⟩
instance fd7_3 : Fld Try.prog 7 3 6 3 1 := ⟨_, _, Try.underlying7, rfl, rfl, rfl, Try.sizeOf6⟩
instance fl7 : Flds Try.prog 7 [(0, 1), (1, 1), (2, 1), (3, 1)] := ⟨fun fs h w => by
  rw [Try.underlying7] at h
  cases h
  simp [Try.sizeOf2, Try.sizeOf3, Try.sizeOf4, Try.sizeOf6]⟩
instance ty8 : Ty Try.prog 8 (TypeDesc.struct #[{ name := "x", type := 2, offset := 0, embedded := false, tag := "", pkgPath := "runtime", byteOffset := 0 }, { name := "y", type := 3, offset := 1, embedded := false, tag := "", pkgPath := "runtime", byteOffset := 8 }, { name := "signed", type := 4, offset := 2, embedded := false, tag := "", pkgPath := "runtime", byteOffset := 16 }, { name := "code", type := 6, offset := 3, embedded := false, tag := "", pkgPath := "runtime", byteOffset := 17 }]) 4 24 [Value.int IntKind.i64 0, Value.int IntKind.i64 0, Value.bool false, Value.int IntKind.u8 0] := ⟨Try.underlying8, Try.t8, _, by kernel_rfl, rfl, rfl, rfl, rfl⟩
instance fd8_0 : Fld Try.prog 8 0 2 0 1 := ⟨_, _, Try.underlying8, rfl, rfl, rfl, Try.sizeOf2⟩
instance fd8_1 : Fld Try.prog 8 1 3 1 1 := ⟨_, _, Try.underlying8, rfl, rfl, rfl, Try.sizeOf3⟩
instance fd8_2 : Fld Try.prog 8 2 4 2 1 := ⟨_, _, Try.underlying8, rfl, rfl, rfl, Try.sizeOf4⟩
instance fd8_3 : Fld Try.prog 8 3 6 3 1 := ⟨_, _, Try.underlying8, rfl, rfl, rfl, Try.sizeOf6⟩
instance fl8 : Flds Try.prog 8 [(0, 1), (1, 1), (2, 1), (3, 1)] := ⟨fun fs h w => by
  rw [Try.underlying8] at h
  cases h
  simp [Try.sizeOf2, Try.sizeOf3, Try.sizeOf4, Try.sizeOf6]⟩
instance ty9 : Ty Try.prog 9 (TypeDesc.string) 1 16 [Value.string { data := #[] }] := ⟨Try.underlying9, Try.t9, _, by kernel_rfl, rfl, rfl, rfl, rfl⟩
instance ty10 : Ty Try.prog 10 (TypeDesc.string) 1 16 [Value.string { data := #[] }] := ⟨Try.underlying10, Try.t10, _, by kernel_rfl, rfl, rfl, rfl, rfl⟩
instance ty11 : Ty Try.prog 11 (TypeDesc.string) 1 16 [Value.string { data := #[] }] := ⟨Try.underlying11, Try.t11, _, by kernel_rfl, rfl, rfl, rfl, rfl⟩
instance ty12 : Ty Try.prog 12 (TypeDesc.int IntKind.u64) 1 8 [Value.int IntKind.u64 0] := ⟨Try.underlying12, Try.t12, _, by kernel_rfl, rfl, rfl, rfl, rfl⟩
instance ty13 : Ty Try.prog 13 (TypeDesc.struct #[{ name := "msg", type := 9, offset := 0, embedded := false, tag := "", pkgPath := "runtime", byteOffset := 0 }, { name := "addr", type := 12, offset := 1, embedded := false, tag := "", pkgPath := "runtime", byteOffset := 16 }]) 2 24 [Value.string { data := #[] }, Value.int IntKind.u64 0] := ⟨Try.underlying13, Try.t13, _, by kernel_rfl, rfl, rfl, rfl, rfl⟩
instance fd13_0 : Fld Try.prog 13 0 9 0 1 := ⟨_, _, Try.underlying13, rfl, rfl, rfl, Try.sizeOf9⟩
instance fd13_1 : Fld Try.prog 13 1 12 1 1 := ⟨_, _, Try.underlying13, rfl, rfl, rfl, Try.sizeOf12⟩
instance fl13 : Flds Try.prog 13 [(0, 1), (1, 1)] := ⟨fun fs h w => by
  rw [Try.underlying13] at h
  cases h
  simp [Try.sizeOf12, Try.sizeOf9]⟩
instance ty14 : Ty Try.prog 14 (TypeDesc.struct #[{ name := "msg", type := 9, offset := 0, embedded := false, tag := "", pkgPath := "runtime", byteOffset := 0 }, { name := "addr", type := 12, offset := 1, embedded := false, tag := "", pkgPath := "runtime", byteOffset := 16 }]) 2 24 [Value.string { data := #[] }, Value.int IntKind.u64 0] := ⟨Try.underlying14, Try.t14, _, by kernel_rfl, rfl, rfl, rfl, rfl⟩
instance fd14_0 : Fld Try.prog 14 0 9 0 1 := ⟨_, _, Try.underlying14, rfl, rfl, rfl, Try.sizeOf9⟩
instance fd14_1 : Fld Try.prog 14 1 12 1 1 := ⟨_, _, Try.underlying14, rfl, rfl, rfl, Try.sizeOf12⟩
instance fl14 : Flds Try.prog 14 [(0, 1), (1, 1)] := ⟨fun fs h w => by
  rw [Try.underlying14] at h
  cases h
  simp [Try.sizeOf12, Try.sizeOf9]⟩
instance ty15 : Ty Try.prog 15 (TypeDesc.pointer 89) 1 8 [Value.pointer none] := ⟨Try.underlying15, Try.t15, _, by kernel_rfl, rfl, rfl, rfl, rfl⟩
instance ty16 : Ty Try.prog 16 (TypeDesc.pointer 92) 1 8 [Value.pointer none] := ⟨Try.underlying16, Try.t16, _, by kernel_rfl, rfl, rfl, rfl, rfl⟩
instance ty17 : Ty Try.prog 17 (TypeDesc.pointer 100) 1 8 [Value.pointer none] := ⟨Try.underlying17, Try.t17, _, by kernel_rfl, rfl, rfl, rfl, rfl⟩
instance ty18 : Ty Try.prog 18 (TypeDesc.struct #[{ name := "typ", type := 17, offset := 0, embedded := false, tag := "", pkgPath := "internal/runtime/maps", byteOffset := 0 }]) 1 8 [Value.pointer none] := ⟨Try.underlying18, Try.t18, _, by kernel_rfl, rfl, rfl, rfl, rfl⟩
instance fd18_0 : Fld Try.prog 18 0 17 0 1 := ⟨_, _, Try.underlying18, rfl, rfl, rfl, Try.sizeOf17⟩
instance fl18 : Flds Try.prog 18 [(0, 1)] := ⟨fun fs h w => by
  rw [Try.underlying18] at h
  cases h
  simp [Try.sizeOf17]⟩
instance ty19 : Ty Try.prog 19 (TypeDesc.struct #[{ name := "typ", type := 17, offset := 0, embedded := false, tag := "", pkgPath := "internal/runtime/maps", byteOffset := 0 }]) 1 8 [Value.pointer none] := ⟨Try.underlying19, Try.t19, _, by kernel_rfl, rfl, rfl, rfl, rfl⟩
instance fd19_0 : Fld Try.prog 19 0 17 0 1 := ⟨_, _, Try.underlying19, rfl, rfl, rfl, Try.sizeOf17⟩
instance fl19 : Flds Try.prog 19 [(0, 1)] := ⟨fun fs h w => by
  rw [Try.underlying19] at h
  cases h
  simp [Try.sizeOf17]⟩
instance ty20 : Ty Try.prog 20 (TypeDesc.interface #[]) 1 16 [Value.nilIface] := ⟨Try.underlying20, Try.t20, _, by kernel_rfl, rfl, rfl, rfl, rfl⟩
instance ty21 : Ty Try.prog 21 (TypeDesc.int IntKind.i32) 1 4 [Value.int IntKind.i32 0] := ⟨Try.underlying21, Try.t21, _, by kernel_rfl, rfl, rfl, rfl, rfl⟩
instance ty22 : Ty Try.prog 22 (TypeDesc.func #[] #[4] false) 1 8 [Value.nilFunc] := ⟨Try.underlying22, Try.t22, _, by kernel_rfl, rfl, rfl, rfl, rfl⟩
instance ty23 : Ty Try.prog 23 (TypeDesc.slice 5) 1 24 [Value.slice none 0 0] := ⟨Try.underlying23, Try.t23, _, by kernel_rfl, rfl, rfl, rfl, rfl⟩
instance ty24 : Ty Try.prog 24 (TypeDesc.struct #[{ name := "b", type := 23, offset := 0, embedded := false, tag := "", pkgPath := "winnower/octet", byteOffset := 0 }]) 1 24 [Value.slice none 0 0] := ⟨Try.underlying24, Try.t24, _, by kernel_rfl, rfl, rfl, rfl, rfl⟩
instance fd24_0 : Fld Try.prog 24 0 23 0 1 := ⟨_, _, Try.underlying24, rfl, rfl, rfl, Try.sizeOf23⟩
instance fl24 : Flds Try.prog 24 [(0, 1)] := ⟨fun fs h w => by
  rw [Try.underlying24] at h
  cases h
  simp [Try.sizeOf23]⟩
instance ty25 : Ty Try.prog 25 (TypeDesc.struct #[{ name := "b", type := 23, offset := 0, embedded := false, tag := "", pkgPath := "winnower/octet", byteOffset := 0 }]) 1 24 [Value.slice none 0 0] := ⟨Try.underlying25, Try.t25, _, by kernel_rfl, rfl, rfl, rfl, rfl⟩
instance fd25_0 : Fld Try.prog 25 0 23 0 1 := ⟨_, _, Try.underlying25, rfl, rfl, rfl, Try.sizeOf23⟩
instance fl25 : Flds Try.prog 25 [(0, 1)] := ⟨fun fs h w => by
  rw [Try.underlying25] at h
  cases h
  simp [Try.sizeOf23]⟩
instance ty26 : Ty Try.prog 26 (TypeDesc.func #[30] #[] true) 1 8 [Value.nilFunc] := ⟨Try.underlying26, Try.t26, _, by kernel_rfl, rfl, rfl, rfl, rfl⟩
instance ty27 : Ty Try.prog 27 (TypeDesc.func #[] #[23] false) 1 8 [Value.nilFunc] := ⟨Try.underlying27, Try.t27, _, by kernel_rfl, rfl, rfl, rfl, rfl⟩
instance ty28 : Ty Try.prog 28 (TypeDesc.int IntKind.u64) 1 8 [Value.int IntKind.u64 0] := ⟨Try.underlying28, Try.t28, _, by kernel_rfl, rfl, rfl, rfl, rfl⟩
instance ty29 : Ty Try.prog 29 (TypeDesc.func #[3] #[4] false) 1 8 [Value.nilFunc] := ⟨Try.underlying29, Try.t29, _, by kernel_rfl, rfl, rfl, rfl, rfl⟩
instance ty30 : Ty Try.prog 30 (TypeDesc.slice 3) 1 24 [Value.slice none 0 0] := ⟨Try.underlying30, Try.t30, _, by kernel_rfl, rfl, rfl, rfl, rfl⟩
instance ty31 : Ty Try.prog 31 (TypeDesc.func #[23, 23] #[4] false) 1 8 [Value.nilFunc] := ⟨Try.underlying31, Try.t31, _, by kernel_rfl, rfl, rfl, rfl, rfl⟩
instance ty32 : Ty Try.prog 32 (TypeDesc.func #[30] #[23] true) 1 8 [Value.nilFunc] := ⟨Try.underlying32, Try.t32, _, by kernel_rfl, rfl, rfl, rfl, rfl⟩
instance ty33 : Ty Try.prog 33 (TypeDesc.pointer 75) 1 8 [Value.pointer none] := ⟨Try.underlying33, Try.t33, _, by kernel_rfl, rfl, rfl, rfl, rfl⟩
instance ty34 : Ty Try.prog 34 (TypeDesc.func #[23] #[33] false) 1 8 [Value.nilFunc] := ⟨Try.underlying34, Try.t34, _, by kernel_rfl, rfl, rfl, rfl, rfl⟩
instance ty35 : Ty Try.prog 35 (TypeDesc.func #[23] #[] false) 1 8 [Value.nilFunc] := ⟨Try.underlying35, Try.t35, _, by kernel_rfl, rfl, rfl, rfl, rfl⟩
instance ty36 : Ty Try.prog 36 (TypeDesc.func #[] #[3] false) 1 8 [Value.nilFunc] := ⟨Try.underlying36, Try.t36, _, by kernel_rfl, rfl, rfl, rfl, rfl⟩
instance ty37 : Ty Try.prog 37 (TypeDesc.func #[30] #[4] false) 1 8 [Value.nilFunc] := ⟨Try.underlying37, Try.t37, _, by kernel_rfl, rfl, rfl, rfl, rfl⟩
instance ty38 : Ty Try.prog 38 (TypeDesc.slice 23) 1 24 [Value.slice none 0 0] := ⟨Try.underlying38, Try.t38, _, by kernel_rfl, rfl, rfl, rfl, rfl⟩
instance ty39 : Ty Try.prog 39 (TypeDesc.func #[38] #[4] false) 1 8 [Value.nilFunc] := ⟨Try.underlying39, Try.t39, _, by kernel_rfl, rfl, rfl, rfl, rfl⟩
instance ty40 : Ty Try.prog 40 (TypeDesc.func #[38] #[23] true) 1 8 [Value.nilFunc] := ⟨Try.underlying40, Try.t40, _, by kernel_rfl, rfl, rfl, rfl, rfl⟩
instance ty41 : Ty Try.prog 41 (TypeDesc.int IntKind.u32) 1 4 [Value.int IntKind.u32 0] := ⟨Try.underlying41, Try.t41, _, by kernel_rfl, rfl, rfl, rfl, rfl⟩
instance ty42 : Ty Try.prog 42 (TypeDesc.func #[38] #[41] true) 1 8 [Value.nilFunc] := ⟨Try.underlying42, Try.t42, _, by kernel_rfl, rfl, rfl, rfl, rfl⟩
instance ty43 : Ty Try.prog 43 (TypeDesc.func #[23] #[41] false) 1 8 [Value.nilFunc] := ⟨Try.underlying43, Try.t43, _, by kernel_rfl, rfl, rfl, rfl, rfl⟩
instance ty44 : Ty Try.prog 44 (TypeDesc.func #[38, 3, 5] #[4] false) 1 8 [Value.nilFunc] := ⟨Try.underlying44, Try.t44, _, by kernel_rfl, rfl, rfl, rfl, rfl⟩
instance ty45 : Ty Try.prog 45 (TypeDesc.func #[38, 38] #[4] false) 1 8 [Value.nilFunc] := ⟨Try.underlying45, Try.t45, _, by kernel_rfl, rfl, rfl, rfl, rfl⟩
instance ty46 : Ty Try.prog 46 (TypeDesc.int IntKind.i64) 1 8 [Value.int IntKind.i64 0] := ⟨Try.underlying46, Try.t46, _, by kernel_rfl, rfl, rfl, rfl, rfl⟩
instance ty47 : Ty Try.prog 47 (TypeDesc.tuple #[23, 46]) 1 0 [Value.tuple #[Value.slice none 0 0, Value.int IntKind.i64 0]] := ⟨Try.underlying47, Try.t47, _, by kernel_rfl, rfl, rfl, rfl, rfl⟩
instance ty48 : Ty Try.prog 48 (TypeDesc.func #[30] #[23, 46] true) 1 8 [Value.nilFunc] := ⟨Try.underlying48, Try.t48, _, by kernel_rfl, rfl, rfl, rfl, rfl⟩
instance ty49 : Ty Try.prog 49 (TypeDesc.tuple #[23, 3]) 1 0 [Value.tuple #[Value.slice none 0 0, Value.int IntKind.i64 0]] := ⟨Try.underlying49, Try.t49, _, by kernel_rfl, rfl, rfl, rfl, rfl⟩
instance ty50 : Ty Try.prog 50 (TypeDesc.func #[30] #[23, 3] false) 1 8 [Value.nilFunc] := ⟨Try.underlying50, Try.t50, _, by kernel_rfl, rfl, rfl, rfl, rfl⟩
instance ty51 : Ty Try.prog 51 (TypeDesc.func #[23] #[23] false) 1 8 [Value.nilFunc] := ⟨Try.underlying51, Try.t51, _, by kernel_rfl, rfl, rfl, rfl, rfl⟩
instance ty52 : Ty Try.prog 52 (TypeDesc.func #[38] #[] true) 1 8 [Value.nilFunc] := ⟨Try.underlying52, Try.t52, _, by kernel_rfl, rfl, rfl, rfl, rfl⟩
instance ty53 : Ty Try.prog 53 (TypeDesc.func #[23] #[] true) 1 8 [Value.nilFunc] := ⟨Try.underlying53, Try.t53, _, by kernel_rfl, rfl, rfl, rfl, rfl⟩
instance ty54 : Ty Try.prog 54 (TypeDesc.func #[3] #[23] false) 1 8 [Value.nilFunc] := ⟨Try.underlying54, Try.t54, _, by kernel_rfl, rfl, rfl, rfl, rfl⟩
instance ty55 : Ty Try.prog 55 (TypeDesc.func #[38, 23] #[4] false) 1 8 [Value.nilFunc] := ⟨Try.underlying55, Try.t55, _, by kernel_rfl, rfl, rfl, rfl, rfl⟩
instance ty56 : Ty Try.prog 56 (TypeDesc.func #[38, 3] #[4] false) 1 8 [Value.nilFunc] := ⟨Try.underlying56, Try.t56, _, by kernel_rfl, rfl, rfl, rfl, rfl⟩
instance ty57 : Ty Try.prog 57 (TypeDesc.pointer 25) 1 8 [Value.pointer none] := ⟨Try.underlying57, Try.t57, _, by kernel_rfl, rfl, rfl, rfl, rfl⟩
instance ty58 : Ty Try.prog 58 (TypeDesc.func #[80] #[] true) 1 8 [Value.nilFunc] := ⟨Try.underlying58, Try.t58, _, by kernel_rfl, rfl, rfl, rfl, rfl⟩
instance ty59 : Ty Try.prog 59 (TypeDesc.func #[3, 23] #[4] false) 1 8 [Value.nilFunc] := ⟨Try.underlying59, Try.t59, _, by kernel_rfl, rfl, rfl, rfl, rfl⟩
instance ty60 : Ty Try.prog 60 (TypeDesc.pointer 62) 1 8 [Value.pointer none] := ⟨Try.underlying60, Try.t60, _, by kernel_rfl, rfl, rfl, rfl, rfl⟩
instance ty61 : Ty Try.prog 61 (TypeDesc.struct #[{ name := "B", type := 23, offset := 0, embedded := false, tag := "", pkgPath := "", byteOffset := 0 }, { name := "E", type := 4, offset := 1, embedded := false, tag := "", pkgPath := "", byteOffset := 24 }]) 2 32 [Value.slice none 0 0, Value.bool false] := ⟨Try.underlying61, Try.t61, _, by kernel_rfl, rfl, rfl, rfl, rfl⟩
instance fd61_0 : Fld Try.prog 61 0 23 0 1 := ⟨_, _, Try.underlying61, rfl, rfl, rfl, Try.sizeOf23⟩
instance fd61_1 : Fld Try.prog 61 1 4 1 1 := ⟨_, _, Try.underlying61, rfl, rfl, rfl, Try.sizeOf4⟩
instance fl61 : Flds Try.prog 61 [(0, 1), (1, 1)] := ⟨fun fs h w => by
  rw [Try.underlying61] at h
  cases h
  simp [Try.sizeOf23, Try.sizeOf4]⟩
instance ty62 : Ty Try.prog 62 (TypeDesc.struct #[{ name := "B", type := 23, offset := 0, embedded := false, tag := "", pkgPath := "", byteOffset := 0 }, { name := "E", type := 4, offset := 1, embedded := false, tag := "", pkgPath := "", byteOffset := 24 }]) 2 32 [Value.slice none 0 0, Value.bool false] := ⟨Try.underlying62, Try.t62, _, by kernel_rfl, rfl, rfl, rfl, rfl⟩
instance fd62_0 : Fld Try.prog 62 0 23 0 1 := ⟨_, _, Try.underlying62, rfl, rfl, rfl, Try.sizeOf23⟩
instance fd62_1 : Fld Try.prog 62 1 4 1 1 := ⟨_, _, Try.underlying62, rfl, rfl, rfl, Try.sizeOf4⟩
instance fl62 : Flds Try.prog 62 [(0, 1), (1, 1)] := ⟨fun fs h w => by
  rw [Try.underlying62] at h
  cases h
  simp [Try.sizeOf23, Try.sizeOf4]⟩
instance ty63 : Ty Try.prog 63 (TypeDesc.pointer 3) 1 8 [Value.pointer none] := ⟨Try.underlying63, Try.t63, _, by kernel_rfl, rfl, rfl, rfl, rfl⟩
instance ty64 : Ty Try.prog 64 (TypeDesc.func #[23, 30, 30] #[4] false) 1 8 [Value.nilFunc] := ⟨Try.underlying64, Try.t64, _, by kernel_rfl, rfl, rfl, rfl, rfl⟩
instance ty65 : Ty Try.prog 65 (TypeDesc.tuple #[30, 46]) 1 0 [Value.tuple #[Value.slice none 0 0, Value.int IntKind.i64 0]] := ⟨Try.underlying65, Try.t65, _, by kernel_rfl, rfl, rfl, rfl, rfl⟩
instance ty66 : Ty Try.prog 66 (TypeDesc.func #[23] #[30, 46] false) 1 8 [Value.nilFunc] := ⟨Try.underlying66, Try.t66, _, by kernel_rfl, rfl, rfl, rfl, rfl⟩
instance ty67 : Ty Try.prog 67 (TypeDesc.tuple #[30, 3]) 1 0 [Value.tuple #[Value.slice none 0 0, Value.int IntKind.i64 0]] := ⟨Try.underlying67, Try.t67, _, by kernel_rfl, rfl, rfl, rfl, rfl⟩
instance ty68 : Ty Try.prog 68 (TypeDesc.func #[23] #[30, 3] false) 1 8 [Value.nilFunc] := ⟨Try.underlying68, Try.t68, _, by kernel_rfl, rfl, rfl, rfl, rfl⟩
instance ty69 : Ty Try.prog 69 (TypeDesc.func #[30, 30] #[4] false) 1 8 [Value.nilFunc] := ⟨Try.underlying69, Try.t69, _, by kernel_rfl, rfl, rfl, rfl, rfl⟩
instance ty70 : Ty Try.prog 70 (TypeDesc.func #[23] #[4] false) 1 8 [Value.nilFunc] := ⟨Try.underlying70, Try.t70, _, by kernel_rfl, rfl, rfl, rfl, rfl⟩
instance ty71 : Ty Try.prog 71 (TypeDesc.func #[3, 3] #[4] false) 1 8 [Value.nilFunc] := ⟨Try.underlying71, Try.t71, _, by kernel_rfl, rfl, rfl, rfl, rfl⟩
instance ty72 : Ty Try.prog 72 (TypeDesc.func #[3, 30] #[4] false) 1 8 [Value.nilFunc] := ⟨Try.underlying72, Try.t72, _, by kernel_rfl, rfl, rfl, rfl, rfl⟩
instance ty73 : Ty Try.prog 73 (TypeDesc.int IntKind.u64) 1 8 [Value.int IntKind.u64 0] := ⟨Try.underlying73, Try.t73, _, by kernel_rfl, rfl, rfl, rfl, rfl⟩
instance ty74 : Ty Try.prog 74 (TypeDesc.struct #[{ name := "rest", type := 23, offset := 0, embedded := false, tag := "", pkgPath := "winnower/octet", byteOffset := 0 }, { name := "bad", type := 4, offset := 1, embedded := false, tag := "", pkgPath := "winnower/octet", byteOffset := 24 }]) 2 32 [Value.slice none 0 0, Value.bool false] := ⟨Try.underlying74, Try.t74, _, by kernel_rfl, rfl, rfl, rfl, rfl⟩
instance fd74_0 : Fld Try.prog 74 0 23 0 1 := ⟨_, _, Try.underlying74, rfl, rfl, rfl, Try.sizeOf23⟩
instance fd74_1 : Fld Try.prog 74 1 4 1 1 := ⟨_, _, Try.underlying74, rfl, rfl, rfl, Try.sizeOf4⟩
instance fl74 : Flds Try.prog 74 [(0, 1), (1, 1)] := ⟨fun fs h w => by
  rw [Try.underlying74] at h
  cases h
  simp [Try.sizeOf23, Try.sizeOf4]⟩
instance ty75 : Ty Try.prog 75 (TypeDesc.struct #[{ name := "rest", type := 23, offset := 0, embedded := false, tag := "", pkgPath := "winnower/octet", byteOffset := 0 }, { name := "bad", type := 4, offset := 1, embedded := false, tag := "", pkgPath := "winnower/octet", byteOffset := 24 }]) 2 32 [Value.slice none 0 0, Value.bool false] := ⟨Try.underlying75, Try.t75, _, by kernel_rfl, rfl, rfl, rfl, rfl⟩
instance fd75_0 : Fld Try.prog 75 0 23 0 1 := ⟨_, _, Try.underlying75, rfl, rfl, rfl, Try.sizeOf23⟩
instance fd75_1 : Fld Try.prog 75 1 4 1 1 := ⟨_, _, Try.underlying75, rfl, rfl, rfl, Try.sizeOf4⟩
instance fl75 : Flds Try.prog 75 [(0, 1), (1, 1)] := ⟨fun fs h w => by
  rw [Try.underlying75] at h
  cases h
  simp [Try.sizeOf23, Try.sizeOf4]⟩
instance ty76 : Ty Try.prog 76 (TypeDesc.func #[38, 23] #[23] false) 1 8 [Value.nilFunc] := ⟨Try.underlying76, Try.t76, _, by kernel_rfl, rfl, rfl, rfl, rfl⟩
instance ty77 : Ty Try.prog 77 (TypeDesc.func #[3, 30] #[23, 46] false) 1 8 [Value.nilFunc] := ⟨Try.underlying77, Try.t77, _, by kernel_rfl, rfl, rfl, rfl, rfl⟩
instance ty78 : Ty Try.prog 78 (TypeDesc.slice 79) 1 24 [Value.slice none 0 0] := ⟨Try.underlying78, Try.t78, _, by kernel_rfl, rfl, rfl, rfl, rfl⟩
instance ty79 : Ty Try.prog 79 (TypeDesc.array 2 3) 2 16 [Value.int IntKind.i64 0, Value.int IntKind.i64 0] := ⟨Try.underlying79, Try.t79, _, by kernel_rfl, rfl, rfl, rfl, rfl⟩
instance ty80 : Ty Try.prog 80 (TypeDesc.slice 63) 1 24 [Value.slice none 0 0] := ⟨Try.underlying80, Try.t80, _, by kernel_rfl, rfl, rfl, rfl, rfl⟩
instance ty81 : Ty Try.prog 81 (TypeDesc.func #[33, 3, 3] #[30] false) 1 8 [Value.nilFunc] := ⟨Try.underlying81, Try.t81, _, by kernel_rfl, rfl, rfl, rfl, rfl⟩
instance ty82 : Ty Try.prog 82 (TypeDesc.func #[30] #[30] false) 1 8 [Value.nilFunc] := ⟨Try.underlying82, Try.t82, _, by kernel_rfl, rfl, rfl, rfl, rfl⟩
instance ty83 : Ty Try.prog 83 (TypeDesc.tuple #[30, 4]) 1 0 [Value.tuple #[Value.slice none 0 0, Value.bool false]] := ⟨Try.underlying83, Try.t83, _, by kernel_rfl, rfl, rfl, rfl, rfl⟩
instance ty84 : Ty Try.prog 84 (TypeDesc.func #[30] #[30, 4] false) 1 8 [Value.nilFunc] := ⟨Try.underlying84, Try.t84, _, by kernel_rfl, rfl, rfl, rfl, rfl⟩
instance ty85 : Ty Try.prog 85 (TypeDesc.func #[3] #[3] false) 1 8 [Value.nilFunc] := ⟨Try.underlying85, Try.t85, _, by kernel_rfl, rfl, rfl, rfl, rfl⟩
instance ty86 : Ty Try.prog 86 (TypeDesc.func #[33, 3] #[30] false) 1 8 [Value.nilFunc] := ⟨Try.underlying86, Try.t86, _, by kernel_rfl, rfl, rfl, rfl, rfl⟩
instance ty87 : Ty Try.prog 87 (TypeDesc.func #[] #[9] false) 1 8 [Value.nilFunc] := ⟨Try.underlying87, Try.t87, _, by kernel_rfl, rfl, rfl, rfl, rfl⟩
instance ty88 : Ty Try.prog 88 (TypeDesc.struct #[{ name := "_interface", type := 17, offset := 0, embedded := false, tag := "", pkgPath := "runtime", byteOffset := 0 }, { name := "concrete", type := 17, offset := 1, embedded := false, tag := "", pkgPath := "runtime", byteOffset := 8 }, { name := "asserted", type := 17, offset := 2, embedded := false, tag := "", pkgPath := "runtime", byteOffset := 16 }, { name := "missingMethod", type := 9, offset := 3, embedded := false, tag := "", pkgPath := "runtime", byteOffset := 24 }]) 4 40 [Value.pointer none, Value.pointer none, Value.pointer none, Value.string { data := #[] }] := ⟨Try.underlying88, Try.t88, _, by kernel_rfl, rfl, rfl, rfl, rfl⟩
instance fd88_0 : Fld Try.prog 88 0 17 0 1 := ⟨_, _, Try.underlying88, rfl, rfl, rfl, Try.sizeOf17⟩
instance fd88_1 : Fld Try.prog 88 1 17 1 1 := ⟨_, _, Try.underlying88, rfl, rfl, rfl, Try.sizeOf17⟩
instance fd88_2 : Fld Try.prog 88 2 17 2 1 := ⟨_, _, Try.underlying88, rfl, rfl, rfl, Try.sizeOf17⟩
instance fd88_3 : Fld Try.prog 88 3 9 3 1 := ⟨_, _, Try.underlying88, rfl, rfl, rfl, Try.sizeOf9⟩
instance fl88 : Flds Try.prog 88 [(0, 1), (1, 1), (2, 1), (3, 1)] := ⟨fun fs h w => by
  rw [Try.underlying88] at h
  cases h
  simp [Try.sizeOf17, Try.sizeOf9]⟩
instance ty89 : Ty Try.prog 89 (TypeDesc.struct #[{ name := "_interface", type := 17, offset := 0, embedded := false, tag := "", pkgPath := "runtime", byteOffset := 0 }, { name := "concrete", type := 17, offset := 1, embedded := false, tag := "", pkgPath := "runtime", byteOffset := 8 }, { name := "asserted", type := 17, offset := 2, embedded := false, tag := "", pkgPath := "runtime", byteOffset := 16 }, { name := "missingMethod", type := 9, offset := 3, embedded := false, tag := "", pkgPath := "runtime", byteOffset := 24 }]) 4 40 [Value.pointer none, Value.pointer none, Value.pointer none, Value.string { data := #[] }] := ⟨Try.underlying89, Try.t89, _, by kernel_rfl, rfl, rfl, rfl, rfl⟩
instance fd89_0 : Fld Try.prog 89 0 17 0 1 := ⟨_, _, Try.underlying89, rfl, rfl, rfl, Try.sizeOf17⟩
instance fd89_1 : Fld Try.prog 89 1 17 1 1 := ⟨_, _, Try.underlying89, rfl, rfl, rfl, Try.sizeOf17⟩
instance fd89_2 : Fld Try.prog 89 2 17 2 1 := ⟨_, _, Try.underlying89, rfl, rfl, rfl, Try.sizeOf17⟩
instance fd89_3 : Fld Try.prog 89 3 9 3 1 := ⟨_, _, Try.underlying89, rfl, rfl, rfl, Try.sizeOf9⟩
instance fl89 : Flds Try.prog 89 [(0, 1), (1, 1), (2, 1), (3, 1)] := ⟨fun fs h w => by
  rw [Try.underlying89] at h
  cases h
  simp [Try.sizeOf17, Try.sizeOf9]⟩
instance ty90 : Ty Try.prog 90 (TypeDesc.array 0 16) 0 0 [] := ⟨Try.underlying90, Try.t90, _, by kernel_rfl, rfl, rfl, rfl, rfl⟩
instance ty91 : Ty Try.prog 91 (TypeDesc.struct #[{ name := "_", type := 90, offset := 0, embedded := false, tag := "", pkgPath := "runtime", byteOffset := 0 }]) 0 0 [] := ⟨Try.underlying91, Try.t91, _, by kernel_rfl, rfl, rfl, rfl, rfl⟩
instance fd91_0 : Fld Try.prog 91 0 90 0 0 := ⟨_, _, Try.underlying91, rfl, rfl, rfl, Try.sizeOf90⟩
instance fl91 : Flds Try.prog 91 [(0, 0)] := ⟨fun fs h w => by
  rw [Try.underlying91] at h
  cases h
  simp [Try.sizeOf90]⟩
instance ty92 : Ty Try.prog 92 (TypeDesc.struct #[{ name := "_", type := 90, offset := 0, embedded := false, tag := "", pkgPath := "runtime", byteOffset := 0 }]) 0 0 [] := ⟨Try.underlying92, Try.t92, _, by kernel_rfl, rfl, rfl, rfl, rfl⟩
instance fd92_0 : Fld Try.prog 92 0 90 0 0 := ⟨_, _, Try.underlying92, rfl, rfl, rfl, Try.sizeOf90⟩
instance fl92 : Flds Try.prog 92 [(0, 0)] := ⟨fun fs h w => by
  rw [Try.underlying92] at h
  cases h
  simp [Try.sizeOf90]⟩
instance ty93 : Ty Try.prog 93 (TypeDesc.int IntKind.u8) 1 1 [Value.int IntKind.u8 0] := ⟨Try.underlying93, Try.t93, _, by kernel_rfl, rfl, rfl, rfl, rfl⟩
instance ty94 : Ty Try.prog 94 (TypeDesc.int IntKind.u8) 1 1 [Value.int IntKind.u8 0] := ⟨Try.underlying94, Try.t94, _, by kernel_rfl, rfl, rfl, rfl, rfl⟩
instance ty95 : Ty Try.prog 95 (TypeDesc.func #[101, 101] #[4] false) 1 8 [Value.nilFunc] := ⟨Try.underlying95, Try.t95, _, by kernel_rfl, rfl, rfl, rfl, rfl⟩
instance ty96 : Ty Try.prog 96 (TypeDesc.pointer 5) 1 8 [Value.pointer none] := ⟨Try.underlying96, Try.t96, _, by kernel_rfl, rfl, rfl, rfl, rfl⟩
instance ty97 : Ty Try.prog 97 (TypeDesc.int IntKind.i32) 1 4 [Value.int IntKind.i32 0] := ⟨Try.underlying97, Try.t97, _, by kernel_rfl, rfl, rfl, rfl, rfl⟩
instance ty98 : Ty Try.prog 98 (TypeDesc.int IntKind.i32) 1 4 [Value.int IntKind.i32 0] := ⟨Try.underlying98, Try.t98, _, by kernel_rfl, rfl, rfl, rfl, rfl⟩
instance ty99 : Ty Try.prog 99 (TypeDesc.struct #[{ name := "Size_", type := 12, offset := 0, embedded := false, tag := "", pkgPath := "", byteOffset := 0 }, { name := "PtrBytes", type := 12, offset := 1, embedded := false, tag := "", pkgPath := "", byteOffset := 8 }, { name := "Hash", type := 41, offset := 2, embedded := false, tag := "", pkgPath := "", byteOffset := 16 }, { name := "TFlag", type := 93, offset := 3, embedded := false, tag := "", pkgPath := "", byteOffset := 20 }, { name := "Align_", type := 5, offset := 4, embedded := false, tag := "", pkgPath := "", byteOffset := 21 }, { name := "FieldAlign_", type := 5, offset := 5, embedded := false, tag := "", pkgPath := "", byteOffset := 22 }, { name := "Kind_", type := 94, offset := 6, embedded := false, tag := "", pkgPath := "", byteOffset := 23 }, { name := "Equal", type := 95, offset := 7, embedded := false, tag := "", pkgPath := "", byteOffset := 24 }, { name := "GCData", type := 96, offset := 8, embedded := false, tag := "", pkgPath := "", byteOffset := 32 }, { name := "Str", type := 97, offset := 9, embedded := false, tag := "", pkgPath := "", byteOffset := 40 }, { name := "PtrToThis", type := 98, offset := 10, embedded := false, tag := "", pkgPath := "", byteOffset := 44 }]) 11 48 [Value.int IntKind.u64 0, Value.int IntKind.u64 0, Value.int IntKind.u32 0, Value.int IntKind.u8 0, Value.int IntKind.u8 0, Value.int IntKind.u8 0, Value.int IntKind.u8 0, Value.nilFunc, Value.pointer none, Value.int IntKind.i32 0, Value.int IntKind.i32 0] := ⟨Try.underlying99, Try.t99, _, by kernel_rfl, rfl, rfl, rfl, rfl⟩
instance fd99_0 : Fld Try.prog 99 0 12 0 1 := ⟨_, _, Try.underlying99, rfl, rfl, rfl, Try.sizeOf12⟩
instance fd99_1 : Fld Try.prog 99 1 12 1 1 := ⟨_, _, Try.underlying99, rfl, rfl, rfl, Try.sizeOf12⟩
instance fd99_2 : Fld Try.prog 99 2 41 2 1 := ⟨_, _, Try.underlying99, rfl, rfl, rfl, Try.sizeOf41⟩
instance fd99_3 : Fld Try.prog 99 3 93 3 1 := ⟨_, _, Try.underlying99, rfl, rfl, rfl, Try.sizeOf93⟩
instance fd99_4 : Fld Try.prog 99 4 5 4 1 := ⟨_, _, Try.underlying99, rfl, rfl, rfl, Try.sizeOf5⟩
instance fd99_5 : Fld Try.prog 99 5 5 5 1 := ⟨_, _, Try.underlying99, rfl, rfl, rfl, Try.sizeOf5⟩
instance fd99_6 : Fld Try.prog 99 6 94 6 1 := ⟨_, _, Try.underlying99, rfl, rfl, rfl, Try.sizeOf94⟩
instance fd99_7 : Fld Try.prog 99 7 95 7 1 := ⟨_, _, Try.underlying99, rfl, rfl, rfl, Try.sizeOf95⟩
instance fd99_8 : Fld Try.prog 99 8 96 8 1 := ⟨_, _, Try.underlying99, rfl, rfl, rfl, Try.sizeOf96⟩
instance fd99_9 : Fld Try.prog 99 9 97 9 1 := ⟨_, _, Try.underlying99, rfl, rfl, rfl, Try.sizeOf97⟩
instance fd99_10 : Fld Try.prog 99 10 98 10 1 := ⟨_, _, Try.underlying99, rfl, rfl, rfl, Try.sizeOf98⟩
instance fl99 : Flds Try.prog 99 [(0, 1), (1, 1), (2, 1), (3, 1), (4, 1), (5, 1), (6, 1), (7, 1), (8, 1), (9, 1), (10, 1)] := ⟨fun fs h w => by
  rw [Try.underlying99] at h
  cases h
  simp [Try.sizeOf12, Try.sizeOf41, Try.sizeOf5, Try.sizeOf93, Try.sizeOf94, Try.sizeOf95, Try.sizeOf96, Try.sizeOf97, Try.sizeOf98]⟩
instance ty100 : Ty Try.prog 100 (TypeDesc.struct #[{ name := "Size_", type := 12, offset := 0, embedded := false, tag := "", pkgPath := "", byteOffset := 0 }, { name := "PtrBytes", type := 12, offset := 1, embedded := false, tag := "", pkgPath := "", byteOffset := 8 }, { name := "Hash", type := 41, offset := 2, embedded := false, tag := "", pkgPath := "", byteOffset := 16 }, { name := "TFlag", type := 93, offset := 3, embedded := false, tag := "", pkgPath := "", byteOffset := 20 }, { name := "Align_", type := 5, offset := 4, embedded := false, tag := "", pkgPath := "", byteOffset := 21 }, { name := "FieldAlign_", type := 5, offset := 5, embedded := false, tag := "", pkgPath := "", byteOffset := 22 }, { name := "Kind_", type := 94, offset := 6, embedded := false, tag := "", pkgPath := "", byteOffset := 23 }, { name := "Equal", type := 95, offset := 7, embedded := false, tag := "", pkgPath := "", byteOffset := 24 }, { name := "GCData", type := 96, offset := 8, embedded := false, tag := "", pkgPath := "", byteOffset := 32 }, { name := "Str", type := 97, offset := 9, embedded := false, tag := "", pkgPath := "", byteOffset := 40 }, { name := "PtrToThis", type := 98, offset := 10, embedded := false, tag := "", pkgPath := "", byteOffset := 44 }]) 11 48 [Value.int IntKind.u64 0, Value.int IntKind.u64 0, Value.int IntKind.u32 0, Value.int IntKind.u8 0, Value.int IntKind.u8 0, Value.int IntKind.u8 0, Value.int IntKind.u8 0, Value.nilFunc, Value.pointer none, Value.int IntKind.i32 0, Value.int IntKind.i32 0] := ⟨Try.underlying100, Try.t100, _, by kernel_rfl, rfl, rfl, rfl, rfl⟩
instance fd100_0 : Fld Try.prog 100 0 12 0 1 := ⟨_, _, Try.underlying100, rfl, rfl, rfl, Try.sizeOf12⟩
instance fd100_1 : Fld Try.prog 100 1 12 1 1 := ⟨_, _, Try.underlying100, rfl, rfl, rfl, Try.sizeOf12⟩
instance fd100_2 : Fld Try.prog 100 2 41 2 1 := ⟨_, _, Try.underlying100, rfl, rfl, rfl, Try.sizeOf41⟩
instance fd100_3 : Fld Try.prog 100 3 93 3 1 := ⟨_, _, Try.underlying100, rfl, rfl, rfl, Try.sizeOf93⟩
instance fd100_4 : Fld Try.prog 100 4 5 4 1 := ⟨_, _, Try.underlying100, rfl, rfl, rfl, Try.sizeOf5⟩
instance fd100_5 : Fld Try.prog 100 5 5 5 1 := ⟨_, _, Try.underlying100, rfl, rfl, rfl, Try.sizeOf5⟩
instance fd100_6 : Fld Try.prog 100 6 94 6 1 := ⟨_, _, Try.underlying100, rfl, rfl, rfl, Try.sizeOf94⟩
instance fd100_7 : Fld Try.prog 100 7 95 7 1 := ⟨_, _, Try.underlying100, rfl, rfl, rfl, Try.sizeOf95⟩
instance fd100_8 : Fld Try.prog 100 8 96 8 1 := ⟨_, _, Try.underlying100, rfl, rfl, rfl, Try.sizeOf96⟩
instance fd100_9 : Fld Try.prog 100 9 97 9 1 := ⟨_, _, Try.underlying100, rfl, rfl, rfl, Try.sizeOf97⟩
instance fd100_10 : Fld Try.prog 100 10 98 10 1 := ⟨_, _, Try.underlying100, rfl, rfl, rfl, Try.sizeOf98⟩
instance fl100 : Flds Try.prog 100 [(0, 1), (1, 1), (2, 1), (3, 1), (4, 1), (5, 1), (6, 1), (7, 1), (8, 1), (9, 1), (10, 1)] := ⟨fun fs h w => by
  rw [Try.underlying100] at h
  cases h
  simp [Try.sizeOf12, Try.sizeOf41, Try.sizeOf5, Try.sizeOf93, Try.sizeOf94, Try.sizeOf95, Try.sizeOf96, Try.sizeOf97, Try.sizeOf98]⟩
instance ty101 : Ty Try.prog 101 (TypeDesc.unsafePointer) 1 8 [Value.pointer none] := ⟨Try.underlying101, Try.t101, _, by kernel_rfl, rfl, rfl, rfl, rfl⟩
instance fn2 : Fn1 Try.prog 2 := ⟨Try.call2⟩
instance fn3 : Fn1 Try.prog 3 := ⟨Try.call3⟩
instance fn4 : Fn1 Try.prog 4 := ⟨Try.call4⟩
instance fn5 : Fn1 Try.prog 5 := ⟨Try.call5⟩
instance fn6 : Fn1 Try.prog 6 := ⟨Try.call6⟩
instance fn7 : Fn1 Try.prog 7 := ⟨Try.call7⟩
instance fn8 : Fn1 Try.prog 8 := ⟨Try.call8⟩
instance fn9 : Fn1 Try.prog 9 := ⟨Try.call9⟩
instance fn10 : Fn1 Try.prog 10 := ⟨Try.call10⟩
instance fn11 : Fn1 Try.prog 11 := ⟨Try.call11⟩
instance fn12 : Fn1 Try.prog 12 := ⟨Try.call12⟩
instance fn13 : Fn1 Try.prog 13 := ⟨Try.call13⟩
instance fn14 : Fn1 Try.prog 14 := ⟨Try.call14⟩
instance fn15 : Fn1 Try.prog 15 := ⟨Try.call15⟩
instance fn16 : Fn1 Try.prog 16 := ⟨Try.call16⟩
instance fn17 : Fn1 Try.prog 17 := ⟨Try.call17⟩
instance fn18 : Fn1 Try.prog 18 := ⟨Try.call18⟩
instance fn19 : Fn1 Try.prog 19 := ⟨Try.call19⟩
instance fn20 : Fn1 Try.prog 20 := ⟨Try.call20⟩
instance fn21 : Fn1 Try.prog 21 := ⟨Try.call21⟩
instance fn22 : Fn1 Try.prog 22 := ⟨Try.call22⟩
instance fn23 : Fn1 Try.prog 23 := ⟨Try.call23⟩
instance fn24 : Fn1 Try.prog 24 := ⟨Try.call24⟩
instance fn25 : Fn1 Try.prog 25 := ⟨Try.call25⟩
instance fn26 : Fn1 Try.prog 26 := ⟨Try.call26⟩
instance fn27 : Fn1 Try.prog 27 := ⟨Try.call27⟩
instance fn28 : Fn1 Try.prog 28 := ⟨Try.call28⟩
instance fn29 : Fn1 Try.prog 29 := ⟨Try.call29⟩
instance fn30 : Fn1 Try.prog 30 := ⟨Try.call30⟩
instance fn31 : Fn1 Try.prog 31 := ⟨Try.call31⟩
instance fn32 : Fn1 Try.prog 32 := ⟨Try.call32⟩
instance fn33 : Fn1 Try.prog 33 := ⟨Try.call33⟩
instance fn34 : Fn1 Try.prog 34 := ⟨Try.call34⟩
instance fn35 : Fn1 Try.prog 35 := ⟨Try.call35⟩
instance fn36 : Fn1 Try.prog 36 := ⟨Try.call36⟩
instance fn37 : Fn1 Try.prog 37 := ⟨Try.call37⟩
instance fn38 : Fn1 Try.prog 38 := ⟨Try.call38⟩
instance fn39 : Fn1 Try.prog 39 := ⟨Try.call39⟩
instance fn40 : Fn1 Try.prog 40 := ⟨Try.call40⟩
instance fn41 : Fn1 Try.prog 41 := ⟨Try.call41⟩
instance fn42 : Fn1 Try.prog 42 := ⟨Try.call42⟩
instance fn43 : Fn1 Try.prog 43 := ⟨Try.call43⟩
instance fn44 : Fn1 Try.prog 44 := ⟨Try.call44⟩
instance fn45 : Fn1 Try.prog 45 := ⟨Try.call45⟩
instance fn46 : Fn1 Try.prog 46 := ⟨Try.call46⟩
instance fn47 : Fn1 Try.prog 47 := ⟨Try.call47⟩
instance fn48 : Fn1 Try.prog 48 := ⟨Try.call48⟩
instance fn49 : Fn1 Try.prog 49 := ⟨Try.call49⟩
instance fn50 : Fn1 Try.prog 50 := ⟨Try.call50⟩
instance fn51 : Fn1 Try.prog 51 := ⟨Try.call51⟩
instance fn52 : Fn1 Try.prog 52 := ⟨Try.call52⟩
instance fn53 : Fn1 Try.prog 53 := ⟨Try.call53⟩
instance fn54 : Fn1 Try.prog 54 := ⟨Try.call54⟩
instance fn55 : Fn1 Try.prog 55 := ⟨Try.call55⟩
instance fn56 : Fn1 Try.prog 56 := ⟨Try.call56⟩
instance fn57 : Fn1 Try.prog 57 := ⟨Try.call57⟩
instance fn58 : Fn1 Try.prog 58 := ⟨Try.call58⟩
instance fn59 : Fn1 Try.prog 59 := ⟨Try.call59⟩
instance fn60 : Fn1 Try.prog 60 := ⟨Try.call60⟩
instance fn61 : Fn1 Try.prog 61 := ⟨Try.call61⟩
instance fn62 : Fn1 Try.prog 62 := ⟨Try.call62⟩
instance fn63 : Fn1 Try.prog 63 := ⟨Try.call63⟩
instance fn64 : Fn1 Try.prog 64 := ⟨Try.call64⟩
instance fn65 : Fn1 Try.prog 65 := ⟨Try.call65⟩
instance fn67 : Fn1 Try.prog 67 := ⟨Try.call67⟩
instance fn68 : Fn1 Try.prog 68 := ⟨Try.call68⟩
instance fn69 : Fn1 Try.prog 69 := ⟨Try.call69⟩
instance fn70 : Fn1 Try.prog 70 := ⟨Try.call70⟩
end Go.Proofs.Ytdicpnnmhjgnbaa.FW
