/-
  The types of this program, each by the kernel.
  No condition.
-/

import Derived.Test.YthacnhidipeckaaGreatRows
import Derived.Test.YthacnhidipeckaaGreatEngM
import Derived.KernelRfl
namespace Go.Proofs.YthacnhidipeckaaGreat
set_option linter.all false
open Go.Eng
@[push_cast] theorem td0 : td Tryz.prog 0 = some { size := 1, bytes := 0, zero := [.tuple { toList := [] }], held := false, eqg := false, fok := false, sc := [none], k := .other } := by kernel_rfl
@[push_cast] theorem td1 : td Tryz.prog 1 = some { size := 1, bytes := 8, zero := [.nilFunc], held := false, eqg := false, fok := true, sc := [none], k := .other } := by kernel_rfl
@[push_cast] theorem td2 : td Tryz.prog 2 = some { size := 1, bytes := 8, zero := [.int .i64 (.ofNat 0)], held := false, eqg := false, fok := true, sc := [none], k := .int .i64 } := by kernel_rfl
@[push_cast] theorem td3 : td Tryz.prog 3 = some { size := 1, bytes := 8, zero := [.int .i64 (.ofNat 0)], held := false, eqg := false, fok := true, sc := [none], k := .int .i64 } := by kernel_rfl
@[push_cast] theorem td4 : td Tryz.prog 4 = some { size := 1, bytes := 1, zero := [.bool false], held := false, eqg := false, fok := true, sc := [none], k := .bool } := by kernel_rfl
@[push_cast] theorem td5 : td Tryz.prog 5 = some { size := 1, bytes := 1, zero := [.int .u8 (.ofNat 0)], held := false, eqg := false, fok := true, sc := [none], k := .int .u8 } := by kernel_rfl
@[push_cast] theorem td6 : td Tryz.prog 6 = some { size := 1, bytes := 1, zero := [.int .u8 (.ofNat 0)], held := false, eqg := false, fok := true, sc := [none], k := .int .u8 } := by kernel_rfl
@[push_cast] theorem td7 : td Tryz.prog 7 = some { size := 4, bytes := 24, zero := [.int .i64 (.ofNat 0), .int .i64 (.ofNat 0), .bool false, .int .u8 (.ofNat 0)], held := false, eqg := false, fok := true, sc := [none, none, none, none], k := .struct [(0, 2), (1, 3), (2, 4), (3, 6)] } := by kernel_rfl
@[push_cast] theorem td8 : td Tryz.prog 8 = some { size := 4, bytes := 24, zero := [.int .i64 (.ofNat 0), .int .i64 (.ofNat 0), .bool false, .int .u8 (.ofNat 0)], held := false, eqg := false, fok := true, sc := [none, none, none, none], k := .struct [(0, 2), (1, 3), (2, 4), (3, 6)] } := by kernel_rfl
@[push_cast] theorem td9 : td Tryz.prog 9 = some { size := 1, bytes := 16, zero := [.string ByteArray.empty], held := false, eqg := false, fok := true, sc := [none], k := .str } := by kernel_rfl
@[push_cast] theorem td10 : td Tryz.prog 10 = some { size := 1, bytes := 16, zero := [.string ByteArray.empty], held := false, eqg := false, fok := true, sc := [none], k := .str } := by kernel_rfl
@[push_cast] theorem td11 : td Tryz.prog 11 = some { size := 1, bytes := 16, zero := [.string ByteArray.empty], held := false, eqg := false, fok := true, sc := [none], k := .str } := by kernel_rfl
@[push_cast] theorem td12 : td Tryz.prog 12 = some { size := 1, bytes := 8, zero := [.int .u64 (.ofNat 0)], held := false, eqg := false, fok := true, sc := [none], k := .int .u64 } := by kernel_rfl
@[push_cast] theorem td13 : td Tryz.prog 13 = some { size := 2, bytes := 24, zero := [.string ByteArray.empty, .int .u64 (.ofNat 0)], held := true, eqg := false, fok := true, sc := [none, none], k := .struct [(0, 9), (1, 12)] } := by kernel_rfl
@[push_cast] theorem td14 : td Tryz.prog 14 = some { size := 2, bytes := 24, zero := [.string ByteArray.empty, .int .u64 (.ofNat 0)], held := true, eqg := false, fok := true, sc := [none, none], k := .struct [(0, 9), (1, 12)] } := by kernel_rfl
@[push_cast] theorem td15 : td Tryz.prog 15 = some { size := 1, bytes := 8, zero := [.pointer none], held := false, eqg := false, fok := true, sc := [none], k := .ptr 294 } := by kernel_rfl
@[push_cast] theorem td17 : td Tryz.prog 17 = some { size := 1, bytes := 8, zero := [.pointer none], held := false, eqg := false, fok := true, sc := [none], k := .ptr 306 } := by kernel_rfl
@[push_cast] theorem td22 : td Tryz.prog 22 = some { size := 1, bytes := 24, zero := [.slice none 0 0], held := false, eqg := false, fok := true, sc := [some 9], k := .slice 46 } := by kernel_rfl
@[push_cast] theorem td23 : td Tryz.prog 23 = some { size := 1, bytes := 24, zero := [.slice none 0 0], held := false, eqg := false, fok := true, sc := [some 11], k := .slice 49 } := by kernel_rfl
@[push_cast] theorem td25 : td Tryz.prog 25 = some { size := 2, bytes := 48, zero := [.slice none 0 0, .slice none 0 0], held := false, eqg := false, fok := true, sc := [some 9, some 11], k := .struct [(0, 22), (1, 23)] } := by kernel_rfl
@[push_cast] theorem td26 : td Tryz.prog 26 = some { size := 1, bytes := 24, zero := [.slice none 0 0], held := false, eqg := false, fok := true, sc := [some 5], k := .slice 101 } := by kernel_rfl
@[push_cast] theorem td27 : td Tryz.prog 27 = some { size := 1, bytes := 24, zero := [.slice none 0 0], held := false, eqg := false, fok := true, sc := [some 1], k := .slice 3 } := by kernel_rfl
@[push_cast] theorem td28 : td Tryz.prog 28 = some { size := 1, bytes := 24, zero := [.slice none 0 0], held := false, eqg := false, fok := true, sc := [some 1], k := .slice 4 } := by kernel_rfl
@[push_cast] theorem td30 : td Tryz.prog 30 = some { size := 4, bytes := 96, zero := [.slice none 0 0, .slice none 0 0, .slice none 0 0, .slice none 0 0], held := false, eqg := false, fok := true, sc := [some 1, some 1, some 1, some 1], k := .struct [(0, 27), (1, 27), (2, 27), (3, 28)] } := by kernel_rfl
@[push_cast] theorem td32 : td Tryz.prog 32 = some { size := 1, bytes := 8, zero := [.nilFunc], held := false, eqg := false, fok := true, sc := [none], k := .other } := by kernel_rfl
@[push_cast] theorem td36 : td Tryz.prog 36 = some { size := 3, bytes := 40, zero := [.int .i64 (.ofNat 0), .int .i64 (.ofNat 0), .slice none 0 0], held := false, eqg := false, fok := true, sc := [none, none, some 1], k := .struct [(0, 3), (1, 3), (2, 27)] } := by kernel_rfl
@[push_cast] theorem td37 : td Tryz.prog 37 = some { size := 1, bytes := 8, zero := [.int .i64 (.ofNat 0)], held := false, eqg := false, fok := true, sc := [none], k := .int .i64 } := by kernel_rfl
@[push_cast] theorem td42 : td Tryz.prog 42 = some { size := 2, bytes := 16, zero := [.int .i64 (.ofNat 0), .int .i64 (.ofNat 0)], held := false, eqg := false, fok := true, sc := [none, none], k := .struct [(0, 3), (1, 3)] } := by kernel_rfl
@[push_cast] theorem td44 : td Tryz.prog 44 = some { size := 1, bytes := 24, zero := [.slice none 0 0], held := false, eqg := false, fok := true, sc := [some 2], k := .slice 150 } := by kernel_rfl
@[push_cast] theorem td46 : td Tryz.prog 46 = some { size := 9, bytes := 96, zero := [.string ByteArray.empty, .int .i64 (.ofNat 0), .int .i64 (.ofNat 0), .int .i64 (.ofNat 0), .int .i64 (.ofNat 0), .int .i64 (.ofNat 0), .slice none 0 0, .bool false, .int .i64 (.ofNat 0)], held := false, eqg := false, fok := true, sc := [none, none, none, none, none, none, some 2, none, none], k := .struct [(0, 9), (1, 3), (2, 42), (4, 3), (5, 3), (6, 44), (7, 4), (8, 3)] } := by kernel_rfl
@[push_cast] theorem td49 : td Tryz.prog 49 = some { size := 11, bytes := 136, zero := [.string ByteArray.empty, .string ByteArray.empty, .string ByteArray.empty, .int .i64 (.ofNat 0), .int .i64 (.ofNat 0), .int .i64 (.ofNat 0), .int .i64 (.ofNat 0), .string ByteArray.empty, .int .i64 (.ofNat 0), .int .i64 (.ofNat 0), .slice none 0 0], held := false, eqg := false, fok := true, sc := [none, none, none, none, none, none, none, none, none, none, some 2], k := .struct [(0, 9), (1, 9), (2, 9), (3, 3), (4, 3), (5, 3), (6, 3), (7, 9), (8, 3), (9, 3), (10, 44)] } := by kernel_rfl
@[push_cast] theorem td53 : td Tryz.prog 53 = some { size := 1, bytes := 8, zero := [.nilFunc], held := false, eqg := false, fok := true, sc := [none], k := .other } := by kernel_rfl
@[push_cast] theorem td62 : td Tryz.prog 62 = some { size := 1, bytes := 24, zero := [.slice none 0 0], held := false, eqg := false, fok := true, sc := [some 2], k := .slice 78 } := by kernel_rfl
@[push_cast] theorem td63 : td Tryz.prog 63 = some { size := 1, bytes := 24, zero := [.slice none 0 0], held := false, eqg := false, fok := true, sc := [some 1], k := .slice 9 } := by kernel_rfl
@[push_cast] theorem td64 : td Tryz.prog 64 = some { size := 1, bytes := 8, zero := [.nilFunc], held := false, eqg := false, fok := true, sc := [none], k := .other } := by kernel_rfl
@[push_cast] theorem td66 : td Tryz.prog 66 = some { size := 1, bytes := 8, zero := [.nilFunc], held := false, eqg := false, fok := true, sc := [none], k := .other } := by kernel_rfl
@[push_cast] theorem td72 : td Tryz.prog 72 = some { size := 1, bytes := 24, zero := [.slice none 0 0], held := false, eqg := false, fok := true, sc := [some 4], k := .slice 30 } := by kernel_rfl
@[push_cast] theorem td73 : td Tryz.prog 73 = some { size := 1, bytes := 24, zero := [.slice none 0 0], held := false, eqg := false, fok := true, sc := [some 3], k := .slice 36 } := by kernel_rfl
@[push_cast] theorem td78 : td Tryz.prog 78 = some { size := 2, bytes := 40, zero := [.string ByteArray.empty, .slice none 0 0], held := false, eqg := false, fok := true, sc := [none, some 1], k := .struct [(0, 9), (1, 27)] } := by kernel_rfl
@[push_cast] theorem td83 : td Tryz.prog 83 = some { size := 1, bytes := 24, zero := [.slice none 0 0], held := false, eqg := false, fok := true, sc := [some 1], k := .slice 27 } := by kernel_rfl
@[push_cast] theorem td96 : td Tryz.prog 96 = some { size := 1, bytes := 8, zero := [.nilFunc], held := false, eqg := false, fok := true, sc := [none], k := .other } := by kernel_rfl
@[push_cast] theorem td98 : td Tryz.prog 98 = some { size := 1, bytes := 8, zero := [.nilFunc], held := false, eqg := false, fok := true, sc := [none], k := .other } := by kernel_rfl
@[push_cast] theorem td99 : td Tryz.prog 99 = some { size := 1, bytes := 8, zero := [.nilFunc], held := false, eqg := false, fok := true, sc := [none], k := .other } := by kernel_rfl
@[push_cast] theorem td101 : td Tryz.prog 101 = some { size := 5, bytes := 80, zero := [.string ByteArray.empty, .int .i64 (.ofNat 0), .int .i64 (.ofNat 0), .slice none 0 0, .slice none 0 0], held := false, eqg := false, fok := true, sc := [none, none, none, some 2, some 2], k := .struct [(0, 9), (1, 3), (2, 3), (3, 44), (4, 44)] } := by kernel_rfl
@[push_cast] theorem td102 : td Tryz.prog 102 = some { size := 1, bytes := 8, zero := [.nilFunc], held := false, eqg := false, fok := true, sc := [none], k := .other } := by kernel_rfl
@[push_cast] theorem td104 : td Tryz.prog 104 = some { size := 1, bytes := 8, zero := [.nilFunc], held := false, eqg := false, fok := true, sc := [none], k := .other } := by kernel_rfl
@[push_cast] theorem td109 : td Tryz.prog 109 = some { size := 1, bytes := 8, zero := [.nilFunc], held := false, eqg := false, fok := true, sc := [none], k := .other } := by kernel_rfl
@[push_cast] theorem td114 : td Tryz.prog 114 = some { size := 1, bytes := 8, zero := [.pointer none], held := false, eqg := false, fok := true, sc := [none], k := .ptr 30 } := by kernel_rfl
@[push_cast] theorem td118 : td Tryz.prog 118 = some { size := 1, bytes := 24, zero := [.slice none 0 0], held := false, eqg := false, fok := true, sc := [some 2], k := .slice 121 } := by kernel_rfl
@[push_cast] theorem td119 : td Tryz.prog 119 = some { size := 1, bytes := 0, zero := [.tuple { toList := [.slice none 0 0, .slice none 0 0] }], held := false, eqg := false, fok := false, sc := [none], k := .other } := by kernel_rfl
@[push_cast] theorem td121 : td Tryz.prog 121 = some { size := 2, bytes := 16, zero := [.int .i64 (.ofNat 0), .int .i64 (.ofNat 0)], held := false, eqg := false, fok := false, sc := [none], k := .arr 2 3 } := by kernel_rfl
@[push_cast] theorem td129 : td Tryz.prog 129 = some { size := 1, bytes := 8, zero := [.nilFunc], held := false, eqg := false, fok := true, sc := [none], k := .other } := by kernel_rfl
@[push_cast] theorem td133 : td Tryz.prog 133 = some { size := 1, bytes := 8, zero := [.nilFunc], held := false, eqg := false, fok := true, sc := [none], k := .other } := by kernel_rfl
@[push_cast] theorem td141 : td Tryz.prog 141 = some { size := 1, bytes := 8, zero := [.nilFunc], held := false, eqg := false, fok := true, sc := [none], k := .other } := by kernel_rfl
@[push_cast] theorem td144 : td Tryz.prog 144 = some { size := 1, bytes := 8, zero := [.nilFunc], held := false, eqg := false, fok := true, sc := [none], k := .other } := by kernel_rfl
@[push_cast] theorem td150 : td Tryz.prog 150 = some { size := 2, bytes := 16, zero := [.int .i64 (.ofNat 0), .int .i64 (.ofNat 0)], held := false, eqg := false, fok := true, sc := [none, none], k := .struct [(0, 3), (1, 3)] } := by kernel_rfl
@[push_cast] theorem td158 : td Tryz.prog 158 = some { size := 1, bytes := 8, zero := [.nilFunc], held := false, eqg := false, fok := true, sc := [none], k := .other } := by kernel_rfl
@[push_cast] theorem td163 : td Tryz.prog 163 = some { size := 1, bytes := 8, zero := [.nilFunc], held := false, eqg := false, fok := true, sc := [none], k := .other } := by kernel_rfl
@[push_cast] theorem td178 : td Tryz.prog 178 = some { size := 1, bytes := 8, zero := [.map none], held := false, eqg := false, fok := true, sc := [none], k := .map 9 4 } := by kernel_rfl
@[push_cast] theorem td179 : td Tryz.prog 179 = some { size := 1, bytes := 8, zero := [.map none], held := false, eqg := false, fok := true, sc := [none], k := .map 9 3 } := by kernel_rfl
@[push_cast] theorem td182 : td Tryz.prog 182 = some { size := 1, bytes := 8, zero := [.nilFunc], held := false, eqg := false, fok := true, sc := [none], k := .other } := by kernel_rfl
@[push_cast] theorem td183 : td Tryz.prog 183 = some { size := 1, bytes := 8, zero := [.nilFunc], held := false, eqg := false, fok := true, sc := [none], k := .other } := by kernel_rfl
@[push_cast] theorem td186 : td Tryz.prog 186 = some { size := 1, bytes := 8, zero := [.nilFunc], held := false, eqg := false, fok := true, sc := [none], k := .other } := by kernel_rfl
@[push_cast] theorem td191 : td Tryz.prog 191 = some { size := 1, bytes := 8, zero := [.int .u64 (.ofNat 0)], held := false, eqg := false, fok := true, sc := [none], k := .int .u64 } := by kernel_rfl
@[push_cast] theorem td192 : td Tryz.prog 192 = some { size := 1, bytes := 0, zero := [.tuple { toList := [.int .u64 (.ofNat 0), .int .u64 (.ofNat 0)] }], held := false, eqg := false, fok := false, sc := [none], k := .other } := by kernel_rfl
@[push_cast] theorem td195 : td Tryz.prog 195 = some { size := 1, bytes := 8, zero := [.nilFunc], held := false, eqg := false, fok := true, sc := [none], k := .other } := by kernel_rfl
@[push_cast] theorem td196 : td Tryz.prog 196 = some { size := 1, bytes := 8, zero := [.nilFunc], held := false, eqg := false, fok := true, sc := [none], k := .other } := by kernel_rfl
@[push_cast] theorem td200 : td Tryz.prog 200 = some { size := 1, bytes := 8, zero := [.nilFunc], held := false, eqg := false, fok := true, sc := [none], k := .other } := by kernel_rfl
@[push_cast] theorem td210 : td Tryz.prog 210 = some { size := 1, bytes := 8, zero := [.nilFunc], held := false, eqg := false, fok := true, sc := [none], k := .other } := by kernel_rfl
@[push_cast] theorem td214 : td Tryz.prog 214 = some { size := 1, bytes := 8, zero := [.int .u64 (.ofNat 0)], held := false, eqg := false, fok := true, sc := [none], k := .int .u64 } := by kernel_rfl
@[push_cast] theorem td216 : td Tryz.prog 216 = some { size := 1, bytes := 16, zero := [.nilIface], held := false, eqg := true, fok := true, sc := [none], k := .other } := by kernel_rfl
@[push_cast] theorem td219 : td Tryz.prog 219 = some { size := 1, bytes := 8, zero := [.nilFunc], held := false, eqg := false, fok := true, sc := [none], k := .other } := by kernel_rfl
@[push_cast] theorem td225 : td Tryz.prog 225 = some { size := 2, bytes := 16, zero := [.int .u64 (.ofNat 0), .int .u64 (.ofNat 0)], held := false, eqg := false, fok := true, sc := [none, none], k := .struct [(0, 191), (1, 191)] } := by kernel_rfl
@[push_cast] theorem td226 : td Tryz.prog 226 = some { size := 1, bytes := 0, zero := [.tuple { toList := [.agg { toList := [.int .u64 (.ofNat 0), .int .u64 (.ofNat 0)] }, .agg { toList := [.int .u64 (.ofNat 0), .int .u64 (.ofNat 0)] }] }], held := false, eqg := false, fok := false, sc := [none], k := .other } := by kernel_rfl
@[push_cast] theorem td243 : td Tryz.prog 243 = some { size := 3, bytes := 24, zero := [.int .u64 (.ofNat 0), .int .u64 (.ofNat 0), .bool false], held := false, eqg := false, fok := true, sc := [none, none, none], k := .struct [(0, 191), (1, 191), (2, 4)] } := by kernel_rfl
@[push_cast] theorem td248 : td Tryz.prog 248 = some { size := 3, bytes := 24, zero := [.int .u64 (.ofNat 0), .int .u64 (.ofNat 0), .bool false], held := false, eqg := false, fok := true, sc := [none, none, none], k := .struct [(0, 225), (2, 4)] } := by kernel_rfl
@[push_cast] theorem td263 : td Tryz.prog 263 = some { size := 2, bytes := 16, zero := [.int .u64 (.ofNat 0), .int .u64 (.ofNat 0)], held := false, eqg := false, fok := true, sc := [none, none], k := .struct [(0, 191), (1, 191)] } := by kernel_rfl
@[push_cast] theorem td270 : td Tryz.prog 270 = some { size := 2, bytes := 16, zero := [.int .u64 (.ofNat 0), .int .u64 (.ofNat 0)], held := false, eqg := false, fok := true, sc := [none, none], k := .struct [(0, 191), (1, 191)] } := by kernel_rfl
@[push_cast] theorem td278 : td Tryz.prog 278 = some { size := 1, bytes := 8, zero := [.nilFunc], held := false, eqg := false, fok := true, sc := [none], k := .other } := by kernel_rfl
@[push_cast] theorem td280 : td Tryz.prog 280 = some { size := 2, bytes := 16, zero := [.int .i64 (.ofNat 0), .int .i64 (.ofNat 0)], held := false, eqg := false, fok := true, sc := [none, none], k := .struct [(0, 3), (1, 3)] } := by kernel_rfl
@[push_cast] theorem td294 : td Tryz.prog 294 = some { size := 4, bytes := 40, zero := [.pointer none, .pointer none, .pointer none, .string ByteArray.empty], held := true, eqg := false, fok := true, sc := [none, none, none, none], k := .struct [(0, 17), (1, 17), (2, 17), (3, 9)] } := by kernel_rfl
@[push_cast] theorem td298 : td Tryz.prog 298 = some { size := 1, bytes := 4, zero := [.int .u32 (.ofNat 0)], held := false, eqg := false, fok := true, sc := [none], k := .int .u32 } := by kernel_rfl
@[push_cast] theorem td299 : td Tryz.prog 299 = some { size := 1, bytes := 1, zero := [.int .u8 (.ofNat 0)], held := false, eqg := false, fok := true, sc := [none], k := .int .u8 } := by kernel_rfl
@[push_cast] theorem td300 : td Tryz.prog 300 = some { size := 1, bytes := 1, zero := [.int .u8 (.ofNat 0)], held := false, eqg := false, fok := true, sc := [none], k := .int .u8 } := by kernel_rfl
@[push_cast] theorem td301 : td Tryz.prog 301 = some { size := 1, bytes := 8, zero := [.nilFunc], held := false, eqg := false, fok := true, sc := [none], k := .other } := by kernel_rfl
@[push_cast] theorem td302 : td Tryz.prog 302 = some { size := 1, bytes := 8, zero := [.pointer none], held := false, eqg := false, fok := true, sc := [none], k := .ptr 5 } := by kernel_rfl
@[push_cast] theorem td303 : td Tryz.prog 303 = some { size := 1, bytes := 4, zero := [.int .i32 (.ofNat 0)], held := false, eqg := false, fok := true, sc := [none], k := .int .i32 } := by kernel_rfl
@[push_cast] theorem td304 : td Tryz.prog 304 = some { size := 1, bytes := 4, zero := [.int .i32 (.ofNat 0)], held := false, eqg := false, fok := true, sc := [none], k := .int .i32 } := by kernel_rfl
@[push_cast] theorem td306 : td Tryz.prog 306 = some { size := 11, bytes := 48, zero := [.int .u64 (.ofNat 0), .int .u64 (.ofNat 0), .int .u32 (.ofNat 0), .int .u8 (.ofNat 0), .int .u8 (.ofNat 0), .int .u8 (.ofNat 0), .int .u8 (.ofNat 0), .nilFunc, .pointer none, .int .i32 (.ofNat 0), .int .i32 (.ofNat 0)], held := true, eqg := false, fok := true, sc := [none, none, none, none, none, none, none, none, none, none, none], k := .struct [(0, 12), (1, 12), (2, 298), (3, 299), (4, 5), (5, 5), (6, 300), (7, 301), (8, 302), (9, 303), (10, 304)] } := by kernel_rfl
end Go.Proofs.YthacnhidipeckaaGreat
