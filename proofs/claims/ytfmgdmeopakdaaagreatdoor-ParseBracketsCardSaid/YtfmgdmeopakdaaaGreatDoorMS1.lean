/- Parts of one proof. -/
import Derived.Shelf.Small.Strs
import Derived.Shelf.Strings.Search1
import Derived.Shelf.Strings.Search2
import Derived.Shelf.Strings.Search3
import Derived.Shelf.LaysM
import Derived.Shelf.Strings.Shaped
import Derived.Shelf.Strings.Prefix
import Derived.Shelf.Unicode.Decode
import Derived.Shelf.Unicode.DecodeSlow
import Derived.Shelf.Unicode.DecodeAny
import Derived.Test.YtfmgdmeopakdaaaGreatDoorProg
set_option linter.unusedVariables false
set_option linter.unusedSimpArgs false
namespace Go.Proofs
open Go.Shelf
def Tryz.lays137_ren:Go.Shelf.Ren:=⟨fun | 137=>147 | 217=>172 | 266=>188 | n=>n,fun | 9=>9 | 5=>5 | 3=>3 | n=>n,fun | n=>n⟩
theorem Tryz.lays137:Go.Proofs.Lays.n137 Tryz.prog Tryz.lays137_ren:={
  mixed:=by kernel_rfl
  f137:=Tryz.func147.trans (congrArg some (by kernel_rfl))
  f217:=Tryz.func172.trans (congrArg some (by kernel_rfl))
  f266:=Tryz.func188.trans (congrArg some (by kernel_rfl))
  t3:=Tryz.underlying3
  a3:=Tryz.isAgg3
  z3:=Tryz.sizeOf3
  v3:=Tryz.zeroValue3
  t5:=Tryz.underlying5
  a5:=Tryz.isAgg5
  z5:=Tryz.sizeOf5
  v5:=Tryz.zeroValue5
  t9:=Tryz.underlying9
  a9:=Tryz.isAgg9
  z9:=Tryz.sizeOf9
  v9:=Tryz.zeroValue9 }
open Go.RowKit in
theorem Tryz.strings_IndexByte (s:ByteArray) (c:Int) (w:World) :
    Calls Tryz.prog 147 #[.string s,.int .u8 c] w fun e w'=>e = .returned (.int .i64 (Lib.indexByte s.data.toList c.toNat.toUInt8))∧w'=w:=Any.strings_IndexByte Tryz.lays137 s c w
def Tryz.lays217_ren:Go.Shelf.Ren:=⟨fun | 217=>172 | 266=>188 | n=>n,fun | 9=>9 | 5=>5 | 3=>3 | n=>n,fun | n=>n⟩
theorem Tryz.lays217:Go.Proofs.Lays.n217 Tryz.prog Tryz.lays217_ren:={
  mixed:=by kernel_rfl
  f217:=Tryz.func172.trans (congrArg some (by kernel_rfl))
  f266:=Tryz.func188.trans (congrArg some (by kernel_rfl))
  t3:=Tryz.underlying3
  a3:=Tryz.isAgg3
  z3:=Tryz.sizeOf3
  v3:=Tryz.zeroValue3
  t5:=Tryz.underlying5
  a5:=Tryz.isAgg5
  z5:=Tryz.sizeOf5
  v5:=Tryz.zeroValue5
  t9:=Tryz.underlying9
  a9:=Tryz.isAgg9
  z9:=Tryz.sizeOf9
  v9:=Tryz.zeroValue9 }
open Go.RowKit Go.Lib in
theorem Tryz.stringslite_IndexByte (s:ByteArray) (c:Int) (w:World) :
    Calls Tryz.prog 172 #[.string s,.int .u8 c] w fun e w'=>e = .returned (.int .i64 (Lib.indexByte s.data.toList c.toNat.toUInt8))∧w'=w:=Any.stringslite_IndexByte Tryz.lays217 s c w
def Tryz.lays224_ren:Go.Shelf.Ren:=⟨fun | 224=>190 | n=>n,fun | 3=>3 | n=>n,fun | n=>n⟩
theorem Tryz.lays224:Go.Proofs.Lays.n224 Tryz.prog Tryz.lays224_ren:={
  mixed:=by kernel_rfl
  f224:=Tryz.func190.trans (congrArg some (by kernel_rfl))
  t3:=Tryz.underlying3
  a3:=Tryz.isAgg3
  z3:=Tryz.sizeOf3
  v3:=Tryz.zeroValue3 }
open Go.RowKit Go.Lib in
theorem Tryz.bytealg_Cutover (n:Int) (h0:0≤n) (h1:n<4611686018427387904) (w:World) :
    Calls Tryz.prog 190 #[.int .i64 n] w fun e w'=>e = .returned (.int .i64 ((n+16) / 8))∧w'=w:=Any.bytealg_Cutover Tryz.lays224 n h0 h1 w
def Tryz.lays314_ren:Go.Shelf.Ren:=⟨fun | 314=>202 | n=>n,fun | 9=>9 | 51=>132 | 3=>3 | 4=>4 | 5=>5 | 46=>96 | n=>n,fun | n=>n⟩
theorem Tryz.lays314:Go.Proofs.Lays.n314 Tryz.prog Tryz.lays314_ren:={
  mixed:=by kernel_rfl
  f314:=Tryz.func202.trans (congrArg some (by kernel_rfl))
  t3:=Tryz.underlying3
  a3:=Tryz.isAgg3
  z3:=Tryz.sizeOf3
  v3:=Tryz.zeroValue3
  t4:=Tryz.underlying4
  a4:=Tryz.isAgg4
  z4:=Tryz.sizeOf4
  v4:=Tryz.zeroValue4
  t5:=Tryz.underlying5
  a5:=Tryz.isAgg5
  z5:=Tryz.sizeOf5
  v5:=Tryz.zeroValue5
  t9:=Tryz.underlying9
  a9:=Tryz.isAgg9
  z9:=Tryz.sizeOf9
  v9:=Tryz.zeroValue9
  t46:=Tryz.underlying96
  a46:=Tryz.isAgg96
  z46:=Tryz.sizeOf96
  v46:=Tryz.zeroValue96
  t51:=Tryz.underlying132
  a51:=Tryz.isAgg132
  z51:=Tryz.sizeOf132
  v51:=Tryz.zeroValue132 }
open Go.RowKit Go.Lib in
theorem Tryz.bytealg_hashStr (IJ:ByteArray) (hs:IJ.size<4294967281) (w:World) :
    Calls Tryz.prog 202 #[.string IJ] w fun e w'=>e = .returned (.tuple #[.int .u32 (RK.H IJ.data.toList % 4294967296),.int .u32 (16777619 ^ IJ.size % 4294967296)])∧w'=w:=Any.bytealg_hashStr Tryz.lays314 IJ hs w
def Tryz.lays267_ren:Go.Shelf.Ren:=⟨fun | 267=>191 | 314=>202 | n=>n,fun | 9=>9 | 3=>3 | 146=>133 | 51=>132 | 4=>4 | 5=>5 | 46=>96 | n=>n,fun | n=>n⟩
theorem Tryz.lays267:Go.Proofs.Lays.n267 Tryz.prog Tryz.lays267_ren:={
  mixed:=by kernel_rfl
  f267:=Tryz.func191.trans (congrArg some (by kernel_rfl))
  f314:=Tryz.func202.trans (congrArg some (by kernel_rfl))
  t3:=Tryz.underlying3
  a3:=Tryz.isAgg3
  z3:=Tryz.sizeOf3
  v3:=Tryz.zeroValue3
  t4:=Tryz.underlying4
  a4:=Tryz.isAgg4
  z4:=Tryz.sizeOf4
  v4:=Tryz.zeroValue4
  t5:=Tryz.underlying5
  a5:=Tryz.isAgg5
  z5:=Tryz.sizeOf5
  v5:=Tryz.zeroValue5
  t9:=Tryz.underlying9
  a9:=Tryz.isAgg9
  z9:=Tryz.sizeOf9
  v9:=Tryz.zeroValue9
  t46:=Tryz.underlying96
  a46:=Tryz.isAgg96
  z46:=Tryz.sizeOf96
  v46:=Tryz.zeroValue96
  t51:=Tryz.underlying132
  a51:=Tryz.isAgg132
  z51:=Tryz.sizeOf132
  v51:=Tryz.zeroValue132
  t146:=Tryz.underlying133
  a146:=Tryz.isAgg133
  z146:=Tryz.sizeOf133
  v146:=Tryz.zeroValue133 }
open Go.RowKit Go.Lib in
theorem Tryz.bytealg_IndexRabinKarp (s IJ:ByteArray) (h1:1≤IJ.size) (h2:IJ.size≤s.size) (hs:s.size<4294967281) (w:World) :
    Calls Tryz.prog 191 #[.string s,.string IJ] w fun e w'=>e = .returned (.int .i64 (Lib.index s.data.toList IJ.data.toList))∧w'=w:=Any.bytealg_IndexRabinKarp Tryz.lays267 s IJ h1 h2 hs w
def Tryz.lays219_ren:Go.Shelf.Ren:=⟨fun | 219=>173 | 217=>172 | 225=>189 | 224=>190 | 267=>191 | 266=>188 | 314=>202 | n=>n,fun | 9=>9 | 3=>3 | 4=>4 | 5=>5 | 46=>96 | 146=>133 | 51=>132 | n=>n,fun | 1=>2 | n=>n⟩
theorem Tryz.lays219:Go.Proofs.Lays.n219 Tryz.prog Tryz.lays219_ren:={
  mixed:=by kernel_rfl
  f217:=Tryz.func172.trans (congrArg some (by kernel_rfl))
  f219:=Tryz.func173.trans (congrArg some (by kernel_rfl))
  f224:=Tryz.func190.trans (congrArg some (by kernel_rfl))
  f225:=Tryz.func189.trans (congrArg some (by kernel_rfl))
  f266:=Tryz.func188.trans (congrArg some (by kernel_rfl))
  f267:=Tryz.func191.trans (congrArg some (by kernel_rfl))
  f314:=Tryz.func202.trans (congrArg some (by kernel_rfl))
  t3:=Tryz.underlying3
  a3:=Tryz.isAgg3
  z3:=Tryz.sizeOf3
  v3:=Tryz.zeroValue3
  t4:=Tryz.underlying4
  a4:=Tryz.isAgg4
  z4:=Tryz.sizeOf4
  v4:=Tryz.zeroValue4
  t5:=Tryz.underlying5
  a5:=Tryz.isAgg5
  z5:=Tryz.sizeOf5
  v5:=Tryz.zeroValue5
  t9:=Tryz.underlying9
  a9:=Tryz.isAgg9
  z9:=Tryz.sizeOf9
  v9:=Tryz.zeroValue9
  t46:=Tryz.underlying96
  a46:=Tryz.isAgg96
  z46:=Tryz.sizeOf96
  v46:=Tryz.zeroValue96
  t51:=Tryz.underlying132
  a51:=Tryz.isAgg132
  z51:=Tryz.sizeOf132
  v51:=Tryz.zeroValue132
  t146:=Tryz.underlying133
  a146:=Tryz.isAgg133
  z146:=Tryz.sizeOf133
  v146:=Tryz.zeroValue133
  g1:=by kernel_rfl }
open Go.RowKit Go.Lib in
theorem Tryz.stringslite_Index_one (s:ByteArray) (c:UInt8) (w:World) :
    Calls Tryz.prog 173 #[.string s,.string ⟨#[c]⟩] w fun e w'=>e = .returned (.int .i64 (Lib.indexByte s.data.toList c))∧w'=w:=Any.stringslite_Index_one Tryz.lays219 s c w
open Go.RowKit Go.Lib in
theorem Tryz.stringslite_Index (s sub:ByteArray) (m:Int) (w:World) (hs:s.size<4294967281) (hm:w.cell? ⟨2,0,none⟩=some (.int .i64 m)) :
    Calls Tryz.prog 173 #[.string s,.string sub] w fun e w'=>e = .returned (.int .i64 (Lib.index s.data.toList sub.data.toList))∧w'=w:=Any.stringslite_Index Tryz.lays219 s sub m w hs hm
def Tryz.lays143_ren:Go.Shelf.Ren:=⟨fun | 143=>148 | 219=>173 | 217=>172 | 225=>189 | 224=>190 | 267=>191 | 266=>188 | 314=>202 | n=>n,fun | 9=>9 | 3=>3 | 4=>4 | 5=>5 | 46=>96 | 146=>133 | 51=>132 | n=>n,fun | 1=>2 | n=>n⟩
theorem Tryz.lays143:Go.Proofs.Lays.n143 Tryz.prog Tryz.lays143_ren:={
  mixed:=by kernel_rfl
  f143:=Tryz.func148.trans (congrArg some (by kernel_rfl))
  f217:=Tryz.func172.trans (congrArg some (by kernel_rfl))
  f219:=Tryz.func173.trans (congrArg some (by kernel_rfl))
  f224:=Tryz.func190.trans (congrArg some (by kernel_rfl))
  f225:=Tryz.func189.trans (congrArg some (by kernel_rfl))
  f266:=Tryz.func188.trans (congrArg some (by kernel_rfl))
  f267:=Tryz.func191.trans (congrArg some (by kernel_rfl))
  f314:=Tryz.func202.trans (congrArg some (by kernel_rfl))
  t3:=Tryz.underlying3
  a3:=Tryz.isAgg3
  z3:=Tryz.sizeOf3
  v3:=Tryz.zeroValue3
  t4:=Tryz.underlying4
  a4:=Tryz.isAgg4
  z4:=Tryz.sizeOf4
  v4:=Tryz.zeroValue4
  t5:=Tryz.underlying5
  a5:=Tryz.isAgg5
  z5:=Tryz.sizeOf5
  v5:=Tryz.zeroValue5
  t9:=Tryz.underlying9
  a9:=Tryz.isAgg9
  z9:=Tryz.sizeOf9
  v9:=Tryz.zeroValue9
  t46:=Tryz.underlying96
  a46:=Tryz.isAgg96
  z46:=Tryz.sizeOf96
  v46:=Tryz.zeroValue96
  t51:=Tryz.underlying132
  a51:=Tryz.isAgg132
  z51:=Tryz.sizeOf132
  v51:=Tryz.zeroValue132
  t146:=Tryz.underlying133
  a146:=Tryz.isAgg133
  z146:=Tryz.sizeOf133
  v146:=Tryz.zeroValue133
  g1:=by kernel_rfl }
open Go.RowKit Go.Lib in
theorem Tryz.strings_Index_one (s:ByteArray) (c:UInt8) (w:World) :
    Calls Tryz.prog 148 #[.string s,.string ⟨#[c]⟩] w fun e w'=>e = .returned (.int .i64 (Lib.indexByte s.data.toList c))∧w'=w:=Any.strings_Index_one Tryz.lays143 s c w
open Go.RowKit Go.Lib in
theorem Tryz.strings_Index (s sub:ByteArray) (m:Int) (w:World) (hs:s.size<4294967281) (hm:w.cell? ⟨2,0,none⟩=some (.int .i64 m)) :
    Calls Tryz.prog 148 #[.string s,.string sub] w fun e w'=>e = .returned (.int .i64 (Lib.index s.data.toList sub.data.toList))∧w'=w:=Any.strings_Index Tryz.lays143 s sub m w hs hm
def Tryz.laysM219_ren:Go.Shelf.Ren:=⟨fun | 219=>173 | 217=>172 | 225=>189 | 224=>190 | 267=>191 | 266=>188 | 314=>202 | n=>n,fun | 9=>9 | 3=>3 | 4=>4 | 5=>5 | 46=>96 | 146=>133 | 51=>132 | n=>n,fun | 1=>2 | n=>n⟩
theorem Tryz.laysM219:Go.Proofs.LaysM.n219 Tryz.prog Tryz.laysM219_ren:={
  mixed:=by kernel_rfl
  f217:=Tryz.func172.trans (congrArg some (by kernel_rfl))
  f219:=Tryz.func173.trans (congrArg some (by kernel_rfl))
  f224:=Tryz.func190.trans (congrArg some (by kernel_rfl))
  f225:=Tryz.func189.trans (congrArg some (by kernel_rfl))
  f266:=Tryz.func188.trans (congrArg some (by kernel_rfl))
  f267:=Tryz.func191.trans (congrArg some (by kernel_rfl))
  f314:=Tryz.func202.trans (congrArg some (by kernel_rfl))
  t3:=Tryz.underlying3
  a3:=Tryz.isAgg3
  z3:=Tryz.sizeOf3
  v3:=Tryz.zeroValue3
  t4:=Tryz.underlying4
  a4:=Tryz.isAgg4
  z4:=Tryz.sizeOf4
  v4:=Tryz.zeroValue4
  t5:=Tryz.underlying5
  a5:=Tryz.isAgg5
  z5:=Tryz.sizeOf5
  v5:=Tryz.zeroValue5
  t9:=Tryz.underlying9
  a9:=Tryz.isAgg9
  z9:=Tryz.sizeOf9
  v9:=Tryz.zeroValue9
  t46:=Tryz.underlying96
  a46:=Tryz.isAgg96
  z46:=Tryz.sizeOf96
  v46:=Tryz.zeroValue96
  t51:=Tryz.underlying132
  a51:=Tryz.isAgg132
  z51:=Tryz.sizeOf132
  v51:=Tryz.zeroValue132
  t146:=Tryz.underlying133
  a146:=Tryz.isAgg133
  z146:=Tryz.sizeOf133
  v146:=Tryz.zeroValue133
  g1:=by kernel_rfl
  i3:=by kernel_rfl
  i4:=by kernel_rfl
  i5:=by kernel_rfl
  i9:=by kernel_rfl
  i46:=by kernel_rfl
  i51:=by kernel_rfl
  i146:=by kernel_rfl
  m1:=by kernel_rfl
  s1_3:=fun w h=>Go.Proofs.cell_of_shapedOpen_int (zero:=#[.int .i64 0]) (t:=3) h (of_decide_eq_true (by kernel_rfl)) (by kernel_rfl) rfl (by kernel_rfl) (by kernel_rfl) Tryz.underlying3 }
open Go.RowKit Go.Lib in
theorem Tryz.stringslite_Index_shaped (s sub:ByteArray) (w:World) (h:w.ShapedOpen Tryz.prog) (hs:s.size<4294967281) :
    Calls Tryz.prog 173 #[.string s,.string sub] w fun e w'=>e = .returned (.int .i64 (Lib.index s.data.toList sub.data.toList))∧w'=w:=Any.stringslite_Index_shaped Tryz.laysM219 s sub w h hs
def Tryz.laysM143_ren:Go.Shelf.Ren:=⟨fun | 143=>148 | 219=>173 | 217=>172 | 225=>189 | 224=>190 | 267=>191 | 266=>188 | 314=>202 | n=>n,fun | 9=>9 | 3=>3 | 4=>4 | 5=>5 | 46=>96 | 146=>133 | 51=>132 | n=>n,fun | 1=>2 | n=>n⟩
theorem Tryz.laysM143:Go.Proofs.LaysM.n143 Tryz.prog Tryz.laysM143_ren:={
  mixed:=by kernel_rfl
  f143:=Tryz.func148.trans (congrArg some (by kernel_rfl))
  f217:=Tryz.func172.trans (congrArg some (by kernel_rfl))
  f219:=Tryz.func173.trans (congrArg some (by kernel_rfl))
  f224:=Tryz.func190.trans (congrArg some (by kernel_rfl))
  f225:=Tryz.func189.trans (congrArg some (by kernel_rfl))
  f266:=Tryz.func188.trans (congrArg some (by kernel_rfl))
  f267:=Tryz.func191.trans (congrArg some (by kernel_rfl))
  f314:=Tryz.func202.trans (congrArg some (by kernel_rfl))
  t3:=Tryz.underlying3
  a3:=Tryz.isAgg3
  z3:=Tryz.sizeOf3
  v3:=Tryz.zeroValue3
  t4:=Tryz.underlying4
  a4:=Tryz.isAgg4
  z4:=Tryz.sizeOf4
  v4:=Tryz.zeroValue4
  t5:=Tryz.underlying5
  a5:=Tryz.isAgg5
  z5:=Tryz.sizeOf5
  v5:=Tryz.zeroValue5
  t9:=Tryz.underlying9
  a9:=Tryz.isAgg9
  z9:=Tryz.sizeOf9
  v9:=Tryz.zeroValue9
  t46:=Tryz.underlying96
  a46:=Tryz.isAgg96
  z46:=Tryz.sizeOf96
  v46:=Tryz.zeroValue96
  t51:=Tryz.underlying132
  a51:=Tryz.isAgg132
  z51:=Tryz.sizeOf132
  v51:=Tryz.zeroValue132
  t146:=Tryz.underlying133
  a146:=Tryz.isAgg133
  z146:=Tryz.sizeOf133
  v146:=Tryz.zeroValue133
  g1:=by kernel_rfl
  i3:=by kernel_rfl
  i4:=by kernel_rfl
  i5:=by kernel_rfl
  i9:=by kernel_rfl
  i46:=by kernel_rfl
  i51:=by kernel_rfl
  i146:=by kernel_rfl
  m1:=by kernel_rfl
  s1_3:=fun w h=>Go.Proofs.cell_of_shapedOpen_int (zero:=#[.int .i64 0]) (t:=3) h (of_decide_eq_true (by kernel_rfl)) (by kernel_rfl) rfl (by kernel_rfl) (by kernel_rfl) Tryz.underlying3 }
open Go.RowKit Go.Lib in
theorem Tryz.strings_Index_shaped (s sub:ByteArray) (w:World) (h:w.ShapedOpen Tryz.prog) (hs:s.size<4294967281) :
    Calls Tryz.prog 148 #[.string s,.string sub] w fun e w'=>e = .returned (.int .i64 (Lib.index s.data.toList sub.data.toList))∧w'=w:=Any.strings_Index_shaped Tryz.laysM143 s sub w h hs
def Tryz.lays206_ren:Go.Shelf.Ren:=⟨fun | 206=>146 | n=>n,fun | 9=>9 | 4=>4 | 3=>3 | n=>n,fun | n=>n⟩
theorem Tryz.lays206:Go.Proofs.Lays.n206 Tryz.prog Tryz.lays206_ren:={
  mixed:=by kernel_rfl
  f206:=Tryz.func146.trans (congrArg some (by kernel_rfl))
  t3:=Tryz.underlying3
  a3:=Tryz.isAgg3
  z3:=Tryz.sizeOf3
  v3:=Tryz.zeroValue3
  t4:=Tryz.underlying4
  a4:=Tryz.isAgg4
  z4:=Tryz.sizeOf4
  v4:=Tryz.zeroValue4
  t9:=Tryz.underlying9
  a9:=Tryz.isAgg9
  z9:=Tryz.sizeOf9
  v9:=Tryz.zeroValue9 }
open Go.RowKit Go.Lib in
theorem Tryz.stringslite_HasPrefix (s p:ByteArray) (w:World) :
    Calls Tryz.prog 146 #[.string s,.string p] w fun e w'=>e = .returned (.bool (Lib.hasPrefix s.data.toList p.data.toList))∧w'=w:=Any.stringslite_HasPrefix Tryz.lays206 s p w
def Tryz.lays99_ren:Go.Shelf.Ren:=⟨fun | 99=>108 | 206=>146 | n=>n,fun | 9=>9 | 4=>4 | 3=>3 | n=>n,fun | n=>n⟩
theorem Tryz.lays99:Go.Proofs.Lays.n99 Tryz.prog Tryz.lays99_ren:={
  mixed:=by kernel_rfl
  f99:=Tryz.func108.trans (congrArg some (by kernel_rfl))
  f206:=Tryz.func146.trans (congrArg some (by kernel_rfl))
  t3:=Tryz.underlying3
  a3:=Tryz.isAgg3
  z3:=Tryz.sizeOf3
  v3:=Tryz.zeroValue3
  t4:=Tryz.underlying4
  a4:=Tryz.isAgg4
  z4:=Tryz.sizeOf4
  v4:=Tryz.zeroValue4
  t9:=Tryz.underlying9
  a9:=Tryz.isAgg9
  z9:=Tryz.sizeOf9
  v9:=Tryz.zeroValue9 }
open Go.RowKit Go.Lib in
theorem Tryz.strings_HasPrefix (s p:ByteArray) (w:World) :
    Calls Tryz.prog 108 #[.string s,.string p] w fun e w'=>e = .returned (.bool (Lib.hasPrefix s.data.toList p.data.toList))∧w'=w:=Any.strings_HasPrefix Tryz.lays99 s p w
def Tryz.lays197_ren:Go.Shelf.Ren:=⟨fun | 197=>105 | 260=>143 | n=>n,fun | 9=>9 | 21=>21 | 3=>3 | 4=>4 | 5=>5 | 105=>100 | 119=>121 | 0=>0 | 46=>96 | 139=>124 | 138=>123 | n=>n,fun | 3=>0 | 4=>1 | n=>n⟩
theorem Tryz.lays197:Go.Proofs.Lays.n197 Tryz.prog Tryz.lays197_ren:={
  mixed:=by kernel_rfl
  f197:=Tryz.func105.trans (congrArg some (by kernel_rfl))
  f260:=Tryz.func143.trans (congrArg some (by kernel_rfl))
  t0:=Tryz.underlying0
  a0:=Tryz.isAgg0
  z0:=Tryz.sizeOf0
  v0:=Tryz.zeroValue0
  t3:=Tryz.underlying3
  a3:=Tryz.isAgg3
  z3:=Tryz.sizeOf3
  v3:=Tryz.zeroValue3
  t4:=Tryz.underlying4
  a4:=Tryz.isAgg4
  z4:=Tryz.sizeOf4
  v4:=Tryz.zeroValue4
  t5:=Tryz.underlying5
  a5:=Tryz.isAgg5
  z5:=Tryz.sizeOf5
  v5:=Tryz.zeroValue5
  t9:=Tryz.underlying9
  a9:=Tryz.isAgg9
  z9:=Tryz.sizeOf9
  v9:=Tryz.zeroValue9
  t21:=Tryz.underlying21
  a21:=Tryz.isAgg21
  z21:=Tryz.sizeOf21
  v21:=Tryz.zeroValue21
  t46:=Tryz.underlying96
  a46:=Tryz.isAgg96
  z46:=Tryz.sizeOf96
  v46:=Tryz.zeroValue96
  t105:=Tryz.underlying100
  a105:=Tryz.isAgg100
  z105:=Tryz.sizeOf100
  v105:=Tryz.zeroValue100
  t119:=Tryz.underlying121
  a119:=Tryz.isAgg121
  z119:=Tryz.sizeOf121
  t138:=Tryz.underlying123
  a138:=Tryz.isAgg123
  z138:=Tryz.sizeOf123
  v138:=Tryz.zeroValue123
  t139:=Tryz.underlying124
  a139:=Tryz.isAgg124
  z139:=Tryz.sizeOf124
  v139:=Tryz.zeroValue124
  g3:=by kernel_rfl
  g4:=by kernel_rfl }
open Go.RowKit Go.Lib in
theorem Tryz.utf8_DecodeRuneInString_ascii (s:ByteArray) (x:UInt8) (w:World) (h0:s.data.toList[0]? = some x) (hx:x.toNat<128) :
    Calls Tryz.prog 105 #[.string s] w fun e w'=>e = .returned (.tuple #[.int .i32 x.toNat,.int .i64 1])∧w'=w:=Any.utf8_DecodeRuneInString_ascii Tryz.lays197 s x w h0 hx
def Tryz.lays260_ren:Go.Shelf.Ren:=⟨fun | 260=>143 | n=>n,fun | 9=>9 | 21=>21 | 3=>3 | 4=>4 | 5=>5 | 119=>121 | 0=>0 | 46=>96 | 139=>124 | 138=>123 | n=>n,fun | 3=>0 | 4=>1 | n=>n⟩
theorem Tryz.lays260:Go.Proofs.Lays.n260 Tryz.prog Tryz.lays260_ren:={
  mixed:=by kernel_rfl
  f260:=Tryz.func143.trans (congrArg some (by kernel_rfl))
  t0:=Tryz.underlying0
  a0:=Tryz.isAgg0
  z0:=Tryz.sizeOf0
  v0:=Tryz.zeroValue0
  t3:=Tryz.underlying3
  a3:=Tryz.isAgg3
  z3:=Tryz.sizeOf3
  v3:=Tryz.zeroValue3
  t4:=Tryz.underlying4
  a4:=Tryz.isAgg4
  z4:=Tryz.sizeOf4
  v4:=Tryz.zeroValue4
  t5:=Tryz.underlying5
  a5:=Tryz.isAgg5
  z5:=Tryz.sizeOf5
  v5:=Tryz.zeroValue5
  t9:=Tryz.underlying9
  a9:=Tryz.isAgg9
  z9:=Tryz.sizeOf9
  v9:=Tryz.zeroValue9
  t21:=Tryz.underlying21
  a21:=Tryz.isAgg21
  z21:=Tryz.sizeOf21
  v21:=Tryz.zeroValue21
  t46:=Tryz.underlying96
  a46:=Tryz.isAgg96
  z46:=Tryz.sizeOf96
  v46:=Tryz.zeroValue96
  t119:=Tryz.underlying121
  a119:=Tryz.isAgg121
  z119:=Tryz.sizeOf121
  t138:=Tryz.underlying123
  a138:=Tryz.isAgg123
  z138:=Tryz.sizeOf123
  v138:=Tryz.zeroValue123
  t139:=Tryz.underlying124
  a139:=Tryz.isAgg124
  z139:=Tryz.sizeOf124
  v139:=Tryz.zeroValue124
  g3:=by kernel_rfl
  g4:=by kernel_rfl }
open Go.RowKit Go.Lib in
theorem Tryz.utf8_decodeRuneInStringSlow (s:ByteArray) (w:World) (hT:Lib.Utf8Tabs 0 1 w) :
    Calls Tryz.prog 143 #[.string s] w fun e w'=>e = .returned (.tuple #[.int .i32 (Lib.decodeGo s).1,.int .i64 (Lib.decodeGo s).2])∧Below w.heap.size w w':=Any.utf8_decodeRuneInStringSlow Tryz.lays260 s w hT
open Go.RowKit Go.Lib in
theorem Tryz.utf8_DecodeRuneInString (s:ByteArray) (w:World) (hT:Lib.Utf8Tabs 0 1 w) :
    Calls Tryz.prog 105 #[.string s] w fun e w'=>e = .returned (.tuple #[.int .i32 (Lib.decodeGo s).1,.int .i64 (Lib.decodeGo s).2])∧Below w.heap.size w w':=Any.utf8_DecodeRuneInString Tryz.lays197 s w hT
end Go.Proofs
