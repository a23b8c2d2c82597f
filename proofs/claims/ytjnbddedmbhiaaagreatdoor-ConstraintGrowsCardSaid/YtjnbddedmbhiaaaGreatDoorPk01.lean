/-
  Plain: the operations of the reference 12.
-/
import Derived.Test.YtjnbddedmbhiaaaGreatDoorPk00
import Derived.Shelf.Small.Bits
import Derived.Shelf.Small.Strs
import Derived.Shelf.Small.Wraps
import Derived.Shelf.Strings.Search1
import Derived.Shelf.Sort.Plain
import Derived.Ground.Names2Prog
import Derived.Shelf.Slices.Clone
import Derived.Shelf.Slices.CompactS
import Derived.Shelf.Slices.SearchI
import Derived.Shelf.Slices.In.SortNone
import Derived.Shelf.Slices.Empties
import Derived.Lib.RowBridge
namespace Go.ak
def xZ:List Str:=[⟨#[]⟩,⟨#[100,110]⟩,⟨#[100]⟩,⟨#[100,97]⟩,⟨#[100,97,111,98]⟩,⟨#[100]⟩,⟨#[100,99]⟩,⟨#[100,97,109]⟩,⟨#[97,109,98]⟩,⟨#[100,97,99,109,108]⟩,⟨#[100,99,109,108]⟩,⟨#[97,103]⟩,⟨#[103]⟩,⟨#[97]⟩,⟨#[97]⟩,⟨#[100,99]⟩,⟨#[100,97,110]⟩]
def ig(o:Int):Bool:=decide (0<=o)&&decide (o<17)
def Gb(o:Int):Str:=xZ.getD o.toNat ⟨#[]⟩
def wh(f c:Int):Bool:=c==f||(f==110&&c==111)
def bS(o f:Int):Bool:=ig o&&(Gb o).toList.any (fun c=>wh f c.toNat)
theorem Ao{o:Int}:ig o=true↔∃k:Nat,k<17/\o=k:=by
 unfold ig
 simp only[Bool.and_eq_true,decide_eq_true_eq]
 constructor
 ·intro h;exact⟨o.toNat,by omega,by omega⟩
 ·rintro⟨k,hk,rfl⟩;omega
end Go.ak
namespace Go.ak
def fJ(x:Ins):List Int :=
 (if (bS x.op 97&&(x.op != 13||x.a != -1))=true then [x.a]else [])++(if bS x.op 98=true then [x.b]else [])++(if bS x.op 108=true then x.args else [])
end Go.ak
namespace Go.ak
theorem bH(o f:Int):bS o f=(ig o&&(Gb o).data.toList.any (fun c=>wh f c.toNat)):=by
 unfold bS;rw[ByteArray.toList_eq]
end Go.ak
namespace Go.ak
theorem Fh{h:List ae}{s:Str}:∀{L:List Str} {x:Str} {g:aH},iY h s L=some (x,g)->x∈L/\∃c∈h,aD c.name x=true/\dE h x=some c/\g∈c.methods/\aD g.name s=true/\fE c.methods s=some g
 |[],_,_,e=>by cases e
 |y::L,x,g,e=>by
  unfold iY at e
  split at e
  ·rename_i f hf
   cases e
   obtain⟨c,h1,h2⟩:=Option.bind_eq_some_iff.1 hf
   have h3:=List.find?_some h1
   have h4:=List.find?_some h2
   exact⟨by simp,c,List.mem_of_find?_eq_some h1,h3,h1,List.mem_of_find?_eq_some h2,h4,h2⟩
  ·obtain⟨h1,h2⟩:=Fh e
   exact⟨List.mem_cons_of_mem _ h1,h2⟩
end Go.ak
namespace Go.ak
def bG(l:List ae):Nat:=(l.map (fun c=>c.methods.length)).sum
theorem JN{l:List ae}{k:Nat}(hk:k<l.length):bG (l.take (k+1))=bG (l.take k)+l[k].methods.length:=by
 have e:l.take (k+1)=l.take k++[l[k]]:=List.take_succ_eq_append_getElem hk
 unfold bG
 rw[e,List.map_append,List.sum_append];simp
theorem Dr{l:List ae}{k m:Nat}(h:∀c∈l,c.methods.length<=m):bG (l.take k)<=k*m:=by
 induction k with
 |zero=>simp[bG]
 |succ k ih =>
  by_cases hk:k<l.length
  ·rw[JN hk]
   have:=h _ (List.getElem_mem hk)
   rw[Nat.add_mul];omega
  ·have e1:l.take (k+1)=l.take k:=by rw[List.take_of_length_le (by omega),List.take_of_length_le (by omega)]
   rw[e1,Nat.add_mul];omega
end Go.ak
namespace Go.ak
structure zG(x:ae):Prop where
 f:x.fields.length<=20
 m:x.methods.length<=20
 p:∀m∈x.methods,m.params.length<=20
structure zF(most:Nat)(f:aA):Prop where
 c:f.code.length<=most
 v:f.vars.length<=most
 a:∀i∈f.code,i.args.length<=20
def lZ(l:List aA):Nat:=(l.map (fun f=>f.code.length)).sum
theorem Dt{l:List aA}{k:Nat}(hk:k<l.length):lZ (l.take (k+1))=lZ (l.take k)+l[k].code.length:=by
 have e:l.take (k+1)=l.take k++[l[k]]:=List.take_succ_eq_append_getElem hk
 unfold lZ
 rw[e,List.map_append,List.sum_append];simp
structure mW(u:aQ)(most:Nat):Prop where
 nf:u.fs.length<=20
 nc:u.h.length<=12
 c:∀x∈u.h,zG x
 f:∀f∈u.fs,zF most f
 t:lZ u.fs<=most
end Go.ak
namespace Go.Proofs
open Go.Shelf
def Tryz.Xk:Go.Shelf.Ren:=⟨fun | 137=>182 | 217=>214 | 266=>232 | n=>n,fun | 9=>9 | 5=>5 | 3=>3 | n=>n,fun | n=>n⟩
theorem Tryz.Xl:Go.Proofs.Lays.n137 Tryz.prog Tryz.Xk:={
 mixed:=by kernel_rfl
 f137:=Tryz.func182.trans (congrArg some (by kernel_rfl))
 f217:=Tryz.func214.trans (congrArg some (by kernel_rfl))
 f266:=Tryz.func232.trans (congrArg some (by kernel_rfl))
 t3:=Tryz.underlying3
 a3:=Tryz.isAgg3
 z3:=Tryz.sizeOf3
 v3:=Tryz.zeroValue3
 t5:=Tryz.underlying5
 a5:=Tryz.isAgg5
 z5:=Tryz.sizeOf5
 v5:=Tryz.zeroValue5
 t9:=Tryz.underlying9
 a9:=Tryz.isAgg9
 z9:=Tryz.sizeOf9
 v9:=Tryz.zeroValue9 }
open Go.RowKit in
theorem Tryz.strings_IndexByte(s:ByteArray)(c:Int)(w:World) :
 Calls Tryz.prog 182 #[.string s,.int .u8 c] w fun e w'=>e = .returned (.int .i64 (Lib.indexByte s.data.toList c.toNat.toUInt8))/\w' = w:=Any.strings_IndexByte Tryz.Xl s c w
def Tryz.Xm:Go.Shelf.Ren:=⟨fun | 122=>37 | 215=>75 | n=>n,fun | 3=>3 | 4=>4 | n=>n,fun | n=>n⟩
theorem Tryz.Xn:Go.Proofs.Lays.n122 Tryz.prog Tryz.Xm:={
 mixed:=by kernel_rfl
 f122:=Tryz.func37.trans (congrArg some (by kernel_rfl))
 f215:=Tryz.func75.trans (congrArg some (by kernel_rfl))
 t3:=Tryz.underlying3
 a3:=Tryz.isAgg3
 z3:=Tryz.sizeOf3
 v3:=Tryz.zeroValue3
 t4:=Tryz.underlying4
 a4:=Tryz.isAgg4
 z4:=Tryz.sizeOf4
 v4:=Tryz.zeroValue4 }
open Go.RowKit in
theorem Tryz.cmp_Compare_int(x y:Int)(w:World) :
 Calls Tryz.prog 37 #[.int .i64 x,.int .i64 y] w fun e w'=>e = .returned (.int .i64 (Lib.compareInt x y))/\w' = w:=Any.cmp_Compare_int Tryz.Xn x y w
def Tryz.Xj:Go.Shelf.Ren:=⟨fun | 190=>26 | 125=>60 | 258=>59 | 128=>109 | 129=>110 | 302=>100 | 303=>101 | 304=>102 | 305=>103 | 306=>104 | 307=>105 | 308=>106 | 309=>107 | 310=>108 | 333=>165 | 329=>166 | 330=>167 | 334=>168 | 335=>169 | 336=>170 | 344=>209 | n=>n,fun | 31=>46 | 9=>9 | 3=>3 | 46=>115 | 0=>0 | 51=>201 | 53=>203 | 4=>4 | 183=>194 | 182=>193 | 131=>70 | 5=>5 | 218=>252 | 222=>256 | 228=>279 | 229=>208 | n=>n,fun | n=>n⟩
theorem Tryz.MX:Go.Proofs.Lays.n190 Tryz.prog Tryz.Xj:={
 mixed:=by kernel_rfl
 f125:=Tryz.func60.trans (congrArg some (by kernel_rfl))
 f128:=Tryz.func109.trans (congrArg some (by kernel_rfl))
 f129:=Tryz.func110.trans (congrArg some (by kernel_rfl))
 f190:=Tryz.func26.trans (congrArg some (by kernel_rfl))
 f258:=Tryz.func59.trans (congrArg some (by kernel_rfl))
 f302:=Tryz.func100.trans (congrArg some (by kernel_rfl))
 f303:=Tryz.func101.trans (congrArg some (by kernel_rfl))
 f304:=Tryz.func102.trans (congrArg some (by kernel_rfl))
 f305:=Tryz.func103.trans (congrArg some (by kernel_rfl))
 f306:=Tryz.func104.trans (congrArg some (by kernel_rfl))
 f307:=Tryz.func105.trans (congrArg some (by kernel_rfl))
 f308:=Tryz.func106.trans (congrArg some (by kernel_rfl))
 f309:=Tryz.func107.trans (congrArg some (by kernel_rfl))
 f310:=Tryz.func108.trans (congrArg some (by kernel_rfl))
 f329:=Tryz.func166.trans (congrArg some (by kernel_rfl))
 f330:=Tryz.func167.trans (congrArg some (by kernel_rfl))
 f333:=Tryz.func165.trans (congrArg some (by kernel_rfl))
 f334:=Tryz.func168.trans (congrArg some (by kernel_rfl))
 f335:=Tryz.func169.trans (congrArg some (by kernel_rfl))
 f336:=Tryz.func170.trans (congrArg some (by kernel_rfl))
 f344:=Tryz.func209.trans (congrArg some (by kernel_rfl))
 t0:=Tryz.underlying0
 a0:=Tryz.isAgg0
 z0:=Tryz.sizeOf0
 v0:=Tryz.zeroValue0
 t3:=Tryz.underlying3
 a3:=Tryz.isAgg3
 z3:=Tryz.sizeOf3
 v3:=Tryz.zeroValue3
 t4:=Tryz.underlying4
 a4:=Tryz.isAgg4
 z4:=Tryz.sizeOf4
 v4:=Tryz.zeroValue4
 t5:=Tryz.underlying5
 a5:=Tryz.isAgg5
 z5:=Tryz.sizeOf5
 v5:=Tryz.zeroValue5
 t9:=Tryz.underlying9
 a9:=Tryz.isAgg9
 z9:=Tryz.sizeOf9
 v9:=Tryz.zeroValue9
 t31:=Tryz.underlying46
 a31:=Tryz.isAgg46
 z31:=Tryz.sizeOf46
 v31:=Tryz.zeroValue46
 t46:=Tryz.underlying115
 a46:=Tryz.isAgg115
 z46:=Tryz.sizeOf115
 v46:=Tryz.zeroValue115
 t51:=Tryz.underlying201
 a51:=Tryz.isAgg201
 z51:=Tryz.sizeOf201
 v51:=Tryz.zeroValue201
 t53:=Tryz.underlying203
 a53:=Tryz.isAgg203
 z53:=Tryz.sizeOf203
 v53:=Tryz.zeroValue203
 t131:=Tryz.underlying70
 a131:=Tryz.isAgg70
 z131:=Tryz.sizeOf70
 v131:=Tryz.zeroValue70
 t182:=Tryz.underlying193
 a182:=Tryz.isAgg193
 z182:=Tryz.sizeOf193
 v182:=Tryz.zeroValue193
 t183:=Tryz.underlying194
 a183:=Tryz.isAgg194
 z183:=Tryz.sizeOf194
 v183:=Tryz.zeroValue194
 t218:=Tryz.underlying252
 a218:=Tryz.isAgg252
 z218:=Tryz.sizeOf252
 v218:=Tryz.zeroValue252
 t222:=Tryz.underlying256
 a222:=Tryz.isAgg256
 z222:=Tryz.sizeOf256
 v222:=Tryz.zeroValue256
 t228:=Tryz.underlying279
 a228:=Tryz.isAgg279
 z228:=Tryz.sizeOf279
 v228:=Tryz.zeroValue279
 t229:=Tryz.underlying208
 a229:=Tryz.isAgg208
 z229:=Tryz.sizeOf208
 v229:=Tryz.zeroValue208 }
open Go.Sort Go.RowKit in
theorem Tryz.slices_Sort_string(blk off cap:Nat)(ss:List (List UInt8))(w:World)(hH:Holds encStr w blk off ss.toArray)(hblk:blk<w.heap.size)(hsz:ss.length<4611686018427387904) :
 Calls Tryz.prog 26 #[.slice (some ⟨blk,off,none⟩) ss.length cap] w fun e w' =>
  e = .returned (.tuple #[])/\∃n os,w' = grow (putRow encStr (Sort.ahead w n) blk off (ss.mergeSort fun x y=>decide (x<=y)).toArray) os:=Any.slices_Sort_string Tryz.MX blk off cap ss w hH hblk hsz
def Tryz.Xh:Go.Shelf.Ren:=⟨fun | 15=>22 | n=>n,fun | 22=>28 | 3=>3 | 4=>4 | n=>n,fun | n=>n⟩
theorem Tryz.Fv:Go.Proofs.Lays2.n15 Tryz.prog Tryz.Xh:={
 mixed:=by kernel_rfl
 f15:=Tryz.func22.trans (congrArg some (by kernel_rfl))
 t3:=Tryz.underlying3
 a3:=Tryz.isAgg3
 z3:=Tryz.sizeOf3
 v3:=Tryz.zeroValue3
 t4:=Tryz.underlying4
 a4:=Tryz.isAgg4
 z4:=Tryz.sizeOf4
 v4:=Tryz.zeroValue4
 t22:=Tryz.underlying28
 a22:=Tryz.isAgg28
 z22:=Tryz.sizeOf28
 v22:=Tryz.zeroValue28
 i3:=by kernel_rfl }
open Go.RowKit Go.Lib in
theorem Tryz.slices_Clone_int(b off n c:Nat)(zs:List Int)(w:World)(hz:n<=zs.length)(hbig:n*8<=140737488355328)(hc:∀j,j<zs.length->w.cell? ⟨b,off+j,none⟩=some (.int .i64 (zs.getD j 0))) :
 Calls Tryz.prog 22 #[.slice (some ⟨b,off,none⟩) n c] w fun e w'=>∃v',e = .returned v'/\w'.ownsRow w.heap.size 3 1 v' n ((zs.take n).map (Value.int .i64))/\v' ≠ .slice none 0 0/\Below w.heap.size w w':=Any.slices_Clone_int Tryz.Fv b off n c zs w hz hbig hc
open Go.RowKit Go.Lib in
theorem Tryz.slices_Clone_int_nil(n c:Nat)(w:World) :
 Calls Tryz.prog 22 #[.slice none n c] w fun e w'=>e = .returned (.slice none 0 0)/\w' = w:=Any.slices_Clone_int_nil Tryz.Fv n c w
def Tryz.Xg:Go.Shelf.Ren:=⟨fun | 16=>115 | n=>n,fun | 24=>46 | 9=>9 | 4=>4 | n=>n,fun | n=>n⟩
theorem Tryz.Fu:Go.Proofs.Lays2.n16 Tryz.prog Tryz.Xg:={
 mixed:=by kernel_rfl
 f16:=Tryz.func115.trans (congrArg some (by kernel_rfl))
 t4:=Tryz.underlying4
 a4:=Tryz.isAgg4
 z4:=Tryz.sizeOf4
 v4:=Tryz.zeroValue4
 t9:=Tryz.underlying9
 a9:=Tryz.isAgg9
 z9:=Tryz.sizeOf9
 v9:=Tryz.zeroValue9
 t24:=Tryz.underlying46
 a24:=Tryz.isAgg46
 z24:=Tryz.sizeOf46
 v24:=Tryz.zeroValue46
 i9:=by kernel_rfl }
open Go.RowKit Go.Lib in
theorem Tryz.slices_Clone_string(b off n c:Nat)(zs:List ByteArray)(w:World)(hz:n<=zs.length)(hbig:n*16<=140737488355328)(hc:∀j,j<zs.length->w.cell? ⟨b,off+j,none⟩=some (.string (zs.getD j ByteArray.empty))) :
 Calls Tryz.prog 115 #[.slice (some ⟨b,off,none⟩) n c] w fun e w'=>∃v',e = .returned v'/\w'.ownsRow w.heap.size 9 1 v' n ((zs.take n).map (Value.string))/\v' ≠ .slice none 0 0/\Below w.heap.size w w':=Any.slices_Clone_string Tryz.Fu b off n c zs w hz hbig hc
open Go.RowKit Go.Lib in
theorem Tryz.slices_Clone_string_nil(n c:Nat)(w:World) :
 Calls Tryz.prog 115 #[.slice none n c] w fun e w'=>e = .returned (.slice none 0 0)/\w' = w:=Any.slices_Clone_string_nil Tryz.Fu n c w
open Go.RowKit Go.Lib in
theorem Tryz.slices_Clone_int_zero(a:Addr)(c:Nat)(w:World) :
 Calls Tryz.prog 22 #[.slice (some a) 0 c] w fun e w'=>∃v',e = .returned v'/\w'.ownsRow w.heap.size 3 1 v' 0 []/\v' ≠ .slice none 0 0/\Below w.heap.size w w':=Any.slices_Clone_int_zero Tryz.Fv a c w
open Go.RowKit Go.Lib in
theorem Tryz.slices_Clone_string_zero(a:Addr)(c:Nat)(w:World) :
 Calls Tryz.prog 115 #[.slice (some a) 0 c] w fun e w'=>∃v',e = .returned v'/\w'.ownsRow w.heap.size 9 1 v' 0 []/\v' ≠ .slice none 0 0/\Below w.heap.size w w':=Any.slices_Clone_string_zero Tryz.Fu a c w
def Tryz.Xi:Go.Shelf.Ren:=⟨fun | 194=>27 | n=>n,fun | 31=>46 | 9=>9 | 3=>3 | 4=>4 | 0=>0 | n=>n,fun | n=>n⟩
theorem Tryz.MW:Go.Proofs.Lays.n194 Tryz.prog Tryz.Xi:={
 mixed:=by kernel_rfl
 f194:=Tryz.func27.trans (congrArg some (by kernel_rfl))
 t0:=Tryz.underlying0
 a0:=Tryz.isAgg0
 z0:=Tryz.sizeOf0
 v0:=Tryz.zeroValue0
 t3:=Tryz.underlying3
 a3:=Tryz.isAgg3
 z3:=Tryz.sizeOf3
 v3:=Tryz.zeroValue3
 t4:=Tryz.underlying4
 a4:=Tryz.isAgg4
 z4:=Tryz.sizeOf4
 v4:=Tryz.zeroValue4
 t9:=Tryz.underlying9
 a9:=Tryz.isAgg9
 z9:=Tryz.sizeOf9
 v9:=Tryz.zeroValue9
 t31:=Tryz.underlying46
 a31:=Tryz.isAgg46
 z31:=Tryz.sizeOf46
 v31:=Tryz.zeroValue46 }
open Go.RowKit Go.Lib Go.Sort in
theorem Tryz.slices_Compact_string(blk off cap:Nat)(zs:List (List UInt8))(w:World)(hH:Holds encStr w blk off zs.toArray)(hsz:zs.length<=9223372036854775807)(hcap:zs.length<=cap) :
 Calls Tryz.prog 27 #[.slice (some ⟨blk,off,none⟩) zs.length cap] w fun e w'=>e = .returned (.slice (some ⟨blk,off,none⟩) (Lib.compact zs).length cap)/\∃q,w' = putRow encStr (Sort.ahead w q) blk off (Lib.compact zs++List.replicate (zs.length-(Lib.compact zs).length) []).toArray:=Any.slices_Compact_string Tryz.MW blk off cap zs w hH hsz hcap
open Go.RowKit Go.Lib Go.Sort in
theorem Tryz.slices_Compact_string_empty(a:Option Addr)(cap:Nat)(w:World) :
 Calls Tryz.prog 27 #[.slice a 0 cap] w fun e w'=>e = .returned (.slice a 0 cap)/\w' = w:=Any.slices_Compact_string_empty Tryz.MW a cap w
def Tryz.Xf:Go.Shelf.Ren:=⟨fun | 25=>19 | 31=>42 | 32=>43 | 37=>75 | n=>n,fun | 22=>28 | 3=>3 | 4=>4 | 40=>115 | 0=>0 | n=>n,fun | n=>n⟩
theorem Tryz.MV:Go.Proofs.Lays2.n25 Tryz.prog Tryz.Xf:={
 mixed:=by kernel_rfl
 f25:=Tryz.func19.trans (congrArg some (by kernel_rfl))
 f31:=Tryz.func42.trans (congrArg some (by kernel_rfl))
 f32:=Tryz.func43.trans (congrArg some (by kernel_rfl))
 f37:=Tryz.func75.trans (congrArg some (by kernel_rfl))
 t0:=Tryz.underlying0
 a0:=Tryz.isAgg0
 z0:=Tryz.sizeOf0
 v0:=Tryz.zeroValue0
 t3:=Tryz.underlying3
 a3:=Tryz.isAgg3
 z3:=Tryz.sizeOf3
 v3:=Tryz.zeroValue3
 t4:=Tryz.underlying4
 a4:=Tryz.isAgg4
 z4:=Tryz.sizeOf4
 v4:=Tryz.zeroValue4
 t22:=Tryz.underlying28
 a22:=Tryz.isAgg28
 z22:=Tryz.sizeOf28
 v22:=Tryz.zeroValue28
 t40:=Tryz.underlying115
 a40:=Tryz.isAgg115
 z40:=Tryz.sizeOf115
 v40:=Tryz.zeroValue115 }
open Go.RowKit Go.Lib in
theorem Tryz.slices_BinarySearch_int(b off n c:Nat)(zs:List Int)(x:Int)(w:World)(hz:n<=zs.length)(hbig:n<4611686018427387904)(hc:∀j,j<zs.length->w.cell? ⟨b,off+j,none⟩=some (.int .i64 (zs.getD j 0)))(hs:(zs.take n).Pairwise (· <= ·)) :
 Calls Tryz.prog 19 #[.slice (some ⟨b,off,none⟩) n c,.int .i64 x] w fun e w'=>e = .returned (.tuple #[.int .i64 ((zs.take n).countP (· < x):Nat),.bool ((zs.take n).contains x)])/\∃q,w' = w.drewN q:=Any.slices_BinarySearch_int Tryz.MV b off n c zs x w hz hbig hc hs
open Go.RowKit Go.Sort in
theorem Tryz.slices_Sort_string_none(p:Option Addr)(cap:Nat)(w:World) :
 Calls Tryz.prog 26 #[.slice p 0 cap] w fun e w'=>e = .returned (.tuple #[])/\w' = w:=Any.slices_Sort_string_none Tryz.MX p cap w
open Go.RowKit Go.Lib in
theorem Tryz.slices_BinarySearch_int_empty(a:Option Addr)(c:Nat)(x:Int)(w:World) :
 Calls Tryz.prog 19 #[.slice a 0 c,.int .i64 x] w fun e w'=>e = .returned (.tuple #[.int .i64 0,.bool false])/\w' = w:=Any.slices_BinarySearch_int_empty Tryz.MV a c x w
end Go.Proofs
