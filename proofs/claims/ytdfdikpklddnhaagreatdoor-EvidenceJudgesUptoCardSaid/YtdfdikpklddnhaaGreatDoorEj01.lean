/- Of the proof of EvidenceJudges, second form: for values of bulk at most 1048576. (Ej01) -/
import Derived.Test.YtdfdikpklddnhaaGreatDoorProg
import Derived.Deep.RegionHeld3
import Derived.Conc.WalkWords
import Derived.KernelRfl
import Derived.Lib.Hide
import Derived.Lib.Split
import Derived.Laws.BitsAllLaws
import Derived.WalkKit
/- Short names for moves of a drawn region. -/
namespace Go.Proofs.YtdfdikpklddnhaaGreatDoor
open Go.RowKit
theorem zh {P : Prop} (h : P) : Hid P := Lib.hid h
theorem zj {P : Program} {md : Region.Mode} {ops : Array Oper} {Q : Exit → Act → World → Prop} {S : World → Prop} {fuel : Nat} {listed : Array Bool} {a : Act} {w : World} {oi : Oper} (i : Nat) (v : Value) (hi : ops[i]? = some oi) (hy : YieldsIf P ops S oi v a) (hS : S w)
    (h : wpAnyH P md ops Q S fuel (listed.setIfInBounds i true) (a.put oi.dst v) w) (hb : (Region.noSelect ops && Region.free md ops listed i && (Region.ready md ops listed).contains i) = true := by kernel_rfl)
    (hQ : ∀ c a w, Q (.panic c) (a.put oi.dst v) w → Q (.panic c) a w := by exact fun _ _ _ h => h) : wpAnyH P md ops Q S (fuel + 1) listed a w := by
  simp only [Bool.and_eq_true] at hb
  exact wpAnyH_take hi hb.1.1 hb.1.2 hb.2 hQ hy hS h
theorem zt {P : Program} {md : Region.Mode} {ops : Array Oper} {Q : Exit → Act → World → Prop} {S : World → Prop} {fuel : Nat} {listed : Array Bool} {a : Act} {w : World} {oi : Oper} (i : Nat) (v : Value) (hi : ops[i]? = some oi) (hy : ∀ w, S w → (execOp a.eval oi).run P w = .ok (.value v) w) (hS : S w)
    (h : wpAnyH P md ops Q S fuel (listed.setIfInBounds i true) (a.put oi.dst v) w) (hw : Region.wanted oi (yielded ops a.tmps) = true := by rfl) (hb : (Region.noSelect ops && Region.free md ops listed i && (Region.ready md ops listed).contains i) = true := by kernel_rfl)
    (hQ : ∀ c a w, Q (.panic c) (a.put oi.dst v) w → Q (.panic c) a w := by exact fun _ _ _ h => h) : wpAnyH P md ops Q S (fuel + 1) listed a w := zj i v hi (.inl ⟨hw, hy⟩) hS h hb hQ
theorem zo {P : Program} {md : Region.Mode} {ops : Array Oper} {Q : Exit → Act → World → Prop} {S : World → Prop} {fuel : Nat} {listed : Array Bool} {a : Act} {w : World} {o : Oper} (i : Nat) (ho : ops[i]? = some o)
    (h : ∀ K' : Act → World → Prop, Shut (∀ a w, S w → (S w → wpAnyH P md ops Q S fuel (listed.setIfInBounds i true) a w) → K' a w) → Oper.wp P o a w K' Q) (hw : Region.wanted o (yielded ops a.tmps) = true := by rfl) (hr : Region.ready md ops listed = [i] := by kernel_rfl) :
    wpAnyH P md ops Q S (fuel + 1) listed a w := wpAnyH_ready hr (by simp) (AllReadyH.cons ho (fun K' hK => by rw [if_pos hw]; exact h K' hK) AllReadyH.nil)
theorem zd {P : Program} {md : Region.Mode} {ops : Array Oper} {Q : Exit → Act → World → Prop} {S : World → Prop} {fuel : Nat} {listed : Array Bool} {a : Act} {w : World} (h : Q .normal a w) (hr : Region.ready md ops listed = [] := by kernel_rfl) : wpAnyH P md ops (NoPanic Q) S fuel listed a w := wpAnyH_done hr (NoPanic.normal h) _
theorem zg {α : Sort _} (x : α) : ∃ y, y = x := ⟨x, rfl⟩
end Go.Proofs.YtdfdikpklddnhaaGreatDoor
namespace Go.Proofs.YtdfdikpklddnhaaGreatDoor
abbrev Bs:=List UInt8
def dig (b:UInt8):Bool:=decide (48≤b.toNat∧b.toNat≤57)
def pathN (n:Nat):Bool:=decide (48≤n∧n≤57) || decide (97≤n∧n≤122) || decide (65≤n∧n≤90) || decide (n=45∨n=46∨n=95∨n=126∨n=47)
def pathB (b:UInt8):Bool:=pathN b.toNat
def digs (l:Bs):Bool:=l.all dig
def num (l:Bs):Bool:=digs l && (!l.isEmpty && (l == [48] || l.head? != some 48))
end Go.Proofs.YtdfdikpklddnhaaGreatDoor
namespace Go.Proofs.YtdfdikpklddnhaaGreatDoor
open Go.RowKit
def rotr (x:UInt32) (n:Nat):UInt32:=(x >>> UInt32.ofNat n) ||| (x <<< UInt32.ofNat (32 - n))
def big0 (x:UInt32):UInt32:=(rotr x 2 ^^^ rotr x 13) ^^^ rotr x 22
def big1 (x:UInt32):UInt32:=(rotr x 6 ^^^ rotr x 11) ^^^ rotr x 25
def sml0 (x:UInt32):UInt32:=(rotr x 7 ^^^ rotr x 18) ^^^ (x >>> 3)
def sml1 (x:UInt32):UInt32:=(rotr x 17 ^^^ rotr x 19) ^^^ (x >>> 10)
def schW (m:Nat→UInt32) (i:Nat):UInt32 :=
 if i<16 then m i else ((schW m (i - 16)+sml0 (schW m (i - 15)))+schW m (i - 7))+sml1 (schW m (i - 2))
termination_by i
decreasing_by all_goals omega
theorem schW_lo (m:Nat→UInt32) (i:Nat) (h:i<16):schW m i=m i:=by rw [schW,if_pos h]
theorem schW_hi (m:Nat→UInt32) (i:Nat) (h:16≤i):schW m i=((schW m (i - 16)+sml0 (schW m (i - 15)))+schW m (i - 7))+sml1 (schW m (i - 2)):=by
 rw [schW,if_neg (by omega)]
structure St8 where
 a:UInt32
 b:UInt32
 c:UInt32
 d:UInt32
 e:UInt32
 f:UInt32
 g:UInt32
 h:UInt32
def t1 (s:St8) (k w:UInt32):UInt32:=(((s.h+big1 s.e)+((s.e &&& s.f) ^^^ (~~~s.e &&& s.g)))+k)+w
def t2 (s:St8):UInt32:=big0 s.a+(((s.a &&& s.b) ^^^ (s.a &&& s.c)) ^^^ (s.b &&& s.c))
def rnd (s:St8) (k w:UInt32):St8:=⟨t1 s k w+t2 s,s.a,s.b,s.c,s.d+t1 s k w,s.e,s.f,s.g⟩
def rounds (K m:Nat→UInt32) (s:St8):Nat→St8
 | 0=>s
 | i+1=>rnd (rounds K m s i) (K i) (schW m i)
def addSt (s t:St8):St8:=⟨s.a+t.a,s.b+t.b,s.c+t.c,s.d+t.d,s.e+t.e,s.f+t.f,s.g+t.g,s.h+t.h⟩
def u32V (x:UInt32):Value:=.int .u32 x.toNat
def St8.cells (s:St8):List Value:=[u32V s.a,u32V s.b,u32V s.c,u32V s.d,u32V s.e,u32V s.f,u32V s.g,u32V s.h]
def word4 (a b c d:UInt8):UInt32:=UInt32.ofNat (((a.toNat * 256+b.toNat) * 256+c.toNat) * 256+d.toNat)
def msgW (l:Bs) (i:Nat):UInt32:=word4 (l.getD (4 * i) 0) (l.getD (4 * i+1) 0) (l.getD (4 * i+2) 0) (l.getD (4 * i+3) 0)
def kcL:List UInt32:=[0x428a2f98,0x71374491,0xb5c0fbcf,0xe9b5dba5,0x3956c25b,0x59f111f1,0x923f82a4,0xab1c5ed5,0xd807aa98,0x12835b01,0x243185be,0x550c7dc3,0x72be5d74,0x80deb1fe,0x9bdc06a7,0xc19bf174,0xe49b69c1,0xefbe4786,0x0fc19dc6,0x240ca1cc,0x2de92c6f,0x4a7484aa,0x5cb0a9dc,0x76f988da,0x983e5152,0xa831c66d,0xb00327c8,0xbf597fc7,0xc6e00bf3,0xd5a79147,0x06ca6351,0x14292967,0x27b70a85,0x2e1b2138,0x4d2c6dfc,0x53380d13,0x650a7354,0x766a0abb,0x81c2c92e,0x92722c85,0xa2bfe8a1,0xa81a664b,0xc24b8b70,0xc76c51a3,0xd192e819,0xd6990624,0xf40e3585,0x106aa070,0x19a4c116,0x1e376c08,0x2748774c,0x34b0bcb5,0x391c0cb3,0x4ed8aa4a,0x5b9cca4f,0x682e6ff3,0x748f82ee,0x78a5636f,0x84c87814,0x8cc70208,0x90befffa,0xa4506ceb,0xbef9a3f7,0xc67178f2]
def kc (i:Nat):UInt32:=kcL.getD i 0
def mixB (s:St8) (b:Bs):St8:=addSt s (rounds kc (msgW b) s 64)
def mixAll (s:St8) (l:Bs):St8 × Bs:=if 64≤l.length then mixAll (mixB s (l.take 64)) (l.drop 64) else (s,l)
termination_by l.length
decreasing_by simp;omega
theorem mixAll_big (s:St8) (l:Bs) (h:64≤l.length):mixAll s l=mixAll (mixB s (l.take 64)) (l.drop 64):=by rw [mixAll,if_pos h]
theorem mixAll_small (s:St8) (l:Bs) (h:l.length<64):mixAll s l=(s,l):=by rw [mixAll,if_neg (by omega)]
def be4 (x:UInt32):Bs:=[UInt8.ofNat (x.toNat / 16777216),UInt8.ofNat (x.toNat / 65536),UInt8.ofNat (x.toNat / 256),UInt8.ofNat x.toNat]
def be8 (n:Nat):Bs:=[UInt8.ofNat (n / 72057594037927936),UInt8.ofNat (n / 281474976710656),UInt8.ofNat (n / 1099511627776),UInt8.ofNat (n / 4294967296),UInt8.ofNat (n / 16777216),UInt8.ofNat (n / 65536),UInt8.ofNat (n / 256),UInt8.ofNat n]
def padL (r:Bs) (n:Nat):Bs:=((r++[128])++List.replicate ((119 - r.length) % 64) 0)++be8 (8 * n)
def h0:St8:=⟨0x6a09e667,0xbb67ae85,0x3c6ef372,0xa54ff53a,0x510e527f,0x9b05688c,0x1f83d9ab,0x5be0cd19⟩
def St8.bytes (s:St8):Bs:=be4 s.a++be4 s.b++be4 s.c++be4 s.d++be4 s.e++be4 s.f++be4 s.g++be4 s.h
def sha (l:Bs):Bs:=(mixAll (mixAll h0 l).1 (padL (mixAll h0 l).2 l.length)).1.bytes
theorem sha_length (l:Bs):(sha l).length=32:=rfl
theorem u32_xor' (a b:UInt32):Go.bits .xor .u32 (a.toNat:Int) (b.toNat:Int)=((a ^^^ b).toNat:Int):=by
 rw [u32_xor_nat _ _ a.toNat_lt b.toNat_lt,UInt32.toNat_xor]
theorem u32_and' (a b:UInt32):Go.bits .and .u32 (a.toNat:Int) (b.toNat:Int)=((a &&& b).toNat:Int):=by
 rw [u32_and_nat _ _ a.toNat_lt b.toNat_lt,UInt32.toNat_and]
theorem shr_int (x:UInt32) (n a:Nat) (h1:n<32) (ha:a=2 ^ n):((x.toNat:Int) / (a:Int))=((x >>> UInt32.ofNat n).toNat:Int):=by
 have e3:(UInt32.ofNat n).toNat=n:=by rw [UInt32.toNat_ofNat'];exact Nat.mod_eq_of_lt (by omega)
 rw [UInt32.toNat_shiftRight,e3,Nat.mod_eq_of_lt h1,Nat.shiftRight_eq_div_pow,ha,Int.natCast_ediv]
theorem sml0_int (x:UInt32):Go.bits .xor .u32 (Go.bits .xor .u32 ((rotr x 7).toNat:Int) ((rotr x 18).toNat:Int)) ((x.toNat:Int) / 8)=((sml0 x).toNat:Int):=by
 have h:=shr_int x 3 8 (by decide) (by decide)
 rw [show ((x.toNat:Int) / 8)=((x >>> UInt32.ofNat 3).toNat:Int) from h,u32_xor',u32_xor']
 rfl
theorem sml1_int (x:UInt32):Go.bits .xor .u32 (Go.bits .xor .u32 ((rotr x 17).toNat:Int) ((rotr x 19).toNat:Int)) ((x.toNat:Int) / 1024)=((sml1 x).toNat:Int):=by
 have h:=shr_int x 10 1024 (by decide) (by decide)
 rw [show ((x.toNat:Int) / 1024)=((x >>> UInt32.ofNat 10).toNat:Int) from h,u32_xor',u32_xor']
 rfl
theorem u32_add2 (a b:UInt32):((a.toNat:Int)+(b.toNat:Int)) % 4294967296=((a+b).toNat:Int):=by
 rw [UInt32.toNat_add];omega
theorem u32_add4 (a b c d:UInt32):((a.toNat:Int)+(b.toNat:Int)+(c.toNat:Int)+(d.toNat:Int)) % 4294967296=((((a+b)+c)+d).toNat:Int):=by
 rw [UInt32.toNat_add,UInt32.toNat_add,UInt32.toNat_add];omega
theorem u32_add5 (a b c d e:UInt32):((a.toNat:Int)+(b.toNat:Int)+(c.toNat:Int)+(d.toNat:Int)+(e.toNat:Int)) % 4294967296=(((((a+b)+c)+d)+e).toNat:Int):=by
 rw [UInt32.toNat_add,UInt32.toNat_add,UInt32.toNat_add,UInt32.toNat_add];omega
theorem u32_not' (a:UInt32):Go.bits .xor .u32 IntKind.u32.max (a.toNat:Int)=((~~~a).toNat:Int):=by
 have h:=u32_xor' (4294967295:UInt32) a
 have e:IntKind.u32.max=(((4294967295:UInt32).toNat:Nat):Int):=by decide +kernel
 rw [e,h]
 congr 2
theorem t1_int (s:St8) (k w:UInt32) :
  ((s.h.toNat:Int)+Go.bits .xor .u32 (Go.bits .xor .u32 ((rotr s.e 6).toNat:Int) ((rotr s.e 11).toNat:Int)) ((rotr s.e 25).toNat:Int) +
   Go.bits .xor .u32 (Go.bits .and .u32 (s.e.toNat:Int) (s.f.toNat:Int)) (Go.bits .and .u32 (Go.bits .xor .u32 IntKind.u32.max (s.e.toNat:Int)) (s.g.toNat:Int))+(k.toNat:Int)+(w.toNat:Int)) % 4294967296=((t1 s k w).toNat:Int):=by
 rw [u32_not',u32_and',u32_and',u32_xor',u32_xor',u32_xor',u32_add5]
 rfl
theorem t2_int (s:St8) :
  (Go.bits .xor .u32 (Go.bits .xor .u32 ((rotr s.a 2).toNat:Int) ((rotr s.a 13).toNat:Int)) ((rotr s.a 22).toNat:Int) +
   Go.bits .xor .u32 (Go.bits .xor .u32 (Go.bits .and .u32 (s.a.toNat:Int) (s.b.toNat:Int)) (Go.bits .and .u32 (s.a.toNat:Int) (s.c.toNat:Int))) (Go.bits .and .u32 (s.b.toNat:Int) (s.c.toNat:Int))) % 4294967296=((t2 s).toNat:Int):=by
 rw [u32_and',u32_and',u32_and',u32_xor',u32_xor',u32_xor',u32_xor',u32_add2]
 rfl
end Go.Proofs.YtdfdikpklddnhaaGreatDoor
