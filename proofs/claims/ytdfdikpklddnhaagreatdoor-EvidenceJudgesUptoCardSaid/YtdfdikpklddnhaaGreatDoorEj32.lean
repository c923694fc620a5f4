/- Of the proof of EvidenceJudges, second form: for values of bulk at most 1048576. (Ej32) -/
import Derived.Test.YtdfdikpklddnhaaGreatDoorEj01
import Derived.Test.YtdfdikpklddnhaaGreatDoorEj14
import Derived.Laws.BitsLemmas
import Derived.Laws.Bits64
import Derived.Deep.AppendLies
import Derived.Deep.RegionLaw
import Derived.Laws.IdiomStrings
namespace Go.Proofs.YtdfdikpklddnhaaGreatDoor
open Go.RowKit
set_option linter.unusedSimpArgs false
def lettersA:Array UInt8:=#[65,66,67,68,69,70,71,72,73,74,75,76,77,78,79,80,81,82,83,84,85,86,87,88,89,90,97,98,99,100,101,102,103,104,105,106,107,108,109,110,111,112,113,114,115,116,117,118,119,120,121,122,48,49,50,51,52,53,54,55,56,57,43,47]
def let64 (n:Nat):UInt8:=lettersA.getD n 0
def n3 (a b c:UInt8):Nat:=a.toNat * 65536+b.toNat * 256+c.toNat
def q4 (n:Nat):Bs:=[let64 (n / 262144),let64 (n / 4096 % 64),let64 (n / 64 % 64),let64 (n % 64)]
def enc64:Bs→Bs
 | a :: b :: c :: l=>q4 (n3 a b c)++enc64 l
 | [a,b]=>[let64 (n3 a b 0 / 262144),let64 (n3 a b 0 / 4096 % 64),let64 (n3 a b 0 / 64 % 64),61]
 | [a]=>[let64 (n3 a 0 0 / 262144),let64 (n3 a 0 0 / 4096 % 64),61,61]
 | []=>[]
def encJ (l:Bs) (j:Nat):Bs:=enc64 (l.take (3 * j))
theorem enc64_app:∀ (j:Nat) (x y:Bs),x.length=3 * j→enc64 (x++y)=enc64 x++enc64 y
 | 0,x,y,h=>by have hx:x=[]:=List.eq_nil_of_length_eq_zero (by omega);subst hx;rfl
 | j+1,x,y,h=>by
  match x,h with
  | a :: b :: c :: x,h =>
   have:=enc64_app j x y (by simp at h;omega)
   simp only [List.cons_append,enc64,this,List.append_assoc]
theorem enc64_len:∀ (j:Nat) (x:Bs),x.length=3 * j→(enc64 x).length=4 * j
 | 0,x,h=>by have hx:x=[]:=List.eq_nil_of_length_eq_zero (by omega);subst hx;rfl
 | j+1,x,h=>by
  match x,h with
  | a :: b :: c :: x,h =>
   have:=enc64_len j x (by simp at h;omega)
   simp only [enc64,List.length_append,this,q4,List.length_cons,List.length_nil]
   omega
theorem take_three (l:Bs) (j:Nat) (a b c:UInt8) (ha:l[3 * j]?=some a) (hb:l[3 * j+1]?=some b) (hc:l[3 * j+2]?=some c):l.take (3 * (j+1))=l.take (3 * j)++[a,b,c]:=by
 rw [show 3 * (j+1)=3 * j+1+1+1 by omega,List.take_add_one,List.take_add_one,List.take_add_one,ha,hb,show 3 * j+1+1=3 * j+2 by omega,hc]
 simp
theorem encJ_step (l:Bs) (j:Nat) (a b c:UInt8) (ha:l[3 * j]?=some a) (hb:l[3 * j+1]?=some b) (hc:l[3 * j+2]?=some c):encJ l (j+1)=encJ l j++q4 (n3 a b c):=by
 have hlt:3 * j<l.length:=(List.getElem?_eq_some_iff.1 ha).1
 unfold encJ
 rw [take_three l j a b c ha hb hc,enc64_app j _ _ (by rw [List.length_take];omega)]
 simp [enc64]
theorem letter_at (k:Nat) (hk:k<64) (w:World):(Instr.index 9 (.string ⟨#[65,66,67,68,69,70,71,72,73,74,75,76,77,78,79,80,81,82,83,84,85,86,87,88,89,90,97,98,99,100,101,102,103,104,105,106,107,108,109,110,111,112,113,114,115,116,117,118,119,120,121,122,48,49,50,51,52,53,54,55,56,57,43,47]⟩) (.int .i64 k)).run Tryz.prog w=.ok (byteV (let64 k)) w:=by
 have hs:(⟨lettersA⟩:ByteArray).size=64:=by kernel_rfl
 show (Instr.index 9 (.string ⟨lettersA⟩) (.int .i64 k)).run Tryz.prog w=_
 rw [run_index_string w 9 ⟨lettersA⟩ .i64 k Tryz.underlying9,dif_pos ⟨by omega,by rw [hs];omega⟩]
 unfold byteV let64
 congr 3
 have hk2:k<lettersA.size:=by have e:lettersA.size=64:=(by kernel_rfl);omega
 simp [ByteArray.getElem_eq_getElem_data,hk2]
theorem i64_or_nat (a b:Nat) (ha:a<1099511627776) (hb:b<1099511627776):Go.bits .or .i64 (a:Int) (b:Int)=((a ||| b:Nat):Int):=by
 have hx:a ||| b<2 ^ 40:=Nat.or_lt_two_pow (by omega) (by omega)
 have h1:(BitVec.ofInt 64 (a:Int)).toNat=a:=by
  rw [BitVec.ofInt_natCast,BitVec.toNat_ofNat];exact Nat.mod_eq_of_lt (by omega)
 have h2:(BitVec.ofInt 64 (b:Int)).toNat=b:=by
  rw [BitVec.ofInt_natCast,BitVec.toNat_ofNat];exact Nat.mod_eq_of_lt (by omega)
 show IntKind.i64.wrap ((BitVec.ofInt 64 (a:Int) ||| BitVec.ofInt 64 (b:Int)).toNat:Int)=_
 rw [BitVec.toNat_or,h1,h2]
 exact IntWalk.i64_in _ (by omega)
theorem wraps64 (n:Int) (h₀:0≤n) (h₁:n<2 ^ 63):IntKind.i64.wrap n=n:=IntWalk.i64_in _ (by omega)
theorem and63 (y:Nat) (hy:y<1099511627776):Go.bits .and .i64 (y:Int) 63=((y % 64:Nat):Int):=by
 have h:=bits_mask .i64 63 (by decide) wraps64 6 (by decide) (y:Int) (by omega) (by omega)
 have e:((2:Int) ^ 6 - 1)=63:=by decide
 have e2:((2:Int) ^ 6)=64:=by decide
 rw [e,e2] at h
 rw [h];omega
theorem u8lt (a:UInt8):a.toNat<256:=a.toNat_lt
theorem two_int (a b:UInt8):Go.bits .or .i64 (wrap64 (wrap64 (a.toNat:Int) * 65536)) (wrap64 (wrap64 (b.toNat:Int) * 256))=((n3 a b 0:Nat):Int):=by
 have:=u8lt a;have:=u8lt b
 rw [IntWalk.wrap64_in (a.toNat:Int) (by omega),IntWalk.wrap64_in (b.toNat:Int) (by omega),IntWalk.wrap64_in ((a.toNat:Int) * 65536) (by omega),IntWalk.wrap64_in ((b.toNat:Int) * 256) (by omega)]
 rw [show ((a.toNat:Int) * 65536)=((a.toNat * 65536:Nat):Int) by omega,show ((b.toNat:Int) * 256)=((b.toNat * 256:Nat):Int) by omega,i64_or_nat _ _ (by omega) (by omega),nat_join 16 _ _ (by omega) (by omega)]
 unfold n3
 simp
theorem n3_int (a b c:UInt8):Go.bits .or .i64 (Go.bits .or .i64 (wrap64 (wrap64 (a.toNat:Int) * 65536)) (wrap64 (wrap64 (b.toNat:Int) * 256))) (wrap64 (c.toNat:Int))=((n3 a b c:Nat):Int):=by
 have:=u8lt a;have:=u8lt b;have:=u8lt c
 rw [two_int,IntWalk.wrap64_in (c.toNat:Int) (by omega),i64_or_nat _ _ (by unfold n3;simp;omega) (by omega),nat_join 8 _ _ (by unfold n3;simp;omega) (by omega)]
 unfold n3
 simp
theorem n3_lt (a b c:UInt8):n3 a b c<16777216:=by
 have:=u8lt a;have:=u8lt b;have:=u8lt c
 unfold n3;omega
set_option maxRecDepth 100000 in
set_option maxHeartbeats 1600000 in
theorem enc_any (g:Nat) (l:Bs) (w:World) (hl:l.length=32) (hb:BytesAt w g 0 l) (_hg:g<w.heap.size) :
  Calls Tryz.prog 133 #[.slice (some ⟨g,0,none⟩) 32 32] w fun e w'=>e=.returned (.string ⟨(enc64 l).toArray⟩)∧Mv (fun _=>False) w w':=by
 obtain ⟨i0,hi0,hz0,hz1,hz2⟩:=info_parts Tryz.info5
 have HBY:=zh hb
 have HL:=zh hl
 clear hb hl
 go_enter Tryz.func133,Tryz.ntmps133
 go_wp2_with (first|(at_make;go_loud (refine wpList_make_own _ rfl _ _ 26 rfl _ 5 i0 (.int .u8 0) 1 Tryz.underlying26 hi0 hz0 hz1 .i64 .i64 44 44 rfl rfl rfl (by rw [hz2];decide) (by decide) (Nat.le_refl w.heap.size) ?_)))
 intro w1 hown0 hgrow0
 have HM0:Hid (Mv (fun _=>False) w w1):=zh (((Mv.refl (fun _=>False) w)).grown hgrow0 (fun k h=>by cases h))
 clear hgrow0
 go_wp2_with fail
 go_loopw [0,3] (fun b o wr=>∃ j:Nat,∃ v:Value,j≤10∧b=.slice (some ⟨g,3 * j,none⟩) (32 - 3 * j) (32 - 3 * j)∧o=v∧wr.ownsRow w.heap.size 5 1 v (4 * j) ((encJ l j).map byteV)∧Mv (fun _=>False) w wr∧v≠.slice none 0 0) (fun b _ _=>match b with|.slice _ n _=>n|_=>0)
 case atStart=>exact ⟨0,_,by omega,rfl,rfl,hown0,HM0.out,by simp⟩
 case round =>
  obtain ⟨j,v,hj,rfl,hov,hown,hm,hnn⟩:=hrel
  subst hov
  by_cases h10:j=10
  ·subst h10
   obtain ⟨a,ha⟩:∃ a,l[30]?=some a:=⟨l[30]'(by rw [HL.out];omega),List.getElem?_eq_getElem _⟩
   obtain ⟨b,hb⟩:∃ b,l[31]?=some b:=⟨l[31]'(by rw [HL.out];omega),List.getElem?_eq_getElem _⟩
   have hby2:BytesAt wr g 0 l:=HBY.out.mv hm id
   have c0:=hby2 _ _ ha
   have c1:=hby2 _ _ hb
   simp only [Nat.zero_add] at c0 c1
   have hfin:enc64 l=encJ l 10++[let64 (n3 a b 0 / 262144),let64 (n3 a b 0 / 4096 % 64),let64 (n3 a b 0 / 64 % 64),61]:=by
    have h32:l.take 32=l:=List.take_of_length_le (by rw [HL.out];omega)
    have h33:l.take 32=l.take 30++[a,b]:=by
     rw [show 32=30+1+1 from rfl,List.take_add_one,List.take_add_one,ha,show 30+1=31 from rfl,hb];simp
    have h:=enc64_app 10 (l.take 30) [a,b] (by rw [List.length_take,HL.out];omega)
    rw [←h33,h32] at h
    exact h
   have hlen10:(encJ l 10).length=40:=by unfold encJ;rw [enc64_len 10 _ (by rw [List.length_take,HL.out];omega)]
   have HOWN:=zh hown
   have HM:=zh hm
   have HFIN:=zh hfin
   have HLEN:=zh hlen10
   clear hown hm hnn hby2 ha hb hfin hlen10
   rw [show 32 - 3 * 10=2 from rfl,show 3 * 10=30 from rfl]
   have hn:=two_int a b
   obtain ⟨n,hn2⟩:=zg (n3 a b 0)
   have hlt:n<16777216:=by rw [hn2];exact n3_lt a b 0
   rw [←hn2] at hn
   have HN:=zh hn2
   clear hn2
   go_wp2_with fail
   go_quiet (fail)
   clear hn c0 c1
   have hownW:(wr.drewN nq).ownsRow w.heap.size 5 1 u3 40 ((encJ l 10).map byteV):=HOWN.out
   have hmW:Mv (fun _=>False) w (wr.drewN nq):=HM.out.drewN' _
   generalize wr.drewN nq=W at hownW hmW ⊢
   have HOWNW:=zh hownW
   have HMW:=zh hmW
   clear hownW hmW HOWN HM
   have hi1:=letter_at (n / 262144) (by omega)
   have hi2:=letter_at (n / 4096 % 64) (by omega)
   have hi3:=letter_at (n / 64 % 64) (by omega)
   have ha2:=and63 (n / 4096) (by omega)
   have ha3:=and63 (n / 64) (by omega)
   rw [show ((n / 262144:Nat):Int)=(n:Int) / 262144 by omega] at hi1
   rw [show ((n / 4096:Nat):Int)=(n:Int) / 4096 by omega] at ha2
   rw [show ((n / 64:Nat):Int)=(n:Int) / 64 by omega] at ha3
   obtain ⟨m2,hm2⟩:=zg (n / 4096 % 64)
   obtain ⟨m3,hm3⟩:=zg (n / 64 % 64)
   rw [←hm2] at hi2 ha2
   rw [←hm3] at hi3 ha3
   obtain ⟨x1,hx1⟩:=zg (let64 (n / 262144))
   obtain ⟨x2,hx2⟩:=zg (let64 m2)
   obtain ⟨x3,hx3⟩:=zg (let64 m3)
   rw [←hx1] at hi1
   rw [←hx2] at hi2
   rw [←hx3] at hi3
   have HX:Hid (enc64 l=encJ l 10++[x1,x2,x3,61]):=zh (by rw [HFIN.out,←HN.out,hx1,hx2,hx3,hm2,hm3])
   clear hm2 hm3 hx1 hx2 hx3
   unfold byteV at hi1 hi2 hi3
   go_wp2_with fail
   go_region_law (refine step_append_lies _ (by rfl) _ _ _ (by rfl) w.heap.size 5 i0 (.int .u8 0) 1 1 Tryz.underlying26 hi0 hz0 hz1 hz2 rfl (by omega) u3 40 ((encJ l 10).map byteV) (by rfl) ((HOWNW.out.alloc _).drew) ⟨W.heap.size,0,none⟩ 4 4 [.int .u8 x1.toNat,.int .u8 x2.toNat,.int .u8 x3.toNat,.int .u8 61] (by rfl) (by rfl) (World.news_of_block (cs:=#[.int .u8 x1.toNat,.int .u8 x2.toNat,.int .u8 x3.toNat,.int .u8 61]) (t:=5) (fr:=(0,0)) (heap_alloc_new W _)) (by simp [Value.oneCell']) (by omega) (by unfold maxLen;omega) (by omega) (by have:=HMW.out.size;simp;omega) (W.heap.size+1) (by simp) ?_;intro gg cap w3 hown1 hgrow hat hlt1)
   all_goals
    have hm5:Mv (fun k=>w.heap.size≤k) W w3:=((((Mv.refl _ _).alloc _).drew).grown hgrow (fun k hk=>.inl (HOWNW.out.lt k hk).1))
    have HM5:Hid (Mv (fun _=>False) w w3):=zh (HMW.out.trans' hm5 (fun i hi h=>absurd h (by omega)))
    have HOWN5:Hid (w3.ownsRow w.heap.size 5 1 (.slice (some ⟨gg,0,none⟩) 44 cap) 44 ((enc64 l).map byteV)):=zh (by
     rw [HX.out,List.map_append]
     exact hown1)
    have hl44:(enc64 l).length=44:=by rw [HX.out,List.length_append,HLEN.out];rfl
    have hcv:=run_convert_bytes_back (P:=Tryz.prog) w3 26 9 5 ⟨gg,0,none⟩ cap (enc64 l) Tryz.underlying26 Tryz.underlying5 Tryz.underlying9 (fun j hj=>HOWN5.out.cells rfl j _ (by rw [List.getElem?_map,List.getElem?_eq_getElem hj];rfl))
    rw [hl44] at hcv
    clear hm5 hown1 hgrow hat hlt1 hl44
    go_wp2_with fail
    go_ret
    exact ⟨rfl,HM5.out⟩
  ·obtain ⟨a,ha⟩:∃ a,l[3 * j]?=some a:=⟨l[3 * j]'(by rw [HL.out];omega),List.getElem?_eq_getElem _⟩
   obtain ⟨b,hb⟩:∃ b,l[3 * j+1]?=some b:=⟨l[3 * j+1]'(by rw [HL.out];omega),List.getElem?_eq_getElem _⟩
   obtain ⟨c,hc⟩:∃ c,l[3 * j+2]?=some c:=⟨l[3 * j+2]'(by rw [HL.out];omega),List.getElem?_eq_getElem _⟩
   have hby:BytesAt w1 g 0 l:=HBY.out.mv HM0.out id
   have hby2:BytesAt wr g 0 l:=HBY.out.mv hm id
   have c0:=hby2 _ _ ha
   have c1:=hby2 _ _ hb
   have c2:=hby2 _ _ hc
   simp only [Nat.zero_add] at c0 c1 c2
   have HOWN:=zh hown
   have HM:=zh hm
   have HNN:=zh hnn
   have h32:3≤32 - 3 * j:=by omega
   obtain ⟨N,hN⟩:=zg (32 - 3 * j)
   rw [←hN] at h32 ⊢
   have HNJ:=zh hN
   obtain ⟨O,hO⟩:=zg (3 * j)
   have HA:=zh ha
   have HB:=zh hb
   have HC:=zh hc
   rw [←hO] at c0 c1 c2 ⊢
   have HO:=zh hO
   clear hown hm hnn hby hby2 hN hO ha hb hc
   go_wp2_with fail
   have hn:=n3_int a b c
   obtain ⟨n,hn2⟩:=zg (n3 a b c)
   have hlt:n<16777216:=by rw [hn2];exact n3_lt a b c
   rw [←hn2] at hn
   have HN:=zh hn2
   clear hn2
   go_quiet (fail)
   clear hn c0 c1 c2
   have hownW:(wr.drewN nq).ownsRow w.heap.size 5 1 u3 (4 * j) ((encJ l j).map byteV):=HOWN.out
   have hmW:Mv (fun _=>False) w (wr.drewN nq):=HM.out.drewN' _
   generalize wr.drewN nq=W at hownW hmW ⊢
   have HOWNW:=zh hownW
   have HMW:=zh hmW
   clear hownW hmW HOWN HM
   have hi1:=letter_at (n / 262144) (by omega)
   have hi2:=letter_at (n / 4096 % 64) (by omega)
   have hi3:=letter_at (n / 64 % 64) (by omega)
   have hi4:=letter_at (n % 64) (by omega)
   have ha2:=and63 (n / 4096) (by omega)
   have ha3:=and63 (n / 64) (by omega)
   have ha4:=and63 n (by omega)
   rw [show ((n / 262144:Nat):Int)=(n:Int) / 262144 by omega] at hi1
   rw [show ((n / 4096:Nat):Int)=(n:Int) / 4096 by omega] at ha2
   rw [show ((n / 64:Nat):Int)=(n:Int) / 64 by omega] at ha3
   obtain ⟨m2,hm2⟩:=zg (n / 4096 % 64)
   obtain ⟨m3,hm3⟩:=zg (n / 64 % 64)
   obtain ⟨m4,hm4⟩:=zg (n % 64)
   rw [←hm2] at hi2 ha2
   rw [←hm3] at hi3 ha3
   rw [←hm4] at hi4 ha4
   obtain ⟨x1,hx1⟩:=zg (let64 (n / 262144))
   obtain ⟨x2,hx2⟩:=zg (let64 m2)
   obtain ⟨x3,hx3⟩:=zg (let64 m3)
   obtain ⟨x4,hx4⟩:=zg (let64 m4)
   rw [←hx1] at hi1
   rw [←hx2] at hi2
   rw [←hx3] at hi3
   rw [←hx4] at hi4
   have HX:Hid (q4 n=[x1,x2,x3,x4]):=zh (by rw [hx1,hx2,hx3,hx4,hm2,hm3,hm4];rfl)
   clear hm2 hm3 hm4 hx1 hx2 hx3 hx4
   unfold byteV at hi1 hi2 hi3 hi4
   go_wp2_with fail
   go_region_law (refine step_append_lies _ (by rfl) _ _ _ (by rfl) w.heap.size 5 i0 (.int .u8 0) 1 1 Tryz.underlying26 hi0 hz0 hz1 hz2 rfl (by omega) u3 (4 * j) ((encJ l j).map byteV) (by rfl) ((HOWNW.out.alloc _).drew) ⟨W.heap.size,0,none⟩ 4 4 [.int .u8 x1.toNat,.int .u8 x2.toNat,.int .u8 x3.toNat,.int .u8 x4.toNat] (by rfl) (by rfl) (World.news_of_block (cs:=#[.int .u8 x1.toNat,.int .u8 x2.toNat,.int .u8 x3.toNat,.int .u8 x4.toNat]) (t:=5) (fr:=(0,0)) (heap_alloc_new W _)) (by simp [Value.oneCell']) (by omega) (by unfold maxLen;omega) (by omega) (by have:=HMW.out.size;simp;omega) (W.heap.size+1) (by simp) ?_;intro gg cap w3 hown1 hgrow hat hlt1)
   all_goals
    have hm5:Mv (fun k=>w.heap.size≤k) W w3:=((((Mv.refl _ _).alloc _).drew).grown hgrow (fun k hk=>.inl (HOWNW.out.lt k hk).1))
    have HM5:Hid (Mv (fun _=>False) w w3):=zh (HMW.out.trans' hm5 (fun i hi h=>absurd h (by omega)))
    have HOWN5:Hid (w3.ownsRow w.heap.size 5 1 (.slice (some ⟨gg,0,none⟩) (4 * j+4) cap) (4 * (j+1)) ((encJ l (j+1)).map byteV)):=zh (by
     rw [encJ_step l j a b c HA.out HB.out HC.out,List.map_append,←HN.out,HX.out]
     exact hown1)
    clear hm5 hown1 hgrow hat hlt1
    go_wp2_with fail
    go_roundw
    case rel =>
     have e1:O+3=3 * (j+1):=by have:=HO.out;omega
     have e2:N - 3=32 - 3 * (j+1):=by have:=HNJ.out;omega
     exact ⟨j+1,_,by omega,by rw [if_neg (by have:=HNJ.out;omega),e1,e2],rfl,HOWN5.out,HM5.out,by simp⟩
    case measure=>have:=h32;simp;omega
end Go.Proofs.YtdfdikpklddnhaaGreatDoor
