/- Of the proof of EvidenceJudges, second form: for values of bulk at most 1048576. (Ej30) -/
import Derived.Test.YtdfdikpklddnhaaGreatDoorEj01
import Derived.Test.YtdfdikpklddnhaaGreatDoorRows
import Derived.Test.YtdfdikpklddnhaaGreatDoorEj29
import Derived.Lib.SmallJoins
import Derived.Lib.LaidU8
import Derived.Deep.Slices
import Derived.ChangeSlices
import Derived.OpenShut
namespace Go.Proofs.YtdfdikpklddnhaaGreatDoor
open Go.RowKit Go.ChangeShapes Go.WideShapes Go.ChangeAt
theorem Tryz.cells2':Tryz.prog.cellsOf 2=1:=by kernel_rfl
theorem Tryz.cells3':Tryz.prog.cellsOf 3=1:=by kernel_rfl
theorem Tryz.cells5':Tryz.prog.cellsOf 5=1:=by kernel_rfl
theorem Tryz.cells9':Tryz.prog.cellsOf 9=1:=by kernel_rfl
theorem Tryz.cells22':Tryz.prog.cellsOf 22=1:=by kernel_rfl
theorem Tryz.cells23':Tryz.prog.cellsOf 23=1:=by kernel_rfl
theorem Tryz.cells26':Tryz.prog.cellsOf 26=1:=by kernel_rfl
theorem Tryz.cells27':Tryz.prog.cellsOf 27=32:=by kernel_rfl
theorem Tryz.cells29':Tryz.prog.cellsOf 29=34:=by kernel_rfl
theorem Tryz.cells110':Tryz.prog.cellsOf 110=75:=by kernel_rfl
theorem Tryz.cells25':Tryz.prog.cellsOf 25=6:=by kernel_rfl
theorem bulk_pos {H:Type} (d:DataW H):1≤Rows.uptoBulk d:=by
 cases d with
 | lit l=>cases l <;> simp [Rows.uptoBulk]
 | nil=>simp [Rows.uptoBulk]
 | ptr d=>simp [Rows.uptoBulk]
 | slice elems spare=>simp [Rows.uptoBulk]
 | agg parts=>simp [Rows.uptoBulk]
 | iface t d=>simp [Rows.uptoBulk]
 | map entries=>simp [Rows.uptoBulk]
 | held h=>simp [Rows.uptoBulk]
theorem bulk_mem {H:Type}:∀ {l:List (DataW H)} {d:DataW H},d∈l→Rows.uptoBulk d≤Rows.uptoBulkAll l
 | x :: r,d,h=>by
  simp only [Rows.uptoBulkAll]
  rcases List.mem_cons.1 h with rfl|h
  ·omega
  ·have:=bulk_mem h;omega
theorem bulk_length {H:Type}:∀ l:List (DataW H),l.length≤Rows.uptoBulkAll l
 | []=>Nat.zero_le _
 | x :: r=>by have:=bulk_length r;have:=bulk_pos x;simp only [Rows.uptoBulkAll,List.length_cons];omega
theorem bulk_slice {H:Type} (elems spare:List (DataW H)):elems.length+spare.length≤Rows.uptoBulk (.slice elems spare):=by
 have h1:=bulk_length elems
 have h2:=bulk_length spare
 simp only [Rows.uptoBulk]
 omega
theorem spot_none {W:World} {a:Addr} {v:Value} (h:W.cell? (a.add 0)=some v):a.spot=none:=by
 have e:a.add 0=a:=by unfold Addr.add;simp
 rw [e] at h
 cases hsp:a.spot with
 | none=>rfl
 | some y =>
  unfold World.cell? at h
  split at h <;> simp_all
theorem add_plain (b o i:Nat):(⟨b,o,none⟩:Addr).add i=⟨b,o+i,none⟩:=by unfold Addr.add;split <;> simp_all
def bsOf (zs:List Int):Bs:=zs.map fun z=>UInt8.ofNat z.toNat
theorem u8_fit {z:Int} (h:(Lit.int .u8 z).wf=true):0≤z∧z≤255:=by
 simpa [Lit.wf,IntKind.min,IntKind.max,IntKind.signed,IntKind.bits] using h
theorem byteV_of (z:Int) (h:(Lit.int .u8 z).wf=true):byteV (UInt8.ofNat z.toNat)=.int .u8 z:=by
 obtain ⟨h1,h2⟩:=u8_fit h
 unfold byteV
 have:(UInt8.ofNat z.toNat).toNat=z.toNat:=by
  rw [UInt8.toNat_ofNat']
  exact Nat.mod_eq_of_lt (by omega)
 rw [this]
 congr 1
 omega
theorem bytes_of_trod {H:Type} {enc:TypeId × Value→H} {W:World} {fuel:Nat} {cs:List Value} {x:DataW H × List MemPlace} (h:DataW.trod enc Tryz.prog W 0 (fun _=>true) true fuel 26 cs=some x) :
  ∃ v l,cs=[v]∧SlArg W v l∧l.length≤Rows.uptoBulk x.1:=by
 rcases open_ints Tryz.underlying26 Tryz.underlying5 Tryz.cells5' h with ⟨rfl,rfl⟩|⟨a,l,c,zs,rfl,_,hl,hm,hz,rfl,hcell,hwz⟩
 ·exact ⟨_,[],rfl,.inl ⟨rfl,rfl⟩,Nat.zero_le _⟩
 ·simp only [if_true] at hz
  have hlen:(bsOf (zs.take l)).length=l:=by unfold bsOf;rw [List.length_map,List.length_take];omega
  refine ⟨_,bsOf (zs.take l),rfl,.inr ⟨a,c,by rw [hlen],by rw [hlen];exact hl,fun j u hu=>?_⟩,?_⟩
  ·unfold bsOf at hu
   rw [List.map_map,List.getElem?_map] at hu
   cases hj:(zs.take l)[j]? with
   | none=>rw [hj] at hu;cases hu
   | some z =>
    rw [hj] at hu
    simp only [Option.map_some,Option.some.injEq,Function.comp] at hu
    have hjl:j<l:=by
     have:=(List.getElem?_eq_some_iff.1 hj).1
     rw [List.length_take] at this;omega
    have hzj:zs[j]?=some z:=by rw [List.getElem?_take_of_lt hjl] at hj;exact hj
    rw [byteV_of z (hwz z (List.mem_of_getElem? hzj))] at hu
    have:=hcell j (by omega)
    rw [List.getD_eq_getElem?_getD,hzj] at this
    rw [←hu];exact this
  ·rw [hlen]
   refine Nat.le_trans ?_ (bulk_slice _ _)
   simp [lits]
   omega
theorem hash_of_trod {H:Type} {enc:TypeId × Value→H} {W:World} {fuel:Nat} {cs:List Value} {x:DataW H × List MemPlace} (h:DataW.trod enc Tryz.prog W 0 (fun _=>true) true fuel 27 cs=some x) :
  ∃ l:Bs,l.length=32∧cs=l.map byteV:=by
 obtain ⟨xs,m,_,_,hl,_,hx⟩:=DataW.trod_array Tryz.underlying27 h
 rw [Tryz.cells27'] at hl
 have key:∀ i,i<32→∃ z:Int,cs[i]?=some (.int .u8 z)∧(Lit.int .u8 z).wf=true:=fun i hi=>by
  have h1:=hx i hi
  rw [Tryz.cells5',Nat.mul_one] at h1
  have hxi:∃ y,xs[i]?=some y:=by
   cases hc:xs[i]? with
   | some y=>exact ⟨y,rfl⟩
   | none=>have:=List.getElem?_eq_none_iff.1 hc;omega
  obtain ⟨y,hy⟩:=hxi
  rw [hy] at h1
  obtain ⟨z,hz,_,hw⟩:=DataW.trod_int Tryz.underlying5 h1
  refine ⟨z,?_,hw⟩
  have h0:((cs.drop i).take 1)[0]?=some (.int .u8 z):=by rw [hz];rfl
  simpa using h0
 obtain ⟨V,hV⟩:=Go.Deep.choose_lt (α:=Int) (n:=32) (p:=fun i z=>cs[i]?=some (.int .u8 z)∧(Lit.int .u8 z).wf=true) key
 refine ⟨bsOf ((List.range 32).map V),by simp [bsOf],?_⟩
 apply List.ext_getElem?
 intro i
 by_cases hi:i<32
 ·rw [(hV i hi).1]
  unfold bsOf
  rw [List.map_map,List.map_map,List.getElem?_map,List.getElem?_range hi]
  simp only [Option.map_some,Function.comp]
  rw [byteV_of _ (hV i hi).2]
 ·rw [List.getElem?_eq_none (by omega),List.getElem?_eq_none (by simp [bsOf];omega)]
theorem hashes_of_trod {H:Type} {enc:TypeId × Value→H} {W:World} {fuel:Nat} {cs:List Value} {x:DataW H × List MemPlace} (h:DataW.trod enc Tryz.prog W 0 (fun _=>true) true fuel 23 cs=some x) :
  ∃ v p,cs=[v]∧HsArg W v p∧(∀ y∈p,y.length=32)∧p.length≤Rows.uptoBulk x.1:=by
 rcases Go.Deep.open_slice Tryz.underlying23 h with ⟨rfl,rfl⟩|⟨a,len,cap,m,n,D,Pl,rfl,_,hl,hm,hmm,rfl,hx⟩
 ·exact ⟨_,[],rfl,.inl ⟨rfl,rfl⟩,fun y hy=>(by cases hy),Nat.zero_le _⟩
 ·simp only [if_true] at hmm
  subst hmm
  have key:∀ i,i<len→∃ l:Bs,l.length=32∧W.cells? 0 (a.add (i * 32)) 32=some (l.map byteV):=fun i hi=>by
   obtain ⟨cs',h1,h2⟩:=hx i (by omega)
   rw [Tryz.cells27'] at h1
   obtain ⟨l,hl32,rfl⟩:=hash_of_trod h2
   exact ⟨l,hl32,h1⟩
  obtain ⟨V,hV⟩:=Go.Deep.choose_lt (α:=Bs) (n:=len) (p:=fun i l=>l.length=32∧W.cells? 0 (a.add (i * 32)) 32=some (l.map byteV)) key
  have hlen:((List.range len).map V).length=len:=by simp
  refine ⟨_,(List.range len).map V,rfl,.inr ⟨a,m,by rw [hlen],by rw [hlen];exact hl,fun hne=>?_⟩,fun y hy=>?_,?_⟩
  ·have h0:0<len:=by
    apply Nat.pos_of_ne_zero
    intro e;subst e;exact hne rfl
   have hs:a.spot=none:=by
    obtain ⟨_,_,hc⟩:=World.cells?_some (hV 0 h0).2
    have e:=hc 0 (by omega)
    have e2:(a.add (0 * 32)).add 0=a.add 0:=by unfold Addr.add;split <;> simp_all
    rw [e2] at e
    have hsz:((V 0).map byteV)[0]?≠none:=by
     intro hn;have:=List.getElem?_eq_none_iff.1 hn;rw [List.length_map,(hV 0 h0).1] at this;omega
    cases hq:((V 0).map byteV)[0]? with
    | none=>exact absurd hq hsz
    | some q=>rw [hq] at e;exact spot_none e
   obtain ⟨b,o,sp⟩:=a
   simp only at hs
   subst hs
   have cellsAt:∀ j,j<len→∀ (t:Nat) u,((V j).map byteV)[t]?=some u→W.cell? ⟨b,o+j * 32+t,none⟩=some u:=fun j hj t u hu=>by
    obtain ⟨_,_,hc⟩:=World.cells?_some (hV j hj).2
    have ht:t<32:=by
     have:=(List.getElem?_eq_some_iff.1 hu).1
     rw [List.length_map,(hV j hj).1] at this;exact this
    have e:=hc t ht
    rw [add_plain,add_plain,hu] at e
    exact e
   refine ⟨b,o,rfl,fun j y hy=>?_,?_⟩
   ·have hj:j<len:=by have:=(List.getElem?_eq_some_iff.1 hy).1;rw [hlen] at this;exact this
    have e:y=V j:=by
     rw [List.getElem?_map,List.getElem?_range hj] at hy
     simpa using hy.symm
    rw [e]
    exact ⟨(hV j hj).1,cellsAt j hj⟩
   ·have h32:=(hV 0 h0).1
    cases hq:((V 0).map byteV)[0]? with
    | none=>have:=List.getElem?_eq_none_iff.1 hq;rw [List.length_map,h32] at this;omega
    | some q=>exact World.block_lt_of_cell? _ _ (cellsAt 0 h0 0 q hq)
  ·obtain ⟨j,hj,rfl⟩:=List.mem_map.1 hy
   exact (hV j (List.mem_range.1 hj)).1
  ·rw [hlen]
   refine Nat.le_trans ?_ (bulk_slice _ _)
   simp
theorem head_of_trod {H:Type} {enc:TypeId × Value→H} {W:World} {fuel:Nat} {cs:List Value} {x:DataW H × List MemPlace} (h:DataW.trod enc Tryz.prog W 0 (fun _=>true) true fuel 29 cs=some x) :
  ∃ d:HeadP,d.root.length=32∧cs=d.V:=by
 obtain ⟨xs,n,_,rfl,hl,hlen,hf⟩:=DataW.trod_struct Tryz.underlying29 h
 rw [Tryz.cells29'] at hl
 match xs,hlen with
 | [y0,y1,y2],_ =>
  have g0:DataW.trod enc Tryz.prog W 0 (fun _=>true) true n 9 ((cs.drop 0).take (Tryz.prog.cellsOf 9))=some y0:=hf 0 _ rfl
  have g1:DataW.trod enc Tryz.prog W 0 (fun _=>true) true n 2 ((cs.drop 1).take (Tryz.prog.cellsOf 2))=some y1:=hf 1 _ rfl
  have g2:DataW.trod enc Tryz.prog W 0 (fun _=>true) true n 27 ((cs.drop 2).take (Tryz.prog.cellsOf 27))=some y2:=hf 2 _ rfl
  rw [Tryz.cells9'] at g0
  rw [Tryz.cells2'] at g1
  rw [Tryz.cells27'] at g2
  obtain ⟨o,e0,_⟩:=DataW.trod_string Tryz.underlying9 g0
  obtain ⟨z,e1,_⟩:=DataW.trod_int Tryz.underlying2 g1
  obtain ⟨r,hr,e2⟩:=hash_of_trod g2
  refine ⟨⟨o,z,r⟩,hr,?_⟩
  have step:∀ a b,cs.drop a=(cs.drop a).take b++cs.drop (a+b):=fun a b=>by
   rw [←List.drop_drop,List.take_append_drop]
  have e9:cs.drop 34=[]:=List.drop_eq_nil_of_le (by omega)
  have d2:=step 2 32
  rw [e9,List.append_nil] at d2
  have d0:=step 0 1
  have d1:=step 1 1
  rw [e0] at d0
  rw [e1,d2,e2] at d1
  rw [d1] at d0
  rw [show cs=cs.drop 0 from rfl,d0]
  rfl
theorem list9 {α:Type} {l:List α} (h:l.length=9):∃ v0 v1 v2 v3 v4 v5 v6 v7 v8,l=[v0,v1,v2,v3,v4,v5,v6,v7,v8]:=by
 match l,h with
 | [v0,v1,v2,v3,v4,v5,v6,v7,v8],_=>exact ⟨v0,v1,v2,v3,v4,v5,v6,v7,v8,rfl⟩
set_option maxRecDepth 100000 in
theorem fact_of_trod {H:Type} {enc:TypeId × Value→H} {W:World} {fuel:Nat} {cs:List Value} {x:DataW H × List MemPlace} (h:DataW.trod enc Tryz.prog W 0 (fun _=>true) true fuel 110 cs=some x) (hb:Rows.uptoBulk x.1≤1048576) :
  ∃ (f:FactP) (pv nv:Value),cs=f.cells pv nv∧f.Ok∧f.Small∧HsArg W pv f.proof∧SlArg W nv f.note∧f.note.length≤1048576∧∀ y∈f.proof,y.length=32:=by
 obtain ⟨xs,n,_,rfl,hl,hlen,hf⟩:=DataW.trod_struct Tryz.underlying110 h
 rw [Tryz.cells110'] at hl
 obtain ⟨y0,y1,y2,y3,y4,y5,y6,y7,y8,rfl⟩:=list9 hlen
 have g0:DataW.trod enc Tryz.prog W 0 (fun _=>true) true n 3 ((cs.drop 0).take (Tryz.prog.cellsOf 3))=some y0:=hf 0 _ rfl
 rw [Tryz.cells3'] at g0
 have g1:DataW.trod enc Tryz.prog W 0 (fun _=>true) true n 9 ((cs.drop 1).take (Tryz.prog.cellsOf 9))=some y1:=hf 1 _ rfl
 rw [Tryz.cells9'] at g1
 have g2:DataW.trod enc Tryz.prog W 0 (fun _=>true) true n 9 ((cs.drop 2).take (Tryz.prog.cellsOf 9))=some y2:=hf 2 _ rfl
 rw [Tryz.cells9'] at g2
 have g3:DataW.trod enc Tryz.prog W 0 (fun _=>true) true n 2 ((cs.drop 3).take (Tryz.prog.cellsOf 2))=some y3:=hf 3 _ rfl
 rw [Tryz.cells2'] at g3
 have g4:DataW.trod enc Tryz.prog W 0 (fun _=>true) true n 9 ((cs.drop 4).take (Tryz.prog.cellsOf 9))=some y4:=hf 4 _ rfl
 rw [Tryz.cells9'] at g4
 have g5:DataW.trod enc Tryz.prog W 0 (fun _=>true) true n 29 ((cs.drop 5).take (Tryz.prog.cellsOf 29))=some y5:=hf 5 _ rfl
 rw [Tryz.cells29'] at g5
 have g6:DataW.trod enc Tryz.prog W 0 (fun _=>true) true n 29 ((cs.drop 39).take (Tryz.prog.cellsOf 29))=some y6:=hf 6 _ rfl
 rw [Tryz.cells29'] at g6
 have g7:DataW.trod enc Tryz.prog W 0 (fun _=>true) true n 23 ((cs.drop 73).take (Tryz.prog.cellsOf 23))=some y7:=hf 7 _ rfl
 rw [Tryz.cells23'] at g7
 have g8:DataW.trod enc Tryz.prog W 0 (fun _=>true) true n 26 ((cs.drop 74).take (Tryz.prog.cellsOf 26))=some y8:=hf 8 _ rfl
 rw [Tryz.cells26'] at g8
 obtain ⟨z0,e0,_⟩:=DataW.trod_int Tryz.underlying3 g0
 obtain ⟨s1,e1,_⟩:=DataW.trod_string Tryz.underlying9 g1
 obtain ⟨s2,e2,_⟩:=DataW.trod_string Tryz.underlying9 g2
 obtain ⟨z3,e3,_⟩:=DataW.trod_int Tryz.underlying2 g3
 obtain ⟨s4,e4,hx4,_⟩:=DataW.trod_string Tryz.underlying9 g4
 obtain ⟨d5,hr5,e5⟩:=head_of_trod g5
 obtain ⟨d6,hr6,e6⟩:=head_of_trod g6
 obtain ⟨pv,p,e7,hp,hp32,hpb⟩:=hashes_of_trod g7
 obtain ⟨nv,l,e8,hn,hnb⟩:=bytes_of_trod g8
 have hy:∀ y∈[y0,y1,y2,y3,y4,y5,y6,y7,y8],Rows.uptoBulk y.1≤1048576:=fun y hy=>by
  have h1:=bulk_mem (l:=[y0,y1,y2,y3,y4,y5,y6,y7,y8].map (·.1)) (List.mem_map.2 ⟨y,hy,rfl⟩)
  have h2:Rows.uptoBulk (DataW.agg ([y0,y1,y2,y3,y4,y5,y6,y7,y8].map (·.1)))≤1048576:=hb
  simp only [Rows.uptoBulk] at h2
  omega
 have b4:=hy y4 (by simp)
 have b7:=hy y7 (by simp)
 have b8:=hy y8 (by simp)
 refine ⟨⟨z0,s1,s2,z3,s4,d5,d6,p,l⟩,pv,nv,?_,⟨hr5,hr6⟩,⟨?_,Nat.le_trans hpb b7⟩,hp,hn,Nat.le_trans hnb b8,hp32⟩
 ·have hcs:cs=(cs.drop 0).take 1++((cs.drop 1).take 1++((cs.drop 2).take 1++((cs.drop 3).take 1++((cs.drop 4).take 1++((cs.drop 5).take 34++((cs.drop 39).take 34++((cs.drop 73).take 1++(cs.drop 74).take 1))))))):=by
   have step:∀ a b,cs.drop a=(cs.drop a).take b++cs.drop (a+b):=fun a b=>by
    rw [←List.drop_drop,List.take_append_drop]
   have e:cs=cs.drop 0:=rfl
   have e9:cs.drop 75=[]:=List.drop_eq_nil_of_le (by omega)
   have d74:=step 74 1
   rw [e9,List.append_nil] at d74
   rw [←d74,←step 73 1,←step 39 34,←step 5 34,←step 4 1,←step 3 1,←step 2 1,←step 1 1,←step 0 1]
   exact e
  rw [e0,e1,e2,e3,e4,e5,e6,e7,e8] at hcs
  rw [hcs]
  simp [FactP.cells]
 ·rw [hx4] at b4
  simp only [Rows.uptoBulk,Array.length_toList] at b4
  show s4.data.size≤1048576
  omega
theorem facts_of_trod {H:Type} {enc:TypeId × Value→H} {W:World} {fuel:Nat} {cs:List Value} {x:DataW H × List MemPlace} (h:DataW.trod enc Tryz.prog W 0 (fun _=>true) true fuel 22 cs=some x) (hb:Rows.uptoBulk x.1≤1048576) :
  ∃ v L,cs=[v]∧FactsArg W v L∧L.length≤1048576∧(∀ f∈L,f.note.length≤1048576)∧∀ f∈L,∀ y∈f.proof,y.length=32:=by
 rcases Go.Deep.open_slice Tryz.underlying22 h with ⟨rfl,rfl⟩|⟨a,len,cap,m,n,D,Pl,rfl,_,hl,hm,hmm,rfl,hx⟩
 ·exact ⟨_,[],rfl,⟨none,0,rfl,Nat.le_refl _,fun j f hf=>by simp at hf⟩,Nat.zero_le _,fun f hf=>(by cases hf),fun f hf=>by cases hf⟩
 ·simp only [if_true] at hmm
  subst hmm
  have key:∀ i,i<len→∃ r:FactP × Value × Value,W.cells? 0 (a.add (i * 75)) 75=some (r.1.cells r.2.1 r.2.2)∧r.1.Ok∧r.1.Small∧HsArg W r.2.1 r.1.proof∧SlArg W r.2.2 r.1.note∧r.1.note.length≤1048576∧∀ y∈r.1.proof,y.length=32:=fun i hi=>by
   obtain ⟨cs',h1,h2⟩:=hx i (by omega)
   rw [Tryz.cells110'] at h1
   have hd:Rows.uptoBulk (D i)≤1048576:=by
    refine Nat.le_trans ?_ hb
    have:=bulk_mem (l:=(List.range len).map D) (d:=D i) (List.mem_map.2 ⟨i,List.mem_range.2 hi,rfl⟩)
    simp only [Rows.uptoBulk]
    omega
   obtain ⟨f,pv,nv,rfl,r⟩:=fact_of_trod h2 hd
   exact ⟨(f,pv,nv),h1,r⟩
  have hne:Nonempty (FactP × Value × Value):=⟨(⟨0,ByteArray.empty,ByteArray.empty,0,ByteArray.empty,⟨ByteArray.empty,0,[]⟩,⟨ByteArray.empty,0,[]⟩,[],[]⟩,.int .i64 0,.int .i64 0)⟩
  have:Inhabited (FactP × Value × Value):=Classical.inhabited_of_nonempty hne
  obtain ⟨V,hV⟩:=Go.Deep.choose_lt (α:=FactP × Value × Value) (n:=len) (p:=fun i r=>W.cells? 0 (a.add (i * 75)) 75=some (r.1.cells r.2.1 r.2.2)∧r.1.Ok∧r.1.Small∧HsArg W r.2.1 r.1.proof∧SlArg W r.2.2 r.1.note∧r.1.note.length≤1048576∧∀ y∈r.1.proof,y.length=32) key
  have hlen:((List.range len).map fun i=>(V i).1).length=len:=by simp
  have hget:∀ j f,((List.range len).map fun i=>(V i).1)[j]?=some f→j<len∧f=(V j).1:=fun j f hf=>by
   have hj:j<len:=by have:=(List.getElem?_eq_some_iff.1 hf).1;rw [hlen] at this;exact this
   rw [List.getElem?_map,List.getElem?_range hj] at hf
   exact ⟨hj,by simpa using hf.symm⟩
  refine ⟨_,(List.range len).map fun i=>(V i).1,rfl,⟨some a,m,by rw [hlen],by rw [hlen];exact hl,fun j f hf=>?_⟩,?_,fun f hf=>?_,fun f hf=>?_⟩
  ·obtain ⟨hj,rfl⟩:=hget j f hf
   obtain ⟨c1,c2,c3,c4,c5,_⟩:=hV j hj
   have hcells:=(World.cells?_some c1).2.2
   have h75:=FactP.cells_len (V j).1 (V j).2.1 (V j).2.2 c2
   have hs:a.spot=none:=by
    obtain ⟨d1,d2,_⟩:=hV 0 (by omega)
    have e:=(World.cells?_some d1).2.2 0 (by omega)
    have e2:(a.add (0 * 75)).add 0=a.add 0:=by unfold Addr.add;split <;> simp_all
    rw [e2,FactP.c0] at e
    exact spot_none e
   obtain ⟨b,o,sp⟩:=a
   simp only at hs
   subst hs
   refine ⟨b,o,rfl,c2,c3,(V j).2.1,(V j).2.2,fun t u hu=>?_,c4,c5⟩
   have ht:t<75:=by have:=(List.getElem?_eq_some_iff.1 hu).1;omega
   have e:=hcells t ht
   rw [add_plain,add_plain,hu] at e
   exact e
  ·rw [hlen]
   refine Nat.le_trans ?_ hb
   refine Nat.le_trans ?_ (bulk_slice _ _)
   simp
  ·obtain ⟨j,hj,rfl⟩:=List.mem_map.1 hf
   exact (hV j (List.mem_range.1 hj)).2.2.2.2.2.1
  ·obtain ⟨j,hj,rfl⟩:=List.mem_map.1 hf
   exact (hV j (List.mem_range.1 hj)).2.2.2.2.2.2
end Go.Proofs.YtdfdikpklddnhaaGreatDoor
