import Derived.Test.YtkbglbcphjmiiaaGreatDoorS12
import Derived.Test.YtkbglbcphjmiiaaGreatDoorS3
import Derived.Test.YtkbglbcphjmiiaaGreatDoorA9
set_option linter.unusedSimpArgs false
set_option linter.unusedVariables false
open Go.Proofs.Tryz
namespace Go.Proofs.YtkbglbcphjmiiaaGreatDoor
open Go.Ab Go.RowKit
set_option maxRecDepth 100000
set_option maxHeartbeats 8000000
def zP (n:Nat):ByteArray:=⟨#[UInt8.ofNat (48+n)]⟩
theorem cJ9 (n:Nat) (h:1≤n∧n≤5):ACall prog 52 [nt .i64 n] (fun r=>r= .sc (.string (zP n))):=by
 have hc:n=1∨n=2∨n=3∨n=4∨n=5:=by omega
 rcases hc with rfl|rfl|rfl|rfl|rfl
 all_goals(refine bD func52 call52 rfl (by simp[ntmps52]) ?_;simp only[ntmps52,results52])
 all_goals repeat' (first|(refine aC fun _ _=>?_)|refine zHg ?_|(refine aT [] ?_;simp[go_sem])|simp(disch:=omega) [go_sem])
 all_goals rfl
def uP (i:Nat):ByteArray:=⟨#[87,UInt8.ofNat (49+i)]⟩
def jW (n:Nat):List ByteArray:=(List.range n).map uP
theorem wL (n:Nat):(jW n).length=n:=by simp[jW]
theorem cKa (k:Nat):(⟨#[87]⟩:ByteArray)++zP (k+1)=uP k:=by
 unfold zP uP
 rw[show 48+(k+1)=49+k by omega]
 rfl
theorem aIk {i:Nat} (h:i<5):cA (uP i)=true:=by
 have:i=0∨i=1∨i=2∨i=3∨i=4:=by omega
 rcases this with rfl|rfl|rfl|rfl|rfl<;>decide+kernel
theorem cKb {n:Nat} (h:n≤5):(jW n).Nodup:=I2 List.nodup_range fun a ha b hb e=>by
 rw[List.mem_range]at ha hb
 have h7:(a=0∨a=1∨a=2∨a=3∨a=4)∧(b=0∨b=1∨b=2∨b=3∨b=4):=by omega
 rcases h7 with⟨rfl|rfl|rfl|rfl|rfl,rfl|rfl|rfl|rfl|rfl⟩<;>first|rfl|(exact absurd e (by decide+kernel))
def oH (V:List ByteArray) (k:Nat):List Bd:=(aW V (jW V.length)).take k
theorem cKc {V:List ByteArray} {k:Nat} (h:k<V.length):oH V (k+1)=oH V k++ [⟨V[k],.mk (uP k) []⟩]:=by
 unfold oH
 rw[uK h (by rw[wL];exact h)]
 simp[jW]
theorem cKd {V:List ByteArray} {k:Nat} (h:k≤V.length):(oH V k).length=k:=by
 unfold oH;rw[List.length_take,sN (by rw[wL]),wL];omega
theorem cKe (V:List ByteArray):oH V V.length=aW V (jW V.length):=by
 unfold oH
 rw[List.take_of_length_le (by rw[sN (by rw[wL]),wL];omega)]
def nE (r:Rl):Rl:=iC (aW (bQ r) (jW (bQ r).length)) r
theorem cKf (r:Rl) (hz:SzR r) (h5:(bQ r).length≤5):ACall prog 22 [bN r,.sc (.string ⟨#[87]⟩)] (fun v=>v= .tup [bN (nE r),bl true]):=by
 have hv:=cIu r hz.head hz.body hz.atom
 have hap: ∀s:List Bd,ACall prog 46 [.list true false (s.map bK),bN r] (fun v=>v=bN (iC s r)):=fun s=>cIo s true false r (by have:=hz.head;omega) (fun b hb=>by have:=hz.atom b hb;omega) (by have:=hz.body;omega)
 have hap:=hap (aW (bQ r) (jW (bQ r).length))
 show ACall _ _ _ (fun v=>v= .tup [bN (iC (aW (bQ r) (jW (bQ r).length)) r),bl true])
 have hall:=cKe (bQ r)
 rw[←hall]at hap ⊢
 generalize bQ r=V at*
 generalize iC (oH V V.length) r=y at*
 have hz2:(oH V 0).map bK= []:=rfl
 refine bD func22 call22 rfl (by simp[ntmps22]) ?_;simp only[ntmps22,results22]
 repeat' (first|(refine aC fun _ _=>?_)|refine zHg ?_|refine aP rfl (hv) (by simp) ?_|simp(disch:=omega) [go_sem])
 refine bR [1,2,4,6] [900] (fun k:Nat=> [(8,nt .i64 k),(7,.ref 900 0 k)]) (fun k:Nat=> [(900,⟨true,false,false,3,(oH V k).map bK,0⟩)]) (fun k:Nat=>V.length - k) (fun k:Nat=>k≤V.length) (0) (by refine Le.trans ?_ (Le.nil (i:=7) (T:=900) (es:=3) rfl);exact(Le.sub4 rfl (by simp[go_sem,hz2]))) ⟨?_⟩ ?_
 ·exact Nat.zero_le _
 intro k hk AA hAA;simp only[kL,Nat.reduceBEq,Nat.reduceEqDiff,if_true,if_false,List.cons_append,List.nil_append,List.append_nil]
 have hbl:=cKd hk
 by_cases hlt:k<V.length
 ·have hb1:=cKc hlt
  have hd:=cJ9 (k+1) (by omega)
  rw[show((k+1:Nat):Int)=(k:Int)+1 from rfl]at hd
  have hva:=aFa (uP k)
  rw[aIk (by omega)]at hva
  have hcat:=cKa k
  have hgz:(zP (k+1)).size=1:=rfl
  clear hap hall
  generalize oH V k=X at*
  generalize zP (k+1)=g at*
  generalize uP k=w at*
  repeat' (first|(refine aC fun _ _=>?_)|refine zHg ?_|refine aP rfl (hd) (by simp) ?_|refine aP rfl (hva) (by simp) ?_|(refine(hAA.next (k+1) (by refine Le.trans ?_ (Le.looseRow 900 rfl (by show(0:Nat)≠1;decide));exact(Le.sub4 rfl (by simp[go_sem,hb1,hbl,nA]))) (by omega) ?_))|simp(disch:=omega) [go_sem,hlt,hbl,hcat,aI]|refine zAo ?_|fail)
  all_goals(first|omega|skip)
  all_goals exact⟨hlt⟩
 ·obtain rfl:k=V.length:=by omega
  have hlenT:True:=trivial
  generalize oH V V.length=X at*
  repeat' (first|(refine aC fun _ _=>?_)|refine zHg ?_|(refine aT [] ?_;simp[go_sem,hlt,hlenT,hbl])|(refine aP ?hl (hap) (by simp) ?_;(case hl=>(simp[go_sem,hlt,hlenT,hbl];done)))|simp(disch:=omega) [go_sem,hlt,hlenT,hbl])
theorem cKg (r:Rl):(nE r).body.length=r.body.length:=by unfold nE iC;simp
theorem cKh {r o:Rl} (h0:dB r=0) (hh:o.head=(nE r).head) (hb: ∀b,b∈o.body↔b∈(nE r).body) (hl:o.body.length≤8):dB o=0∧eU o=eU r:=by
 have h5:=(rI.1 h0).2
 have hm:=zJ (vX r) (l:=jW (bQ r).length) (by rw[wL])
 have he:nE r=fK (mC (aW (bQ r) (jW (bQ r).length))) r:=J1 zI r
 rw[he]at hh hb
 refine aHm (f:=mC (aW (bQ r) (jW (bQ r).length))) (X0 (by rw[hm];exact cKb h5)) (fun v hv=>?_) hh hb hl h0
 have:mC (aW (bQ r) (jW (bQ r).length)) v∈jW (bQ r).length:=by
  have h1:mC (aW (bQ r) (jW (bQ r).length)) v∈(bQ r).map (mC (aW (bQ r) (jW (bQ r).length))):=List.mem_map.2 ⟨v,hv,rfl⟩
  rw[hm]at h1
  exact h1
 obtain⟨i,hi,e⟩:=List.mem_map.1 this
 rw[←e]
 rw[List.mem_range]at hi
 exact aIk (by omega)
theorem cKi {r o:Rl} (hz:SzR r) (hh:o.head=(nE r).head) (hb: ∀b,b∈o.body↔b∈(nE r).body) (hl:o.body.length≤8):SzR o:=by
 have he:nE r=fK (mC (aW (bQ r) (jW (bQ r).length))) r:=J1 zI r
 rw[he]at hh hb
 refine⟨?_,by omega,fun b hb'=>?_⟩
 ·rw[hh]
  show(dP _ r.head).size≤20
  rw[K6];exact hz.head
 ·obtain⟨b0,hb0,rfl⟩:=List.mem_map.1 ((hb b).1 hb')
  show(dP _ b0.atom).size≤20
  rw[K6];exact hz.atom b0 hb0
theorem cKj (x:Rl):dJ x x=0:=(qZ.zero x x).2 rfl
theorem cKk (haw:ACall prog 11 [] (fun r=>r=bl true)) (r:Rl) (t:Nat) (ha:zO r) (ht:t≤255):
 ACall prog 6 [bN r,nt .u8 t] (fun v=>v=bl true):=by
 have hs:=cJz [r] false (by simp[ha]) (show(1:Nat)≤140737488355328 by decide)
 simp only[List.map_cons,List.map_nil]at hs
 cases hq:pC 12 [r]
 ·rw[hq]at hs
  refine bD func6 call6 rfl (by simp[ntmps6]) ?_;simp only[ntmps6,results6]
  repeat' (first|(refine aC fun _ _=>?_)|refine zHg ?_|simp(disch:=omega) [go_sem])
  refine vF [16] _ rfl rfl (hs) (by simp) ?_;rintro _ rfl
  repeat' (first|refine zHg ?_|(refine aT [] ?_;simp[go_sem])|refine aP rfl (haw) (by simp) ?_|simp(disch:=omega) [go_sem])
 ·have zr:=cJx hq r (by simp)
  rw[hq]at hs
  by_cases h0:dB r=0
  ·have h5:=(rI.1 h0).2
   have hb8:r.body.length≤8:=(uL.1 (rI.1 h0).1).1
   have h1:=sQ r zr
   have h2:=cKf r zr h5
   have hn1:iD r=eU r:=by unfold iD;rw[if_pos h0]
   rw[h0,hn1]at h1
   have hyl:=cKg r
   have key: ∀o:Rl,o.head=(nE r).head→(∀b,b∈o.body↔b∈(nE r).body)→o.body.length≤8→
    ACall prog 14 [bN o] (fun v=>v= .tup [bN (eU r),nt .i64 0])∧ACall prog 16 [bN r,bN o] (fun v=>v= .tup [bl true,nt .i64 0]):=by
    intro o g1 g2 g3
    obtain⟨e1,e2⟩:=cKh h0 g1 g2 g3
    have zo:=cKi zr g1 g2 g3
    have hn2:iD o=eU r:=by unfold iD;rw[if_pos e1,e2]
    have k1:=sQ o zo
    have k2:=Z6 r o zr zo
    have e3:wG r o=true:=by unfold wG;rw[if_pos h0,if_pos e1,hn1,hn2,cKj];rfl
    have e4:wH r o=0:=by unfold wH;rw[if_pos h0,if_pos e1]
    rw[hn2,e1]at k1
    rw[e3,e4]at k2
    exact⟨k1,k2⟩
   have h6:=aHu (eU r) (eU r) (by have:=(aH8 zr).body;omega)
   rw[decide_eq_true rfl]at h6
   have hyB:(nE r).body.length≤8:=by rw[hyl];exact hb8
   clear hyl
   generalize nE r=W at*
   obtain⟨H,B⟩:=W
   dsimp only at hyB key
   have hp8:B.length≤8:=hyB
   clear hyB
   obtain⟨kA,kB⟩:=key ⟨H,mG B t⟩ rfl (cJ3 B t) (cJ4 B t hp8)
   exact cJ8 haw r t ht hs H B hp8 (eU r) h1 h2 h6 kA kB
  ·have hr1:iD r=zR:=by unfold iD;rw[if_neg h0]
   have h1:=sQ r zr
   rw[hr1]at h1
   clear hr1
   generalize dB r=f at*
   refine bD func6 call6 rfl (by simp[ntmps6]) ?_;simp only[ntmps6,results6]
   repeat' (first|(refine aC fun _ _=>?_)|refine zHg ?_|simp(disch:=omega) [go_sem])
   refine vF [16] _ rfl rfl (hs) (by simp) ?_;rintro _ rfl
   repeat' (first|(refine aC fun _ _=>?_)|refine zHg ?_|(refine aT [] ?_;simp[go_sem,h0])|refine aP rfl (h1) (by simp) ?_|refine aP rfl (haw) (by simp) ?_|simp(disch:=omega) [go_sem,h0])
def sR (c:Int→Bool) (s:ByteArray):Nat→Nat→Nat
 |0,i=>i
 |k+1,i=>if i<s.size∧c (bt s i)=true then sR c s k (i+1)else i
def lM (c:Int→Bool) (s:ByteArray) (i:Nat):Nat:=sR c s (s.size - i) i
theorem aAh {c s} {i:Nat} (h:i<s.size) (hc:c (bt s i)=true):lM c s i=lM c s (i+1):=by
 unfold lM
 rw[show s.size - i=(s.size - (i+1))+1 by omega,sR,if_pos ⟨h,hc⟩]
theorem K8 {c s} {i:Nat} (h: ¬(i<s.size∧c (bt s i)=true)):lM c s i=i:=by
 unfold lM
 cases s.size - i with
 |zero=>rfl
 |succ k=>rw[sR,if_neg h]
theorem aIl {c s}: ∀k i,i≤sR c s k i
 |0,i=>Nat.le_refl i
 |k+1,i=>by
  unfold sR
  split
  ·exact Nat.le_trans (Nat.le_succ i) (aIl k (i+1))
  ·exact Nat.le_refl i
theorem aAi {c s i}:i≤lM c s i:=aIl _ _
theorem aIm {c} {s:ByteArray}: ∀k i,i≤s.size→sR c s k i≤s.size
 |0,i,h=>h
 |k+1,i,h=>by
  unfold sR
  split
  ·exact aIm k (i+1) (by omega)
  ·exact h
theorem aIn {c} {s:ByteArray} {i:Nat} (h:i≤s.size):lM c s i≤s.size:=aIm _ _ h
def K9 (c:Int):Bool:=decide (c=32)||decide (c=10)
def oI (c:Int):Bool:=decide (c=45)||(decide (48≤c)&&decide (c≤57))||(decide (97≤c)&&decide (c≤122))||(decide (65≤c)&&decide (c≤90))
def kW (s:ByteArray) (i:Nat):Nat:=lM K9 s i
def aY (s:ByteArray) (i:Nat):Nat:=lM oI s (kW s i)
def bL (s:ByteArray) (i:Nat):ByteArray:=s.extract (kW s i) (aY s i)
def cJ (s:ByteArray) (c:Int) (i:Nat):Bool:=decide (kW s i<s.size)&&decide (bt s (kW s i)=c)
def aX (s:ByteArray) (c:Int) (i:Nat):Nat:=if cJ s c i=true then kW s i+1 else kW s i
theorem wM {s i}:i≤kW s i:=aAi
theorem mH {s i}:i≤aY s i:=Nat.le_trans wM aAi
theorem rL {s c i}:i≤aX s c i:=by
 unfold aX;split
 ·exact Nat.le_succ_of_le wM
 ·exact wM
theorem L0 {s:ByteArray} {i:Nat} (h:i≤s.size):kW s i≤s.size:=aIn h
theorem mI {s:ByteArray} {i:Nat} (h:i≤s.size):aY s i≤s.size:=aIn (L0 h)
theorem rM {s:ByteArray} {c:Int} {i:Nat} (h:i≤s.size):aX s c i≤s.size:=by
 unfold aX;split
 ·rename_i hb
  unfold cJ at hb
  simp only[Bool.and_eq_true,decide_eq_true_eq]at hb
  omega
 ·exact L0 h
theorem wN {s c i} (h:cJ s c i=true):i<aX s c i:=by
 unfold aX;rw[if_pos h];exact Nat.lt_succ_of_le wM
theorem aIo {s:ByteArray} {c:Int} {i:Nat} (h:cJ s c i=true):i<s.size:=by
 unfold cJ at h
 simp only[Bool.and_eq_true,decide_eq_true_eq]at h
 exact Nat.lt_of_le_of_lt wM h.1
mutual
def lN (s:ByteArray):Nat→ByteArray→Nat→Tm×Nat
 |0,w,i=>(.mk w [],i)
 |f+1,w,i=>if cJ s 40 i=true then
  (.mk w (mJ s f [] (aX s 40 i)).1,aX s 41 (mJ s f [] (aX s 40 i)).2)
  else(.mk w [],aX s 40 i)
def mJ (s:ByteArray):Nat→List Tm→Nat→List Tm×Nat
 |0,a,i=>(a,i)
 |f+1,a,i=>if i<s.size then
  if cJ s 44 (lN s f (bL s i) (aY s i)).2=true then mJ s f (a++ [(lN s f (bL s i) (aY s i)).1]) (aX s 44 (lN s f (bL s i) (aY s i)).2)
  else(a++ [(lN s f (bL s i) (aY s i)).1],aX s 44 (lN s f (bL s i) (aY s i)).2)
  else(a,i)
end
theorem L3 (s:ByteArray): ∀f,(∀w i,i≤(lN s f w i).2)∧(∀a i,i≤(mJ s f a i).2)
 |0=>⟨fun _ _=>Nat.le_refl _,fun _ _=>Nat.le_refl _⟩
 |f+1=>by
  obtain⟨h1,h2⟩:=L3 s f
  constructor
  ·intro w i
   unfold lN
   split
   ·exact Nat.le_trans rL (Nat.le_trans (h2 [] _) rL)
   ·exact rL
  ·intro a i
   unfold mJ
   split
   ·split
    ·exact Nat.le_trans mH (Nat.le_trans (h1 _ _) (Nat.le_trans rL (h2 _ _)))
    ·exact Nat.le_trans mH (Nat.le_trans (h1 _ _) rL)
   ·exact Nat.le_refl _
theorem aIp (s:ByteArray): ∀f,(∀w i,i≤s.size→(lN s f w i).2≤s.size)∧(∀a i,i≤s.size→(mJ s f a i).2≤s.size)
 |0=>⟨fun _ _ h=>h,fun _ _ h=>h⟩
 |f+1=>by
  obtain⟨h1,h2⟩:=aIp s f
  constructor
  ·intro w i h
   unfold lN
   split
   ·exact rM (h2 [] _ (rM h))
   ·exact rM h
  ·intro a i h
   unfold mJ
   split
   ·split
    ·exact h2 _ _ (rM (h1 _ _ (mI h)))
    ·exact rM (h1 _ _ (mI h))
   ·exact h
theorem zQ (s:ByteArray): ∀f f',(∀w i,2*(s.size - i)<f→2*(s.size - i)<f'→lN s f w i=lN s f' w i)∧(∀a i,2*(s.size - i)+1<f→2*(s.size - i)+1<f'→mJ s f a i=mJ s f' a i)
 |0,_=>⟨fun _ _ h=>absurd h (Nat.not_lt_zero _),fun _ _ h=>absurd h (Nat.not_lt_zero _)⟩
 |_+1,0=>⟨fun _ _ _ h=>absurd h (Nat.not_lt_zero _),fun _ _ _ h=>absurd h (Nat.not_lt_zero _)⟩
 |f+1,f'+1=>by
  obtain⟨h1,h2⟩:=zQ s f f'
  constructor
  ·intro w i ha hb
   unfold lN
   split
   ·rename_i hs
    have:=wN hs
    have:=aIo hs
    rw[h2 [] (aX s 40 i) (by omega) (by omega)]
   ·rfl
  ·intro a i ha hb
   unfold mJ
   split
   ·rename_i hi
    have hw:=mH (s:=s) (i:=i)
    rw[h1 (bL s i) (aY s i) (by omega) (by omega)]
    split
    ·rename_i hs
     have:=wN hs
     have:=(L3 s f').1 (bL s i) (aY s i)
     exact h2 _ _ (by omega) (by omega)
    ·rfl
   ·rfl
def cO (s:ByteArray) (w:ByteArray) (i:Nat):Tm×Nat:=lN s (2*s.size+2) w i
def gC (s:ByteArray) (a:List Tm) (i:Nat):List Tm×Nat:=mJ s (2*s.size+2) a i
theorem lO {s w i} (h:cJ s 40 i=false):cO s w i=(.mk w [],aX s 40 i):=by
 unfold cO;rw[lN,if_neg (by simp[h])]
theorem sS {s w i} (h:cJ s 40 i=true):cO s w i=(.mk w (gC s [] (aX s 40 i)).1,aX s 41 (gC s [] (aX s 40 i)).2):=by
 unfold cO gC
 have:=wN h
 have:=aIo h
 rw[lN,if_pos h,(zQ s (2*s.size+1) (2*s.size+2)).2 [] _ (by omega) (by omega)]
theorem cKl {s:ByteArray} {a:List Tm} {i:Nat} (h: ¬i<s.size):gC s a i=(a,i):=by
 unfold gC;rw[mJ,if_neg h]
theorem sU {s:ByteArray} {a:List Tm} {i:Nat} (h:i<s.size) (hs:cJ s 44 (cO s (bL s i) (aY s i)).2=false):gC s a i=(a++ [(cO s (bL s i) (aY s i)).1],aX s 44 (cO s (bL s i) (aY s i)).2):=by
 unfold gC
 have hw:=mH (s:=s) (i:=i)
 rw[mJ,if_pos h,(zQ s (2*s.size+1) (2*s.size+2)).1 (bL s i) (aY s i) (by omega) (by omega)]
 rw[←cO,if_neg (by simp[hs])]
theorem wO {s:ByteArray} {a:List Tm} {i:Nat} (h:i<s.size) (hs:cJ s 44 (cO s (bL s i) (aY s i)).2=true):gC s a i=gC s (a++ [(cO s (bL s i) (aY s i)).1]) (aX s 44 (cO s (bL s i) (aY s i)).2):=by
 have hw:=mH (s:=s) (i:=i)
 have h3:i≤(cO s (bL s i) (aY s i)).2:=Nat.le_trans hw ((L3 s _).1 _ _)
 have h4:=wN hs
 unfold gC
 rw[mJ,if_pos h,(zQ s (2*s.size+1) (2*s.size+2)).1 (bL s i) (aY s i) (by omega) (by omega)]
 rw[←cO,if_pos hs,(zQ s (2*s.size+1) (2*s.size+2)).2 _ _ (by omega) (by omega)]
theorem uQ {s w i}:i≤(cO s w i).2:=(L3 s _).1 w i
theorem wP {s:ByteArray} {w i} (h:i≤s.size):(cO s w i).2≤s.size:=(aIp s _).1 w i h
open Go.Ab
abbrev aIq:ByteArray:=⟨#[110,111,116]⟩
def eI (s:ByteArray) (i:Nat):Bool×ByteArray×Nat:=
 if bL s (aY s i)=aIq then(true,bL s (aY s (aY s i)),aY s (aY s (aY s i)))else(false,bL s (aY s i),aY s (aY s i))
def kX (s:ByteArray):Nat→List Lt→Nat→List Lt×Nat
 |0,a,i=>(a,i)
 |f+1,a,i=>if i<s.size then
  if cJ s 46 i=true then(a,aX s 46 i)
  else if(eI s (aX s 46 i)).2.1.size=0 then(a,(eI s (aX s 46 i)).2.2)
  else kX s f (a++ [⟨(eI s (aX s 46 i)).1,(cO s (eI s (aX s 46 i)).2.1 (eI s (aX s 46 i)).2.2).1⟩]) (cO s (eI s (aX s 46 i)).2.1 (eI s (aX s 46 i)).2.2).2
  else(a,i)
theorem zS {s:ByteArray} {i:Nat} (h:(bL s i).size≠0):i<aY s i:=by
 have h1:=wM (s:=s) (i:=i)
 have h2:kW s i≤aY s i:=aAi
 unfold bL at h
 rw[ByteArray.size_extract]at h
 omega
theorem cKm {s:ByteArray} {i:Nat}:i≤(eI s i).2.2:=by
 unfold eI
 have h1:=mH (s:=s) (i:=i)
 have h2:=mH (s:=s) (i:=aY s i)
 have h3:=mH (s:=s) (i:=aY s (aY s i))
 split
 ·show i≤aY s (aY s (aY s i));omega
 ·show i≤aY s (aY s i);omega
theorem aAj {s:ByteArray} {i:Nat} (h:(eI s i).2.1.size≠0):i<(eI s i).2.2:=by
 unfold eI at*
 have h1:=mH (s:=s) (i:=i)
 have h2:=mH (s:=s) (i:=aY s i)
 split at h
 ·rename_i hc
  rw[if_pos hc]
  have h3:=zS h
  show i<aY s (aY s (aY s i));omega
 ·rename_i hc
  rw[if_neg hc]
  have h3:=zS h
  show i<aY s (aY s i);omega
theorem cKn {s:ByteArray} {i:Nat} (h:i≤s.size):(eI s i).2.2≤s.size:=by
 unfold eI
 split
 ·exact mI (mI (mI h))
 ·exact mI (mI h)
theorem aIr (s:ByteArray): ∀(f f':Nat) (a:List Lt) (i:Nat),s.size - i<f→s.size - i<f'→kX s f a i=kX s f' a i
 |0,_,_,_,h,_=>absurd h (Nat.not_lt_zero _)
 |_+1,0,_,_,_,h=>absurd h (Nat.not_lt_zero _)
 |f+1,f'+1,a,i,h,h'=>by
  rw[kX,kX]
  split
  ·split
   ·rfl
   ·split
    ·rfl
    ·rename_i hi _ hz
     have h1:=aAj hz
     have h2:=rL (s:=s) (c:=46) (i:=i)
     have h3:=uQ (s:=s) (w:=(eI s (aX s 46 i)).2.1) (i:=(eI s (aX s 46 i)).2.2)
     exact aIr s f f' _ _ (by omega) (by omega)
  ·rfl
def gX (s:ByteArray) (a:List Lt) (i:Nat):List Lt×Nat:=kX s (s.size+1) a i
theorem cKo {s:ByteArray} {a:List Lt} {i:Nat} (h: ¬i<s.size):gX s a i=(a,i):=by unfold gX;rw[kX,if_neg h]
theorem wQ {s:ByteArray} {a:List Lt} {i:Nat} (h:i<s.size) (hd:cJ s 46 i=true):gX s a i=(a,aX s 46 i):=by unfold gX;rw[kX,if_pos h,if_pos hd]
theorem cKp {s:ByteArray} {a:List Lt} {i:Nat} (h:i<s.size) (hd:cJ s 46 i=false) (hz:(eI s (aX s 46 i)).2.1.size=0):gX s a i=(a,(eI s (aX s 46 i)).2.2):=by
 unfold gX;rw[kX,if_pos h,if_neg (by simp[hd]),if_pos hz]
theorem zU {s:ByteArray} {a:List Lt} {i:Nat} (h:i<s.size) (hd:cJ s 46 i=false) (hz: ¬(eI s (aX s 46 i)).2.1.size=0):
 gX s a i=gX s (a++ [⟨(eI s (aX s 46 i)).1,(cO s (eI s (aX s 46 i)).2.1 (eI s (aX s 46 i)).2.2).1⟩]) (cO s (eI s (aX s 46 i)).2.1 (eI s (aX s 46 i)).2.2).2:=by
 have h1:=aAj hz
 have h2:=rL (s:=s) (c:=46) (i:=i)
 have h3:=uQ (s:=s) (w:=(eI s (aX s 46 i)).2.1) (i:=(eI s (aX s 46 i)).2.2)
 unfold gX
 rw[kX,if_pos h,if_neg (by simp[hd]),if_neg hz]
 exact aIr s _ _ _ _ (by omega) (by omega)
def iL (s:ByteArray) (w:ByteArray) (i:Nat):Rl×Nat:=(⟨(cO s w i).1,(gX s [] (cO s w i).2).1⟩,(gX s [] (cO s w i).2).2)
theorem aIs (s:ByteArray): ∀(f:Nat) (a:List Lt) (i:Nat),i≤(kX s f a i).2
 |0,a,i=>by rw[kX];exact Nat.le_refl i
 |f+1,a,i=>by
  rw[kX]
  by_cases h:i<s.size
  ·rw[if_pos h]
   have h1:=rL (s:=s) (c:=46) (i:=i)
   have h2:=cKm (s:=s) (i:=aX s 46 i)
   by_cases hd:cJ s 46 i=true
   ·rw[if_pos hd];exact h1
   ·rw[if_neg hd]
    generalize eI s (aX s 46 i)=q at*
    by_cases hz:q.2.1.size=0
    ·rw[if_pos hz];exact Nat.le_trans h1 h2
    ·rw[if_neg hz]
     have h3:=uQ (s:=s) (w:=q.2.1) (i:=q.2.2)
     generalize cO s q.2.1 q.2.2=u at*
     have h4:=aIs s f (a++ [⟨q.1,u.1⟩]) u.2
     omega
  ·rw[if_neg h];exact Nat.le_refl i
theorem aIt (s:ByteArray): ∀(f:Nat) (a:List Lt) (i:Nat),i≤s.size→(kX s f a i).2≤s.size
 |0,a,i,h=>by rw[kX];exact h
 |f+1,a,i,h=>by
  rw[kX]
  by_cases hi:i<s.size
  ·rw[if_pos hi]
   have h1:=rM (s:=s) (c:=46) h
   have h2:=cKn h1
   by_cases hd:cJ s 46 i=true
   ·rw[if_pos hd];exact h1
   ·rw[if_neg hd]
    generalize eI s (aX s 46 i)=q at*
    by_cases hz:q.2.1.size=0
    ·rw[if_pos hz];exact h2
    ·rw[if_neg hz]
     have h3:=wP (s:=s) (w:=q.2.1) h2
     generalize cO s q.2.1 q.2.2=u at*
     exact aIt s f (a++ [⟨q.1,u.1⟩]) u.2 h3
  ·rw[if_neg hi];exact h
theorem aAk {s w i}:i≤(iL s w i).2:=Nat.le_trans uQ (aIs s _ _ _)
theorem aAl {s:ByteArray} {w i} (h:i≤s.size):(iL s w i).2≤s.size:=aIt s _ _ _ (wP h)
def sV (s:ByteArray):Nat→List Rl→Nat→List Rl
 |0,a,_=>a
 |f+1,a,i=>if(bL s i).size=0 then a else sV s f (a++ [(iL s (bL s i) (aY s i)).1]) (iL s (bL s i) (aY s i)).2
theorem aIu (s:ByteArray): ∀(f f':Nat) (a:List Rl) (i:Nat),i≤s.size→s.size - i<f→s.size - i<f'→sV s f a i=sV s f' a i
 |0,_,_,_,_,h,_=>absurd h (Nat.not_lt_zero _)
 |_+1,0,_,_,_,_,h=>absurd h (Nat.not_lt_zero _)
 |f+1,f'+1,a,i,hi,h,h'=>by
  rw[sV,sV]
  split
  ·rfl
  ·rename_i hz
   have h1:=zS hz
   have h2:=aAk (s:=s) (w:=bL s i) (i:=aY s i)
   have h3:=mI (s:=s) hi
   exact aIu s f f' _ _ (aAl h3) (by omega) (by omega)
def mK (s:ByteArray) (a:List Rl) (i:Nat):List Rl:=sV s (s.size+1) a i
theorem aIv {s:ByteArray} {a:List Rl} {i:Nat} (h:(bL s i).size=0):mK s a i=a:=by unfold mK;rw[sV,if_pos h]
theorem wR {s:ByteArray} {a:List Rl} {i:Nat} (hi:i≤s.size) (h: ¬(bL s i).size=0):mK s a i=mK s (a++ [(iL s (bL s i) (aY s i)).1]) (iL s (bL s i) (aY s i)).2:=by
 have h1:=zS h
 have h2:=aAk (s:=s) (w:=bL s i) (i:=aY s i)
 have h3:=mI (s:=s) hi
 unfold mK
 rw[sV,if_neg h]
 exact aIu s _ _ _ _ (aAl h3) (by omega) (by omega)
set_option maxRecDepth 100000
set_option maxHeartbeats 8000000
abbrev aA (s:ByteArray) (i:Nat):AObj:=⟨false,false,true,2,[.agg [.sc (.string s),nt .i64 i]],0⟩
abbrev aB (s:ByteArray) (i:Nat):aF:= [(1000,aA s i)]
theorem aIw (s:ByteArray) (i:Nat) (hs:s.size≤1000000) (hi:i≤s.size):MCall prog 99 [.ptr 1000 0 0] (aB s i) (fun r o'=>r= .tup []∧o'=aB s (kW s i)):=by
 refine cL func99 call99 rfl (by simp[ntmps99]) ?_;simp only[ntmps99,results99]
 repeat' (first|simp(disch:=omega) [go_sem,aB,aA])
 refine bR [0] [1000] (fun j:Nat=> []) (fun j:Nat=> [(1000,aA s j)]) (fun j:Nat=>s.size - j) (fun j:Nat=>j≤s.size∧kW s j=kW s i) (i) (Le.sub4 rfl (by simp[go_sem,aB,aA])) ⟨?_⟩ ?_
 ·exact⟨hi,rfl⟩
 intro j ⟨hj,he⟩ AA hAA;simp only[kL,Nat.reduceBEq,Nat.reduceEqDiff,if_true,if_false,List.cons_append,List.nil_append,List.append_nil]
 by_cases h1:j<s.size
 ·by_cases h2:bt s j=32
  ·repeat' (first|(refine aC fun _ _=>?_)|refine zHg ?_|(refine(hAA.next (j+1) (Le.sub4 rfl (by simp[go_sem])) (by(try dsimp only);omega) ?_))|simp(disch:=omega) [go_sem,h1,h2,aA]|refine zDr 34 bE ?_|fail)
   exact⟨h1,by rw[←he];exact(aAh h1 (by simp[K9,h2])).symm⟩
  ·by_cases h3:bt s j=10
   ·repeat' (first|(refine aC fun _ _=>?_)|refine zHg ?_|(refine(hAA.next (j+1) (Le.sub4 rfl (by simp[go_sem])) (by(try dsimp only);omega) ?_))|simp(disch:=omega) [go_sem,h1,h2,h3,aA]|refine zDr 34 bE ?_|fail)
    exact⟨h1,by rw[←he];exact(aAh h1 (by simp[K9,h3])).symm⟩
   ·have hz:kW s i=j:=by rw[←he];exact K8 (by simp[K9,h2,h3])
    rw[hz]
    repeat' (first|(refine aC fun _ _=>?_)|refine zHg ?_|simp(disch:=omega) [go_sem,h1,h2,h3,aA]|refine zDr 34 bE ?_|fail)
    refine eR ⟨43,[],aB s j⟩ [] (Le.renSub [] [] (by simp[go_sem,aB,aA]) (by simp[go_sem,aB,aA]) (Le.sub4 rfl (by simp[go_sem,aB,aA]))) (by simp[go_sem,aB,aA]) ⟨rfl,rfl⟩
 ·have hz:kW s i=j:=by rw[←he];exact K8 (by simp[h1])
  rw[hz]
  repeat' (first|(refine aC fun _ _=>?_)|refine zHg ?_|simp(disch:=omega) [go_sem,h1,aA]|refine zDr 34 bE ?_|fail)
  refine eR ⟨43,[],aB s j⟩ [] (Le.renSub [] [] (by simp[go_sem,aB,aA]) (by simp[go_sem,aB,aA]) (Le.sub4 rfl (by simp[go_sem,aB,aA]))) (by simp[go_sem,aB,aA]) ⟨rfl,rfl⟩
theorem zV (s:ByteArray) (i:Nat) (c:Int) (hs:s.size≤1000000) (hi:i≤s.size):MCall prog 101 [.ptr 1000 0 0,nt .u8 c] (aB s i) (fun r o'=>r=bl (cJ s c i)∧o'=aB s (aX s c i)):=by
 have hb:=aIw s i hs hi
 have hle:=L0 (s:=s) hi
 unfold aX cJ
 generalize kW s i=j at*
 refine cL func101 call101 rfl (by simp[ntmps101]) ?_;simp only[ntmps101,results101]
 repeat' (first|(refine aC fun _ _=>?_)|refine zHg ?_|simp(disch:=omega) [go_sem,aB,aA])
 refine bC [] [] 10000 _ _ (Fits.mk' (by simp[go_sem,aB,aA]) (by simp[go_sem,aB,aA])) (by simp[go_sem,aB,aA]) (by simp[go_sem,aB,aA]) (hb) (by simp[go_sem,aB,aA]) (by simp[go_sem,aB,aA]) ?_
 by_cases h1:j<s.size
 ·by_cases h2:bt s j=c
  ·repeat' (first|(refine aC fun _ _=>?_)|refine zHg ?_|simp(disch:=omega) [go_sem,h1,h2,aB,aA]|refine zDr 23 bE ?_|fail)
   refine cS ⟨37,[(4,bl true)],aB s (j+1)⟩ [bl true] (Le.renSub [] [] (by simp[go_sem,aB,aA]) (by simp[go_sem,aB,aA]) (Le.sub4 rfl (by simp[go_sem,aB,aA]))) (by simp[go_sem,aB,aA]) ⟨rfl,rfl⟩
  ·repeat' (first|(refine aC fun _ _=>?_)|refine zHg ?_|simp(disch:=omega) [go_sem,h1,h2,aB,aA]|refine zDr 23 bE ?_|fail)
   refine cS ⟨37,[(4,bl false)],aB s j⟩ [bl false] (Le.renSub [] [] (by simp[go_sem,aB,aA]) (by simp[go_sem,aB,aA]) (Le.sub4 rfl (by simp[go_sem,aB,aA]))) (by simp[go_sem,aB,aA]) ⟨rfl,rfl⟩
 ·repeat' (first|(refine aC fun _ _=>?_)|refine zHg ?_|simp(disch:=omega) [go_sem,h1,aB,aA]|refine zDr 23 bE ?_|fail)
  refine cS ⟨37,[(4,bl false)],aB s j⟩ [bl false] (Le.renSub [] [] (by simp[go_sem,aB,aA]) (by simp[go_sem,aB,aA]) (Le.sub4 rfl (by simp[go_sem,aB,aA]))) (by simp[go_sem,aB,aA]) ⟨rfl,rfl⟩
set_option maxHeartbeats 16000000
theorem cKq {c:Int} (h:oI c=false): ¬c=45∧(48≤c→ ¬c≤57)∧(97≤c→ ¬c≤122)∧(65≤c→ ¬c≤90):=by
 unfold oI at h
 simp only[Bool.or_eq_false_iff,Bool.and_eq_false_iff,decide_eq_false_iff_not]at h
 refine⟨h.1.1.1,?_,?_,?_⟩<;>omega
theorem cKr {c:Int} (h:oI c=true):c=45∨(48≤c∧c≤57)∨(97≤c∧c≤122)∨(65≤c∧c≤90):=by
 unfold oI at h
 simp only[Bool.or_eq_true,Bool.and_eq_true,decide_eq_true_eq]at h
 omega
theorem zW (s:ByteArray) (i:Nat) (hs:s.size≤1000000) (hi:i≤s.size):MCall prog 56 [.ptr 1000 0 0] (aB s i) (fun r o'=>r= .sc (.string (bL s i))∧o'=aB s (aY s i)):=by
 have hb:=aIw s i hs hi
 have hle:=L0 (s:=s) hi
 unfold bL aY
 generalize kW s i=k at*
 refine cL func56 call56 rfl (by simp[ntmps56]) ?_;simp only[ntmps56,results56]
 repeat' (first|(refine aC fun _ _=>?_)|refine zHg ?_|simp(disch:=omega) [go_sem,aB,aA])
 refine bC [] [] 10000 _ _ (Fits.mk' (by simp[go_sem,aB,aA]) (by simp[go_sem,aB,aA])) (by simp[go_sem,aB,aA]) (by simp[go_sem,aB,aA]) (hb) (by simp[go_sem,aB,aA]) (by simp[go_sem,aB,aA]) ?_
 repeat' (first|(refine aC fun _ _=>?_)|refine zHg ?_|simp(disch:=omega) [go_sem,aB,aA])
 refine bR [0,3] [1000] (fun j:Nat=> []) (fun j:Nat=> [(1000,aA s j)]) (fun j:Nat=>s.size - j) (fun j:Nat=>k≤j∧j≤s.size∧lM oI s j=lM oI s k) (k) (Le.sub4 rfl (by simp[go_sem,aB,aA])) ⟨?_⟩ ?_
 ·exact⟨Nat.le_refl _,hle,rfl⟩
 intro j ⟨hkj,hj,he⟩ AA hAA;simp only[kL,Nat.reduceBEq,Nat.reduceEqDiff,if_true,if_false,List.cons_append,List.nil_append,List.append_nil]
 by_cases h1:j<s.size
 ·cases h2:oI (bt s j)
  ·have hz:lM oI s k=j:=by rw[←he];exact K8 (by simp[h2])
   obtain⟨n1,n2,n3,n4⟩:=cKq h2
   clear he h2
   generalize lM oI s k=z at*
   subst z
   by_cases a3:65≤bt s j
   ·have a1:48≤bt s j:=by omega
    have b1:=n2 a1
    have b3:=n4 a3
    by_cases a2:97≤bt s j
    ·have b2:=n3 a2
     repeat' (first|(refine aC fun _ _=>?_)|refine zHg ?_|simp(disch:=omega) [go_sem,h1,n1,a1,a2,a3,b1,b2,b3,aA]|refine zAo ?_|refine zDr 11 bE ?_|refine zDr 94 bE ?_|fail)
     refine cS ⟨121,[(2,.sc (.string (s.extract k j)))],aB s j⟩ [.sc (.string (s.extract k j))] (Le.renSub [] [] (by simp[go_sem,aB,aA]) (by simp[go_sem,aB,aA]) (Le.sub4 rfl (by simp[go_sem,aB,aA]))) (by simp[go_sem,aB,aA]) ⟨rfl,rfl⟩
    ·repeat' (first|(refine aC fun _ _=>?_)|refine zHg ?_|simp(disch:=omega) [go_sem,h1,n1,a1,a2,a3,b1,b3,aA]|refine zAo ?_|refine zDr 11 bE ?_|refine zDr 94 bE ?_|fail)
     refine cS ⟨121,[(2,.sc (.string (s.extract k j)))],aB s j⟩ [.sc (.string (s.extract k j))] (Le.renSub [] [] (by simp[go_sem,aB,aA]) (by simp[go_sem,aB,aA]) (Le.sub4 rfl (by simp[go_sem,aB,aA]))) (by simp[go_sem,aB,aA]) ⟨rfl,rfl⟩
   ·have a2: ¬97≤bt s j:=by omega
    by_cases a1:48≤bt s j
    ·have b1:=n2 a1
     repeat' (first|(refine aC fun _ _=>?_)|refine zHg ?_|simp(disch:=omega) [go_sem,h1,n1,a1,a2,a3,b1,aA]|refine zAo ?_|refine zDr 11 bE ?_|refine zDr 94 bE ?_|fail)
     refine cS ⟨121,[(2,.sc (.string (s.extract k j)))],aB s j⟩ [.sc (.string (s.extract k j))] (Le.renSub [] [] (by simp[go_sem,aB,aA]) (by simp[go_sem,aB,aA]) (Le.sub4 rfl (by simp[go_sem,aB,aA]))) (by simp[go_sem,aB,aA]) ⟨rfl,rfl⟩
    ·repeat' (first|(refine aC fun _ _=>?_)|refine zHg ?_|simp(disch:=omega) [go_sem,h1,n1,a1,a2,a3,aA]|refine zAo ?_|refine zDr 11 bE ?_|refine zDr 94 bE ?_|fail)
     refine cS ⟨121,[(2,.sc (.string (s.extract k j)))],aB s j⟩ [.sc (.string (s.extract k j))] (Le.renSub [] [] (by simp[go_sem,aB,aA]) (by simp[go_sem,aB,aA]) (Le.sub4 rfl (by simp[go_sem,aB,aA]))) (by simp[go_sem,aB,aA]) ⟨rfl,rfl⟩
  ·have hnx:=aAh h1 h2
   have h3:=cKr h2
   rw[he]at hnx
   rcases h3 with h3|⟨a1,b1⟩|⟨a2,b2⟩|⟨a3,b3⟩
   ·repeat' (first|(refine aC fun _ _=>?_)|refine zHg ?_|(refine(hAA.next (j+1) (Le.sub4 rfl (by simp[go_sem])) (by(try dsimp only);omega) ?_))|simp(disch:=omega) [go_sem,h1,h3,aA]|refine zDr 94 bE ?_|fail)
    exact⟨by omega,by omega,hnx.symm⟩
   ·have n1: ¬bt s j=45:=by omega
    repeat' (first|(refine aC fun _ _=>?_)|refine zHg ?_|(refine(hAA.next (j+1) (Le.sub4 rfl (by simp[go_sem])) (by(try dsimp only);omega) ?_))|simp(disch:=omega) [go_sem,h1,n1,a1,b1,aA]|refine zDr 94 bE ?_|fail)
    exact⟨by omega,by omega,hnx.symm⟩
   ·have n1: ¬bt s j=45:=by omega
    have a1:48≤bt s j:=by omega
    have b1: ¬bt s j≤57:=by omega
    repeat' (first|(refine aC fun _ _=>?_)|refine zHg ?_|(refine(hAA.next (j+1) (Le.sub4 rfl (by simp[go_sem])) (by(try dsimp only);omega) ?_))|simp(disch:=omega) [go_sem,h1,n1,a1,b1,a2,b2,aA]|refine zDr 94 bE ?_|fail)
    exact⟨by omega,by omega,hnx.symm⟩
   ·have n1: ¬bt s j=45:=by omega
    have a1:48≤bt s j:=by omega
    have b1: ¬bt s j≤57:=by omega
    have a2: ¬97≤bt s j:=by omega
    repeat' (first|(refine aC fun _ _=>?_)|refine zHg ?_|(refine(hAA.next (j+1) (Le.sub4 rfl (by simp[go_sem])) (by(try dsimp only);omega) ?_))|simp(disch:=omega) [go_sem,h1,n1,a1,b1,a2,a3,b3,aA]|refine zDr 94 bE ?_|fail)
    exact⟨by omega,by omega,hnx.symm⟩
 ·have hz:lM oI s k=j:=by rw[←he];exact K8 (by simp[h1])
  clear he
  generalize lM oI s k=z at*
  subst z
  repeat' (first|(refine aC fun _ _=>?_)|refine zHg ?_|simp(disch:=omega) [go_sem,h1,aA]|refine zAo ?_|refine zDr 11 bE ?_|refine zDr 94 bE ?_|fail)
  refine cS ⟨121,[(2,.sc (.string (s.extract k j)))],aB s j⟩ [.sc (.string (s.extract k j))] (Le.renSub [] [] (by simp[go_sem,aB,aA]) (by simp[go_sem,aB,aA]) (Le.sub4 rfl (by simp[go_sem,aB,aA]))) (by simp[go_sem,aB,aA]) ⟨rfl,rfl⟩
theorem L4 (s:ByteArray) (hs:s.size≤1000000): ∀(n i:Nat) (w:ByteArray),s.size - i<n→i≤s.size→MCall prog 100 [.ptr 1000 0 0,.sc (.string w)] (aB s i) (fun r o'=>r=eT (cO s w i).1∧o'=aB s (cO s w i).2)
 |0,i,w,hn,hi=>absurd hn (Nat.not_lt_zero _)
 |n+1,i,w,hn,hi=>by
  have ih:=L4 s hs n
  have hsg:=zV s i 40 hs hi
  have hle:=rM (s:=s) (c:=40) hi
  cases hb:cJ s 40 i
  ·rw[lO hb]
   rw[hb]at hsg
   refine MCall.loose (x:= .agg [.sc (.string w),.list false true []]) (o2:=(4,⟨false,false,false,2,[.agg [.sc (.string w),.list false true []]],0⟩)::aB s (aX s 40 i)) ?_ (by simp[go_sem]) (by simp[go_sem]) (by simp[go_sem])
   generalize aX s 40 i=j at*
   refine cL func100 call100 rfl (by simp[ntmps100]) ?_;simp only[ntmps100,results100]
   skip
   repeat' (first|(refine aC fun _ _=>?_)|refine zHg ?_|simp(disch:=omega) [go_sem,aB,aA])
   refine bC [] [] 10000 _ _ (Fits.mk' (by simp[go_sem,aB,aA]) (by simp[go_sem,aB,aA])) (by simp[go_sem,aB,aA]) (by simp[go_sem,aB,aA]) (hsg) (by simp[go_sem,aB,aA]) (by simp[go_sem,aB,aA]) ?_
   repeat' (first|refine zHg ?_|simp(disch:=omega) [go_sem,aB,aA])
   refine cS ⟨39,[(4,.ptr 4 0 0)],(4,⟨false,false,false,2,[.agg [.sc (.string w),.list false true []]],0⟩)::aB s j⟩ [.agg [.sc (.string w),.list false true []]] (Le.renSub [] [] (by simp[go_sem,aB,aA]) (by simp[go_sem,aB,aA]) (Le.sub4 rfl (by simp[go_sem,aB,aA]))) (by simp[go_sem,aB,aA]) ⟨rfl,rfl⟩
  ·rw[sS hb]
   rw[hb]at hsg
   have hgt:=wN hb
   generalize aX s 40 i=j at*
   dsimp only
   generalize hG:gC s [] j=G at*
   have hY:eT (.mk w G.1)=Ab.loose (.agg [.sc (.string w),.list false (decide (G.1.length=0)) (G.1.map bO)]):=rfl
   rw[hY]
   have key:MCall prog 100 [.ptr 1000 0 0,.sc (.string w)] (aB s i) (fun r o'=>r= .agg [.sc (.string w),if G.1.length=0 then .list false true []else .ref 900 0 G.1.length]∧o'=(4,⟨false,false,false,2,[.agg [.sc (.string w),if G.1.length=0 then .list false true []else .ref 900 0 G.1.length]],0⟩)::(1000,aA s (aX s 41 G.2))::(if G.1.length=0 then[]else[(900,⟨true,false,false,2,G.1.map bO,0⟩)])):=by
    refine cL func100 call100 rfl (by simp[ntmps100]) ?_;simp only[ntmps100,results100]
    skip
    repeat' (first|(refine aC fun _ _=>?_)|refine zHg ?_|simp(disch:=omega) [go_sem,aB,aA])
    refine bC [] [] 10000 _ _ (Fits.mk' (by simp[go_sem,aB,aA]) (by simp[go_sem,aB,aA])) (by simp[go_sem,aB,aA]) (by simp[go_sem,aB,aA]) (hsg) (by simp[go_sem,aB,aA]) (by simp[go_sem,aB,aA]) ?_
    repeat' (first|(refine aC fun _ _=>?_)|refine zHg ?_|simp(disch:=omega) [go_sem,aB,aA])
    refine bR [0,4,5] [5,900,1000] (fun y:List Tm×Nat=> []) (fun y:List Tm×Nat=>(5,⟨false,false,false,2,[.agg [.sc (.string w),if y.1.length=0 then .list false true []else .ref 900 0 y.1.length]],0⟩)::(1000,aA s y.2)::(if y.1.length=0 then[]else[(900,⟨true,false,false,2,y.1.map bO,0⟩)])) (fun y:List Tm×Nat=>s.size - y.2) (fun y:List Tm×Nat=>i<y.2∧y.2≤s.size∧y.1.length≤y.2∧gC s y.1 y.2=G) (([],j)) (Le.sub4 rfl (by simp[go_sem,aB,aA])) ⟨?_⟩ ?_
    ·exact⟨hgt,hle,Nat.zero_le _,hG⟩
    intro y ⟨hy1,hy2,hy3,hag⟩ AA hAA;simp only[kL,Nat.reduceBEq,Nat.reduceEqDiff,if_true,if_false,List.cons_append,List.nil_append,List.append_nil]
    obtain⟨a,k⟩:=y
    dsimp only at hy1 hy2 hy3 hag ⊢
    clear hG
    by_cases hlt:k<s.size
    ·have hwd:=zW s k hs hy2
     have hwl:=mI (s:=s) hy2
     have hwg:=mH (s:=s) (i:=k)
     have ht:=ih (aY s k) (bL s k) (by omega) hwl
     have htl:=wP (s:=s) (w:=bL s k) hwl
     have htg:=uQ (s:=s) (w:=bL s k) (i:=aY s k)
     have hcm:=zV s (cO s (bL s k) (aY s k)).2 44 hs htl
     have hcl:=rM (s:=s) (c:=44) htl
     have hlim:a.length≤1000000:=by omega
     cases hc:cJ s 44 (cO s (bL s k) (aY s k)).2
     ·rw[sU hlt hc]at hag
      subst hag
      rw[hc]at hcm
      have hsz:=zV s (aX s 44 (cO s (bL s k) (aY s k)).2) 41 hs hcl
      generalize aX s 44 (cO s (bL s k) (aY s k)).2=k3 at*
      generalize cO s (bL s k) (aY s k)=q at*
      generalize bL s k=wd at*
      generalize aY s k=k1 at*
      obtain⟨tm,k2⟩:=q
      dsimp only at*
      generalize aX s 41 k3=k4 at*
      by_cases h0:a.length=0
      ·obtain rfl:=List.eq_nil_of_length_eq_zero h0
       repeat' (first|(refine aC fun _ _=>?_)|refine zHg ?_|simp(disch:=omega) [go_sem,hlt,aB,aA]|refine zDr 10 bE ?_|fail)
       refine bC [] [] 10000 _ _ (Fits.mk' (by simp[go_sem,aB,aA]) (by simp[go_sem,aB,aA])) (by simp[go_sem,aB,aA]) (by simp[go_sem,aB,aA]) (hwd) (by simp[go_sem,aB,aA]) (by simp[go_sem,aB,aA]) ?_
       repeat' (first|(refine aC fun _ _=>?_)|refine zHg ?_|simp(disch:=omega) [go_sem,hlt,aB,aA]|refine zAny bE ?_|refine gH ?_|refine bI 0 rfl (by decide+kernel) (by decide+kernel) rfl rfl rfl ?_|refine bI 2 rfl (by decide+kernel) (by decide+kernel) rfl rfl rfl ?_|refine bI 3 rfl (by decide+kernel) (by decide+kernel) rfl rfl rfl ?_|(refine zAll ?_;show eN _ _ _ _ _ _ _)|exact gI|refine zSkip ?_|refine gJ rfl ?_ ?_)
       all_goals refine bC [] [] 10000 _ _ (Fits.mk' (by simp[go_sem,aB,aA]) (by simp[go_sem,aB,aA])) (by simp[go_sem,aB,aA]) (by simp[go_sem,aB,aA]) (ht) (by simp[go_sem,aB,aA]) (by simp[go_sem,aB,aA]) ?_
       all_goals repeat' (first|(refine aC fun _ _=>?_)|refine zHg ?_|simp(disch:=omega) [go_sem,hlt,aB,aA]|refine gH ?_|refine zDone ?_|refine bI 7 rfl (by decide+kernel) (by decide+kernel) rfl rfl rfl ?_|(refine zAll ?_;show eN _ _ _ _ _ _ _)|exact gI|refine zSkip ?_|refine gJ rfl ?_ ?_)
       all_goals refine bC [] [] 10000 _ _ (Fits.mk' (by simp[go_sem,aB,aA]) (by simp[go_sem,aB,aA])) (by simp[go_sem,aB,aA]) (by simp[go_sem,aB,aA]) (hcm) (by simp[go_sem,aB,aA]) (by simp[go_sem,aB,aA]) ?_
       all_goals repeat' (first|(refine aC fun _ _=>?_)|refine zHg ?_|simp(disch:=omega) [go_sem,hlt,aB,aA])
       all_goals refine bC [] [] 10000 _ _ (Fits.mk' (by simp[go_sem,aB,aA]) (by simp[go_sem,aB,aA])) (by simp[go_sem,aB,aA]) (by simp[go_sem,aB,aA]) (hsz) (by simp[go_sem,aB,aA]) (by simp[go_sem,aB,aA]) ?_
       all_goals repeat' (first|(refine aC fun _ _=>?_)|refine zHg ?_|simp(disch:=omega) [go_sem,hlt,aB,aA])
       all_goals refine cS ⟨39,[(4,.ptr 4 0 0)],(4,⟨false,false,false,2,[.agg [.sc (.string w),.ref 900 0 1]],0⟩)::(1000,aA s k4):: [(900,⟨true,false,false,2,[eT tm],0⟩)]⟩ [.agg [.sc (.string w),.ref 900 0 1]] (Le.renSub [(31,900)] [(900,31)] (by simp[go_sem,aB,aA]) (by simp[go_sem,aB,aA]) (Le.sub4 rfl (by simp[go_sem,aB,aA]))) (by simp[go_sem,aB,aA]) ⟨rfl,rfl⟩
      ·
       repeat' (first|(refine aC fun _ _=>?_)|refine zHg ?_|simp(disch:=omega) [go_sem,hlt,h0,aB,aA]|refine zDr 10 bE ?_|fail)
       refine bC [] [] 10000 _ _ (Fits.mk' (by simp[go_sem,aB,aA]) (by simp[go_sem,aB,aA])) (by simp[go_sem,aB,aA]) (by simp[go_sem,aB,aA]) (hwd) (by simp[go_sem,aB,aA]) (by simp[go_sem,aB,aA]) ?_
       repeat' (first|(refine aC fun _ _=>?_)|refine zHg ?_|simp(disch:=omega) [go_sem,hlt,h0,aB,aA]|refine zAny bE ?_|refine gH ?_|refine bI 0 rfl (by decide+kernel) (by decide+kernel) rfl rfl rfl ?_|refine bI 2 rfl (by decide+kernel) (by decide+kernel) rfl rfl rfl ?_|refine bI 3 rfl (by decide+kernel) (by decide+kernel) rfl rfl rfl ?_|(refine zAll ?_;show eN _ _ _ _ _ _ _)|exact gI|refine zSkip ?_|refine gJ rfl ?_ ?_)
       all_goals refine bC [] [] 10000 _ _ (Fits.mk' (by simp[go_sem,aB,aA]) (by simp[go_sem,aB,aA])) (by simp[go_sem,aB,aA]) (by simp[go_sem,aB,aA]) (ht) (by simp[go_sem,aB,aA]) (by simp[go_sem,aB,aA]) ?_
       all_goals repeat' (first|(refine aC fun _ _=>?_)|refine zHg ?_|simp(disch:=omega) [go_sem,hlt,h0,aB,aA]|refine zAo ?_|refine gH ?_|refine zDone ?_|refine bI 7 rfl (by decide+kernel) (by decide+kernel) rfl rfl rfl ?_|(refine zAll ?_;show eN _ _ _ _ _ _ _)|exact gI|refine zSkip ?_|refine gJ rfl ?_ ?_)
       all_goals refine bC [] [] 10000 _ _ (Fits.mk' (by simp[go_sem,aB,aA]) (by simp[go_sem,aB,aA])) (by simp[go_sem,aB,aA]) (by simp[go_sem,aB,aA]) (hcm) (by simp[go_sem,aB,aA]) (by simp[go_sem,aB,aA]) ?_
       all_goals repeat' (first|(refine aC fun _ _=>?_)|refine zHg ?_|simp(disch:=omega) [go_sem,hlt,h0,aB,aA])
       all_goals refine bC [] [] 10000 _ _ (Fits.mk' (by simp[go_sem,aB,aA]) (by simp[go_sem,aB,aA])) (by simp[go_sem,aB,aA]) (by simp[go_sem,aB,aA]) (hsz) (by simp[go_sem,aB,aA]) (by simp[go_sem,aB,aA]) ?_
       all_goals repeat' (first|(refine aC fun _ _=>?_)|refine zHg ?_|simp(disch:=omega) [go_sem,hlt,h0,aB,aA])
       all_goals refine cS ⟨39,[(4,.ptr 4 0 0)],(4,⟨false,false,false,2,[.agg [.sc (.string w),.ref 900 0 (a.length+1)]],0⟩)::(1000,aA s k4):: [(900,⟨true,false,false,2,a.map bO++ [eT tm],0⟩)]⟩ [.agg [.sc (.string w),.ref 900 0 (a.length+1)]] (Le.renSub [] [] (by simp[go_sem,aB,aA]) (by simp[go_sem,aB,aA]) (Le.sub4 rfl (by simp[go_sem,aB,aA]))) (by simp[go_sem,aB,aA]) ⟨rfl,rfl⟩
     ·rw[wO hlt hc]at hag
      have hcg:=wN hc
      rw[hc]at hcm
      generalize aX s 44 (cO s (bL s k) (aY s k)).2=k3 at*
      generalize cO s (bL s k) (aY s k)=q at*
      generalize bL s k=wd at*
      generalize aY s k=k1 at*
      obtain⟨tm,k2⟩:=q
      dsimp only at*
      by_cases h0:a.length=0
      ·obtain rfl:=List.eq_nil_of_length_eq_zero h0
       repeat' (first|(refine aC fun _ _=>?_)|refine zHg ?_|simp(disch:=omega) [go_sem,hlt,aB,aA]|refine zDr 10 bE ?_|fail)
       refine bC [] [] 10000 _ _ (Fits.mk' (by simp[go_sem,aB,aA]) (by simp[go_sem,aB,aA])) (by simp[go_sem,aB,aA]) (by simp[go_sem,aB,aA]) (hwd) (by simp[go_sem,aB,aA]) (by simp[go_sem,aB,aA]) ?_
       repeat' (first|(refine aC fun _ _=>?_)|refine zHg ?_|simp(disch:=omega) [go_sem,hlt,aB,aA]|refine zAny bE ?_|refine gH ?_|refine bI 0 rfl (by decide+kernel) (by decide+kernel) rfl rfl rfl ?_|refine bI 2 rfl (by decide+kernel) (by decide+kernel) rfl rfl rfl ?_|refine bI 3 rfl (by decide+kernel) (by decide+kernel) rfl rfl rfl ?_|(refine zAll ?_;show eN _ _ _ _ _ _ _)|exact gI|refine zSkip ?_|refine gJ rfl ?_ ?_)
       all_goals refine bC [] [] 10000 _ _ (Fits.mk' (by simp[go_sem,aB,aA]) (by simp[go_sem,aB,aA])) (by simp[go_sem,aB,aA]) (by simp[go_sem,aB,aA]) (ht) (by simp[go_sem,aB,aA]) (by simp[go_sem,aB,aA]) ?_
       all_goals repeat' (first|(refine aC fun _ _=>?_)|refine zHg ?_|simp(disch:=omega) [go_sem,hlt,aB,aA]|refine gH ?_|refine zDone ?_|refine bI 7 rfl (by decide+kernel) (by decide+kernel) rfl rfl rfl ?_|(refine zAll ?_;show eN _ _ _ _ _ _ _)|exact gI|refine zSkip ?_|refine gJ rfl ?_ ?_)
       all_goals refine bC [] [] 10000 _ _ (Fits.mk' (by simp[go_sem,aB,aA]) (by simp[go_sem,aB,aA])) (by simp[go_sem,aB,aA]) (by simp[go_sem,aB,aA]) (hcm) (by simp[go_sem,aB,aA]) (by simp[go_sem,aB,aA]) ?_
       all_goals repeat' (first|refine zHg ?_|(refine(hAA.next (([tm],k3)) (Le.renSub [(31,900)] [(900,31)] (by simp[go_sem]) (by simp[go_sem]) (Le.sub4 rfl (by simp[go_sem]))) (by(try dsimp only);omega) ?_))|simp(disch:=omega) [go_sem,hlt,aB,aA])
       all_goals(first|omega|skip)
       all_goals exact⟨by omega,by omega,by(try simp);omega,hag⟩
      ·
       repeat' (first|(refine aC fun _ _=>?_)|refine zHg ?_|simp(disch:=omega) [go_sem,hlt,h0,aB,aA]|refine zDr 10 bE ?_|fail)
       refine bC [] [] 10000 _ _ (Fits.mk' (by simp[go_sem,aB,aA]) (by simp[go_sem,aB,aA])) (by simp[go_sem,aB,aA]) (by simp[go_sem,aB,aA]) (hwd) (by simp[go_sem,aB,aA]) (by simp[go_sem,aB,aA]) ?_
       repeat' (first|(refine aC fun _ _=>?_)|refine zHg ?_|simp(disch:=omega) [go_sem,hlt,h0,aB,aA]|refine zAny bE ?_|refine gH ?_|refine bI 0 rfl (by decide+kernel) (by decide+kernel) rfl rfl rfl ?_|refine bI 2 rfl (by decide+kernel) (by decide+kernel) rfl rfl rfl ?_|refine bI 3 rfl (by decide+kernel) (by decide+kernel) rfl rfl rfl ?_|(refine zAll ?_;show eN _ _ _ _ _ _ _)|exact gI|refine zSkip ?_|refine gJ rfl ?_ ?_)
       all_goals refine bC [] [] 10000 _ _ (Fits.mk' (by simp[go_sem,aB,aA]) (by simp[go_sem,aB,aA])) (by simp[go_sem,aB,aA]) (by simp[go_sem,aB,aA]) (ht) (by simp[go_sem,aB,aA]) (by simp[go_sem,aB,aA]) ?_
       all_goals repeat' (first|(refine aC fun _ _=>?_)|refine zHg ?_|simp(disch:=omega) [go_sem,hlt,h0,aB,aA]|refine zAo ?_|refine gH ?_|refine zDone ?_|refine bI 7 rfl (by decide+kernel) (by decide+kernel) rfl rfl rfl ?_|(refine zAll ?_;show eN _ _ _ _ _ _ _)|exact gI|refine zSkip ?_|refine gJ rfl ?_ ?_)
       all_goals refine bC [] [] 10000 _ _ (Fits.mk' (by simp[go_sem,aB,aA]) (by simp[go_sem,aB,aA])) (by simp[go_sem,aB,aA]) (by simp[go_sem,aB,aA]) (hcm) (by simp[go_sem,aB,aA]) (by simp[go_sem,aB,aA]) ?_
       all_goals repeat' (first|refine zHg ?_|(refine(hAA.next ((a++ [tm],k3)) (Le.sub4 rfl (by simp[go_sem])) (by(try dsimp only);omega) ?_))|simp(disch:=omega) [go_sem,hlt,h0,aB,aA])
       all_goals(first|omega|skip)
       all_goals exact⟨by omega,by omega,by(try simp);omega,hag⟩
    ·rw[cKl hlt]at hag
     subst hag
     have hsz:=zV s k 41 hs hy2
     dsimp only at*
     generalize aX s 41 k=k4 at*
     by_cases h0:a.length=0
     ·obtain rfl:=List.eq_nil_of_length_eq_zero h0
      repeat' (first|(refine aC fun _ _=>?_)|refine zHg ?_|simp(disch:=omega) [go_sem,hlt,aB,aA]|refine zDr 10 bE ?_|fail)
      refine bC [] [] 10000 _ _ (Fits.mk' (by simp[go_sem,aB,aA]) (by simp[go_sem,aB,aA])) (by simp[go_sem,aB,aA]) (by simp[go_sem,aB,aA]) (hsz) (by simp[go_sem,aB,aA]) (by simp[go_sem,aB,aA]) ?_
      repeat' (first|(refine aC fun _ _=>?_)|refine zHg ?_|simp(disch:=omega) [go_sem,hlt,aB,aA])
      refine cS ⟨39,[(4,.ptr 4 0 0)],(4,⟨false,false,false,2,[.agg [.sc (.string w),.list false true []]],0⟩)::(1000,aA s k4):: []⟩ [.agg [.sc (.string w),.list false true []]] (Le.renSub [] [] (by simp[go_sem,aB,aA]) (by simp[go_sem,aB,aA]) (Le.sub4 rfl (by simp[go_sem,aB,aA]))) (by simp[go_sem,aB,aA]) ⟨rfl,rfl⟩
     ·repeat' (first|(refine aC fun _ _=>?_)|refine zHg ?_|simp(disch:=omega) [go_sem,hlt,h0,aB,aA]|refine zDr 10 bE ?_|fail)
      refine bC [] [] 10000 _ _ (Fits.mk' (by simp[go_sem,aB,aA]) (by simp[go_sem,aB,aA])) (by simp[go_sem,aB,aA]) (by simp[go_sem,aB,aA]) (hsz) (by simp[go_sem,aB,aA]) (by simp[go_sem,aB,aA]) ?_
      repeat' (first|(refine aC fun _ _=>?_)|refine zHg ?_|simp(disch:=omega) [go_sem,hlt,h0,aB,aA])
      refine cS ⟨39,[(4,.ptr 4 0 0)],(4,⟨false,false,false,2,[.agg [.sc (.string w),.ref 900 0 a.length]],0⟩)::(1000,aA s k4):: [(900,⟨true,false,false,2,a.map bO,0⟩)]⟩ [.agg [.sc (.string w),.ref 900 0 a.length]] (Le.renSub [] [] (by simp[go_sem,aB,aA]) (by simp[go_sem,aB,aA]) (Le.sub4 rfl (by simp[go_sem,aB,aA]))) (by simp[go_sem,aB,aA]) ⟨rfl,rfl⟩
   by_cases h0:G.1.length=0
   ·have hn:=List.eq_nil_of_length_eq_zero h0
    simp only[hn,List.length_nil,if_true,decide_true,List.map_nil]at key ⊢
    exact key.shared rfl (by simp[go_sem]) (by simp[go_sem]) (by simp[go_sem])
   ·simp only[h0,if_false,decide_false]at key ⊢
    refine key.shared (s':=?_) (y:= .agg [.sc (.string w),.list false false (G.1.map bO)]) (by simp[go_sem,bY];rfl) (by simp[go_sem]) (by simp[go_sem]) (by simp[go_sem])
abbrev fM (s:ByteArray) (i:Nat):AObj:=⟨false,false,false,2,[.agg [.sc (.string s),nt .i64 i]],0⟩
end Go.Proofs.YtkbglbcphjmiiaaGreatDoor
