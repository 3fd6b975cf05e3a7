/-
  Reread; Frames; Unfr; UnfrLaw; ReadRec; ReadLf: No condition.
-/
import Derived.Test.YtbnkjgcpjeedfaaGreatWords
import Derived.Test.YtbnkjgcpjeedfaaGreatHeadOps
import Derived.Test.YtbnkjgcpjeedfaaGreatHashTop
import Derived.Test.YtbnkjgcpjeedfaaGreatMixIn
import Derived.Test.YtbnkjgcpjeedfaaGreatLeaf
import Derived.Test.YtbnkjgcpjeedfaaGreatBrkV
import Derived.Test.YtbnkjgcpjeedfaaGreatLeafText
namespace Go.Proofs.YtbnkjgcpjeedfaaGreat
set_option linter.unusedSimpArgs false
open Go.RowKit
set_option linter.unusedVariables false
theorem Qm4{T:ByteArray}{r:Rd}{n:Nat}(h:(Qb3 T r n).bad=false):r.bad=false/\(Qb3 T r n).pos=r.pos+n/\r.pos+n<=T.size/\Qaq T r n=T.extract r.pos (r.pos+n):=by
 unfold Qb3 at h ⊢
 unfold Qaq
 cases hf:Qe2 T r n
 · simp only[Qe2,Bool.or_eq_false_iff,decide_eq_false_iff_not] at hf
   exact⟨hf.1,rfl,by omega,rfl⟩
 · rw[hf] at h;simp at h
theorem Qye(a b:ByteArray):(a.toList==b.toList)=decide (a=b):=by
 rw[Bool.eq_iff_iff];simp[Qfn]
theorem Qxx(b:ByteArray)(c:UInt8):(b.toList==[c])=decide (b=⟨#[c]⟩):=by
 have h:(⟨#[c]⟩:ByteArray).toList=[c]:=by rw[ByteArray.toList_eq]
 have h2:=Qye b ⟨#[c]⟩
 rw[h] at h2
 exact h2
set_option maxHeartbeats 2000000
set_option maxRecDepth 100000
theorem dig4{T:ByteArray}(h:inR T.size 1 1000=true):Qbr 4 4 T=true:=by
 obtain⟨h0,h1⟩:=Qa0 h
 simp only[Qbr,Bool.and_eq_true,decide_eq_true_eq]
 exact⟨⟨by decide,by decide⟩,by omega⟩
theorem Qk0{T:ByteArray}(h:inR T.size 1 1000=true):(Qcy 4 4 T).size=4:=Qeb (dig4 h)
def Qb2 (T:ByteArray):ByteArray:=lowB T.size 2++Qcy 4 4 T++T
def Qax (T:ByteArray):ByteArray:=if inR T.size 1 1000 then Qb2 T else⟨#[]⟩
theorem Qj7(T:ByteArray)(w:World)(hT:T.size<=maxLen):Calls Tryz.prog 54 #[.string T] w fun e w'=>e=.returned (.tuple #[.string (Qax T),.bool (inR T.size 1 1000)])/\Ext w w':=by
 have HT:=hU hT
 unfold maxLen at hT
 cases b1:inR T.size 1 1000
 · have E:=hU (show Qax T=⟨#[]⟩ by simp[Qax,b1])
   go_enter Tryz.func54,Tryz.ntmps54
   go_wp2_with (go_at_call 107;refine(Qcd _ _ _ _).mono ?_;rintro e w' ⟨rfl,rfl⟩)
   go_ret2
   exact⟨by rw[E.out];rfl,Below.refl _ _⟩
 · have E:=hU (show Qax T=Qb2 T by simp[Qax,b1])
   obtain⟨h0,h1⟩:=Qa0 b1
   have d4:=Qk0 b1
   have l2:=Qby T.size 2
   have n1:¬ 9223372036854775807<(lowB T.size 2).size+(Qcy 4 4 T).size:=by omega
   have n2:¬ 9223372036854775807<(lowB T.size 2).size+(Qcy 4 4 T).size+T.size:=by omega
   have he:=Below.refl w.heap.size w
   go_enter Tryz.func54,Tryz.ntmps54
   go_wp2_with (go_at_call 107;refine(Qcd _ _ _ _).mono ?_;rintro e w' ⟨rfl,rfl⟩)
   refine(Qdv 4 4 T _ HT.out).mono ?_
   rintro e w1 ⟨rfl,hx⟩
   replace he:Ext w w1:=Ext.next he hx
   go_wp2_with fail
   refine(Qfy T.size 2 _ (by omega) (by decide)).mono ?_
   rintro e w2 ⟨rfl,hx⟩
   replace he:Ext w w2:=he.next hx
   go_wp2_with fail
   go_ret2
   exact⟨by rw[E.out];rfl,he⟩
def fa0 (p:Nat):Rd:=⟨p,false⟩
def faN (T:ByteArray) (p:Nat):Nat:=Qb0 (Qaq T (fa0 p) 2)
def fa1 (T:ByteArray) (p:Nat):Rd:=Qb3 T (fa0 p) 2
def faSum (T:ByteArray) (p:Nat):ByteArray:=Qaq T (fa1 T p) 4
def fa2 (T:ByteArray) (p:Nat):Rd:=Qb3 T (fa1 T p) 4
def Qfs (T:ByteArray) (p:Nat):ByteArray:=Qaq T (fa2 T p) (faN T p)
def fa3 (T:ByteArray) (p:Nat):Rd:=Qb3 T (fa2 T p) (faN T p)
def faOk (T:ByteArray) (p:Nat):Bool:=!(fa3 T p).bad&&inR (faN T p) 1 1000&&((Qcy 4 4 (Qfs T p)).toList==(faSum T p).toList)
def Qvm (T:ByteArray) (p:Nat):Ending:=.returned (.tuple #[.string (if faOk T p then Qfs T p else⟨#[]⟩),.int .i64 (if faOk T p then((fa3 T p).pos:Int) else 0),.bool (faOk T p)])
theorem Qtg(T:ByteArray)(p:Nat):(Qfs T p).size<=T.size:=by
 unfold Qfs Qaq
 split
 · exact Nat.zero_le _
 · rw[ByteArray.size_extract];omega
theorem Qtf(T:ByteArray)(p:Nat)(w:World)(hT:T.size<=1099511627776)(hp:p<=T.size):Calls Tryz.prog 109 #[.string T,.int .i64 (p:Int)] w fun e w'=>e=Qvm T p/\Ext w w':=by
 have p1:=Qb8 T (fa0 p) 2 hp
 have p2:=Qb8 T (fa1 T p) 4 p1
 have p3:=Qb8 T (fa2 T p) (faN T p) p2
 have hN:faN T p<4294967296:=Qk9 _ (Nat.le_trans (Qe1 _ _ _) (by decide))
 have hD:(Qfs T p).size<=maxLen:=by have:=Qtg T p;unfold maxLen;omega
 have HN:=hU hN
 have HP:=hU p1
 have HP2:=hU p2
 have HP3:=hU p3
 clear hN p1 p2 p3
 have hB:Blk _ _ 246 (Qdd T (fa0 p)):=Blk.new w 246 #[.string T,.int .i64 (p:Int),.bool false]
 have he:=Ext.new (Below.refl w.heap.size w) (.cells #[.string T,.int .i64 (p:Int),.bool false] 246)
 go_enter Tryz.func109,Tryz.ntmps109
 go_wp2_with fail
 obtain⟨g,hg⟩:∃ g,g=w.heap.size:=⟨_,rfl⟩
 rw[<-hg] at hB
 rw[<-hg]
 have Hg:w.heap.size<=g:=by omega
 clear hg
 refine(Qeg g T (fa0 p) 2 _ hB hp hT (by decide)).mono ?_
 rintro e w1 ⟨rfl,hB,hx⟩
 replace he:=he.nextBut Hg hx;clear hx
 go_wp2_with fail
 refine(Qfo g T (fa1 T p) 4 _ hB HP.out hT (by decide)).mono ?_
 rintro e w2 ⟨rfl,hB,hx⟩
 replace he:=he.nextBut Hg hx;clear hx
 go_wp2_with fail
 refine(Qfo g T (fa2 T p) (faN T p) _ hB HP2.out hT (by have:=HN.out;omega)).mono ?_
 rintro e w3 ⟨rfl,hB,hx⟩
 replace he:=he.nextBut Hg hx;clear hx
 obtain⟨q,hq⟩:∃ q,q=(fa3 T p).pos:=⟨_,rfl⟩
 have Hq:=hU hq
 clear hq
 have c1:w3.cell? ⟨g,1,none⟩=some (.int .i64 (q:Int)):=by rw[Hq.out];exact hB.cell 1
 have f2:=hB.frozen 2
 cases b1:(fa3 T p).bad
 · have c2:w3.cell? ⟨g,2,none⟩=some (.bool false):=by rw[<-b1];exact hB.cell 2
   clear hB
   cases b2:inR (faN T p) 1 1000
   · have E:=hU (show faOk T p=false by simp[faOk,b2])
     have b2':inR (Qb0 (Qaq T (fa0 p) 2)) 1 1000=false:=b2
     go_wp2_with (go_at_call 108;refine(Qba _ _ _ _).mono ?_;rintro e w' ⟨rfl,rfl⟩)
     go_ret3
     exact⟨by rw[Qvm,E.out];rfl,he⟩
   · have b2':inR (Qb0 (Qaq T (fa0 p) 2)) 1 1000=true:=b2
     go_wp2_with (go_at_call 108;refine(Qba _ _ _ _).mono ?_;rintro e w' ⟨rfl,rfl⟩)
     refine(Qf3 4 4 (Qfs T p) _ hD).mono ?_
     rintro e w4 ⟨rfl,h1⟩
     have c1':w4.cell? ⟨g,1,none⟩=some (.int .i64 (q:Int)):=(h1.cell (p:=⟨g,1,none⟩) (Go.Proofs.YtbnkjgcpjeedfaaGreat.cell_lt c1)).trans c1
     replace he:=he.next h1
     clear h1 c1 c2 f2
     cases b3:((Qcy 4 4 (Qfs T p)).toList==(faSum T p).toList)
     · have E:=hU (show faOk T p=false by simp[faOk,b3])
       have b3':((Qcy 4 4 (Qfs T p)).toList==(Qaq T (fa1 T p) 4).toList)=false:=b3
       go_wp2_with fail
       go_ret3
       exact⟨by rw[Qvm,E.out];rfl,he⟩
     · have b3':((Qcy 4 4 (Qfs T p)).toList==(Qaq T (fa1 T p) 4).toList)=true:=b3
       have E:=hU (show faOk T p=true by simp only[faOk,b1,b2,b3];rfl)
       go_wp2_with fail
       go_quiet (fail)
       go_wp2_with fail
       go_ret3
       exact⟨by rw[Qvm,E.out,<-Hq.out];rfl,he.drewN _⟩
 · have c2:w3.cell? ⟨g,2,none⟩=some (.bool true):=by rw[<-b1];exact hB.cell 2
   have E:=hU (show faOk T p=false by simp[faOk,b1])
   go_wp2_with fail
   go_ret3
   exact⟨by rw[Qvm,E.out];rfl,he⟩
theorem info_str:(Tryz.prog.info? 9).map (fun i=>(i.zero,i.size,i.bytes))=some (some (.string ⟨#[]⟩),1,16):=by kernel_rfl
def Quv (l:List ByteArray):List Value:=l.map .string
theorem Quu(l:List ByteArray)(x:ByteArray):Quv l++[.string x]=Quv (l++[x]):=by simp[Quv]
def Qeu (T:ByteArray):Nat->Nat->List ByteArray × Nat
 | 0,p=>([],p)
 | f+1,p=>if faOk T p then(Qfs T p :: (Qeu T f (fa3 T p).pos).1,(Qeu T f (fa3 T p).pos).2) else([],p)
def unf (T:ByteArray):List ByteArray × Nat:=if T.size<=300000 then Qeu T 600 0 else([],0)
theorem Qkx{T:ByteArray}{p:Nat}(h:faOk T p=true):(fa3 T p).pos=p+6+faN T p/\(fa3 T p).pos<=T.size/\1<=faN T p/\faN T p<=1000:=by
 simp only[faOk,Bool.and_eq_true,Bool.not_eq_true'] at h
 obtain⟨⟨h1,h2⟩,h3⟩:=h
 obtain⟨h4,h5⟩:=Qa0 h2
 obtain⟨a1,a2,a3,_⟩:=Qm4 h1
 obtain⟨b1,b2,b3,_⟩:=Qm4 a1
 obtain⟨c1,c2,c3,_⟩:=Qm4 b1
 have e1:(fa1 T p).pos=p+2:=c2
 have e2:(fa2 T p).pos=(fa1 T p).pos+4:=b2
 have e3:(fa3 T p).pos=(fa2 T p).pos+faN T p:=a2
 omega
structure UInv (T:ByteArray) (fin:List ByteArray × Nat) (l:List ByteArray) (p:Nat):Prop where
 len:l.length<=600
 pos:p<=T.size
 texts:l++(Qeu T (600-l.length) p).1=fin.1
 at_:(Qeu T (600-l.length) p).2=fin.2
theorem UInv.done{T:ByteArray}{fin:List ByteArray × Nat}{l:List ByteArray}{p:Nat}(h:UInv T fin l p)(hl:600<=l.length):l=fin.1/\p=fin.2:=by
 have h1:=h.texts;have h2:=h.at_
 rw[show 600-l.length=0 by omega] at h1 h2
 exact⟨by simpa [Qeu] using h1,h2⟩
theorem UInv.stop{T:ByteArray}{fin:List ByteArray × Nat}{l:List ByteArray}{p:Nat}(h:UInv T fin l p)(hl:l.length<600)(hk:faOk T p=false):l=fin.1/\p=fin.2:=by
 have h1:=h.texts;have h2:=h.at_
 rw[show 600-l.length=(599-l.length)+1 by omega] at h1 h2
 simp only[Qeu,hk] at h1 h2
 exact⟨by simpa using h1,h2⟩
theorem UInv.step{T:ByteArray}{fin:List ByteArray × Nat}{l:List ByteArray}{p:Nat}(h:UInv T fin l p)(hl:l.length<600)(hk:faOk T p=true):UInv T fin (l++[Qfs T p]) (fa3 T p).pos:=by
 have h1:=h.texts;have h2:=h.at_
 rw[show 600-l.length=(599-l.length)+1 by omega] at h1 h2
 simp only[Qeu,hk,if_true] at h1 h2
 have e:600-(l++[Qfs T p]).length=599-l.length:=by rw[List.length_append,List.length_singleton];omega
 refine⟨by simp;omega,(Qkx hk).2.1,?_,?_⟩
 · rw[e,List.append_assoc];exact h1
 · rw[e];exact h2
theorem ownsRow_nil(w:World)(B e size:Nat):w.ownsRow B e size (.slice none 0 0) 0 []:=⟨by simp,.inl ⟨rfl,rfl⟩⟩
def OwnS (W w:World) (v:Value) (l:List ByteArray):Prop:=w.ownsRow W.heap.size 9 1 v l.length (Quv l)
theorem Qni(T:ByteArray)(w:World)(hT:T.size<=1099511627776) :
 Calls Tryz.prog 57 #[.string T] w fun e w'=>∃ v,e=.returned (.tuple #[v,.int .i64 ((unf T).2:Int)])/\OwnS w w' v (unf T).1/\Ext w w':=by
 by_cases hbig:300000<T.size
 · have E:=hU (show unf T=([],0) by rw[unf,if_neg (by omega)])
   go_enter Tryz.func57,Tryz.ntmps57
   go_wp2_with fail
   go_ret2
   exact⟨_,by rw[E.out];rfl,by rw[E.out];exact ownsRow_nil _ _ _ _,Below.refl _ _⟩
 obtain⟨fin,hfin⟩:∃ fin,fin=unf T:=⟨_,rfl⟩
 have Hi:UInv T fin [] 0:=by rw[hfin,unf,if_pos (by omega)];exact⟨by simp,Nat.zero_le _,rfl,rfl⟩
 rw[<-hfin]
 clear hfin
 obtain⟨i0,hi,hz0,hz1,hz2⟩:=info_parts info_str
 go_enter Tryz.func57,Tryz.ntmps57
 go_wp2_with fail
 have H0:=hU (ownsRow_nil w w.heap.size 9 1)
 have HE:=hU (Below.refl w.heap.size w)
 obtain⟨B,hB⟩:∃ B,B=w.heap.size:=⟨_,rfl⟩
 rw[<-hB] at H0
 have Hb:w.heap.size<=B:=by omega
 have HB:=hU hB
 clear hB
 go_loopw [4,5] (fun v x wr=>∃(l:List ByteArray) (p:Nat),UInv T fin l p/\x=.int .i64 (p:Int)/\wr.ownsRow B 9 1 v l.length (Quv l)/\Ext w wr) (fun _ x _=>T.size-(intOf x).toNat)
 case atStart=>exact⟨[],0,Hi,rfl,H0.out,HE.out⟩
 case round=>
  clear H0 HE Hi
  obtain⟨l,p,hu,rfl,hown,he⟩:=hrel
  obtain⟨A,c,rfl,hnc⟩:=Qae hown
  have KO:=hU hown
  clear hown
  have hul:=hu.len
  have hup:=hu.pos
  by_cases hlt:l.length<600
  · go_wp2_with fail
    refine(Qtf T p _ hT hup).mono ?_
    rintro e w1 ⟨he1,h1⟩
    rw[Qvm] at he1
    replace he:=he.next h1
    have KO1:=hU (Qag KO.out h1)
    clear h1 KO
    cases b:faOk T p
    · rw[b] at he1
      subst he1
      obtain⟨e1,e2⟩:=hu.stop hlt b
      have HF:Hid (OwnS w w1 (.slice A l.length c) fin.1):=hU (by have:=KO1.out;rw[HB.out,e1] at this;unfold OwnS;rw[e1];exact this)
      have HP:=hU e2
      clear e1 e2 hu KO1
      go_wp2_with fail
      go_ret2
      exact⟨_,by rw[HP.out];rfl,HF.out,he⟩
    · rw[b] at he1
      subst he1
      obtain⟨y,hy⟩:∃ y,y=Qfs T p:=⟨_,rfl⟩
      obtain⟨q,hq⟩:∃ q,q=(fa3 T p).pos:=⟨_,rfl⟩
      have Hu:=hU (hu.step hlt b)
      have hpq:=Qkx b
      rw[<-hq] at hpq Hu
      rw[<-hy] at Hu
      simp only[if_true]
      rw[<-hy,<-hq]
      clear hy hq hu
      have hB2:B<=w1.heap.size:=by have:=he.size;have:=HB.out;omega
      go_wp2_with (at_builtin;refine wpList_append_own _ rfl _ _ 29 rfl B 9 i0 (.string ⟨#[]⟩) 1 16 Tryz.underlying29 hi hz0 hz1 hz2 rfl (by decide) _ _ _ rfl (KO1.out.alloc _) ⟨w1.heap.size,0,none⟩ 1 1 [.string y] rfl rfl ?c1 ?c2 ?c3 ?c4 ?c5 ?_)
      case c1=>exact Qrm _ _ _
      case c2=>exact Qiy rfl
      case c3=>unfold maxLen;omega
      case c4=>omega
      case c5=>simp;omega
      intro v' w2 hown' hgrow _
      have he1:=Ext.ownGrown (Ext.new he _) (KO1.out.alloc _) hgrow Hb
      rw[Quu] at hown'
      have KO':=hU hown'
      clear hown' hgrow KO1 he
      go_wp2_with fail
      go_roundw
      case rel=>exact⟨l++[y],q,Hu.out,congrArg (Value.int .i64) (by omega),by have:=KO'.out;simpa using this,he1⟩
      case measure=>simp[intOf];omega
  · obtain⟨e1,e2⟩:=hu.done (by omega)
    have HF:Hid (OwnS w wr (.slice A l.length c) fin.1):=hU (by have:=KO.out;rw[HB.out,e1] at this;unfold OwnS;rw[e1];exact this)
    have HP:=hU e2
    clear e1 e2 hu KO
    go_wp2_with fail
    go_ret2
    exact⟨_,by rw[HP.out];rfl,HF.out,he⟩
theorem fa_bad{T:ByteArray}{p:Nat}(h:faOk T p=true):p+6+faN T p<=T.size:=by
 obtain⟨h1,h2,_⟩:=Qkx h
 omega
theorem Qdi(T:ByteArray)(r:Rd)(n:Nat)(h:r.pos<=T.size):(Qc3 T r n).pos<=T.size:=Qb8 T _ _ (Qb8 T r n h)
def rr0:Rd:=⟨0,false⟩
def rr1 (T:ByteArray):Rd:=Qb3 T rr0 1
def rr2 (T:ByteArray):Rd:=Qc3 T (rr1 T) 1
def rr3 (T:ByteArray):Rd:=Qc3 T (rr2 T) 1
def rr4 (T:ByteArray):Rd:=Qb3 T (rr3 T) 2
def rrD (T:ByteArray):Qab:=⟨Qbm T (rr1 T) 1,Qbm T (rr2 T) 1,(Qb0 (Qaq T (rr3 T) 2):Int)⟩
def Qm1 (T:ByteArray):Bool:=(Qaq T rr0 1).toList==[82]
def Qdf (T:ByteArray):Bool:=Qm1 T&&Qfh T (rr4 T)&&Qau (rrD T)
def rrRes (ok:Bool) (d:Qab):Ending:=.returned (.tuple #[.agg (if ok then d else⟨⟨#[]⟩,⟨#[]⟩,0⟩:Qab).cells.toArray,.bool ok])
def Qab.zero:Qab:=⟨⟨#[]⟩,⟨#[]⟩,0⟩
theorem Qh7(T:ByteArray)(r:Rd)(n:Nat):(Qaq T r n).size<=T.size:=by
 unfold Qaq
 split
 · exact Nat.zero_le _
 · rw[ByteArray.size_extract];omega
theorem Qwt(T:ByteArray)(hT:T.size<=1099511627776):(rrD T).Ok:=by
 have h1:=Qh7 T (Qb3 T (rr1 T) 1) (Qb0 (Qaq T (rr1 T) 1))
 have h2:=Qh7 T (Qb3 T (rr2 T) 1) (Qb0 (Qaq T (rr2 T) 1))
 have h3:=Qk9 (Qaq T (rr3 T) 2) (Nat.le_trans (Qe1 _ _ _) (by decide))
 refine⟨?_,?_,?_⟩
 · unfold maxLen;show(Qaq T (Qb3 T (rr1 T) 1) (Qb0 (Qaq T (rr1 T) 1))).size<=_;omega
 · unfold maxLen;show(Qaq T (Qb3 T (rr2 T) 1) (Qb0 (Qaq T (rr2 T) 1))).size<=_;omega
 · show(Lit.int .i64 (Qb0 (Qaq T (rr3 T) 2):Int)).wf=true
   simp[Lit.wf,IntKind.min,IntKind.max,IntKind.signed,IntKind.bits]
   omega
theorem Qof(T:ByteArray)(w:World)(hT:T.size<=1099511627776) :
 Calls Tryz.prog 112 #[.string T] w fun e w'=>e=rrRes (Qdf T) (rrD T)/\Ext w w':=by
 go_enter Tryz.func112,Tryz.ntmps112
 go_wp2_with fail
 have hR:=(Blk.new w 42 #[.string ⟨#[]⟩,.string ⟨#[]⟩,.int .i64 0]).alloc (.cells #[.string T,.int .i64 0,.bool false] 246)
 have hB:Blk _ _ 246 (Qdd T rr0):=Blk.new (w.alloc (.cells #[.string ⟨#[]⟩,.string ⟨#[]⟩,.int .i64 0] 42)) 246 #[.string T,.int .i64 0,.bool false]
 have he:=Ext.new (Ext.new (Below.refl w.heap.size w) (.cells #[.string ⟨#[]⟩,.string ⟨#[]⟩,.int .i64 0] 42)) (.cells #[.string T,.int .i64 0,.bool false] 246)
 simp only[World.size_alloc] at hB
 refine(Qfo _ T rr0 1 _ hB (Nat.zero_le _) hT (by decide)).mono ?_
 rintro e w1 ⟨rfl,hB,hx⟩
 replace hR:=hR.extBut hx (by omega);replace he:=he.nextBut (by omega) hx;clear hx
 go_wp2_with fail
 refine(Qh1 _ T (rr1 T) 1 _ hB (Qb8 _ _ _ (Nat.zero_le _)) hT (by decide)).mono ?_
 rintro e w2 ⟨rfl,hB,hx⟩
 replace hR:=hR.extBut hx (by omega);replace he:=he.nextBut (by omega) hx;clear hx
 go_wp2_with fail
 have hgl:=hB.lt
 have hD:=Blk.new w2 42 #[.string (Qbm T (rr1 T) 1),.string ⟨#[]⟩,.int .i64 0]
 replace hR:=hR.alloc (.cells #[.string (Qbm T (rr1 T) 1),.string ⟨#[]⟩,.int .i64 0] 42)
 replace hB:=hB.alloc (.cells #[.string (Qbm T (rr1 T) 1),.string ⟨#[]⟩,.int .i64 0] 42)
 replace he:=he.new (.cells #[.string (Qbm T (rr1 T) 1),.string ⟨#[]⟩,.int .i64 0] 42)
 refine(Qh1 _ T (rr2 T) 1 _ hB (Qdi _ _ _ (Qb8 _ _ _ (Nat.zero_le _))) hT (by decide)).mono ?_
 rintro e w3 ⟨rfl,hB,hx⟩
 replace hR:=hR.extBut hx (by omega);replace hD:=hD.extBut hx (by omega);replace he:=he.nextBut (by omega) hx;clear hx
 obtain⟨g2,hg2⟩:∃ g2,g2=w2.heap.size:=⟨_,rfl⟩
 rw[<-hg2] at hD hgl
 rw[<-hg2]
 have hq1:¬ w.heap.size=g2:=by omega
 have hq2:¬ w.heap.size+1=g2:=by omega
 clear hg2
 obtain⟨hc,hf⟩:=hD.rules
 go_wp2_with fail
 clear hc hf
 replace hR:=hR.far (p:=⟨g2,1,none⟩) hq1 (.string (Qbm T (rr2 T) 1))
 replace hB:=hB.far (p:=⟨g2,1,none⟩) hq2 (.string (Qbm T (rr2 T) 1))
 replace hD:=hD.set_ 1 (.string (Qbm T (rr2 T) 1))
 replace he:Ext w _:=Below.setCell he (p:=⟨g2,1,none⟩) (by show w.heap.size<=g2;omega) (.string (Qbm T (rr2 T) 1))
 refine(Qeg _ T (rr3 T) 2 _ hB (Qdi _ _ _ (Qdi _ _ _ (Qb8 _ _ _ (Nat.zero_le _)))) hT (by decide)).mono ?_
 rintro e w4 ⟨rfl,hB,hx⟩
 replace hR:=hR.extBut hx (by omega);replace hD:=hD.extBut hx (by omega);replace he:=he.nextBut (by omega) hx;clear hx
 obtain⟨hc,hf⟩:=hD.rules
 go_upto_region 6 with fail
 clear hc hf
 replace hR:=hR.far (p:=⟨g2,2,none⟩) hq1 (.int .i64 (Qb0 (Qaq T (rr3 T) 2):Int))
 replace hB:=hB.far (p:=⟨g2,2,none⟩) hq2 (.int .i64 (Qb0 (Qaq T (rr3 T) 2):Int))
 replace hD:=hD.set_ 2 (.int .i64 (Qb0 (Qaq T (rr3 T) 2):Int))
 replace he:Ext w _:=Below.setCell he (p:=⟨g2,2,none⟩) (by show w.heap.size<=g2;omega) (.int .i64 (Qb0 (Qaq T (rr3 T) 2):Int))
 replace hD:Blk _ g2 42 #[.string (rrD T).reader,.string (rrD T).topic,.int .i64 (rrD T).index]:=hD
 replace hB:Blk _ _ 246 (Qdd T (rr4 T)):=hB
 generalize w4.setCell ⟨g2,2,none⟩ (.int .i64 (Qb0 (Qaq T (rr3 T) 2):Int))=w5 at *
 obtain⟨hc,hf⟩:=hD.rules
 obtain⟨hrc,hrf⟩:=hR.rules
 cases b1:Qm1 T
 · have Hi:=hU (show Qdf T=false by simp[Qdf,b1])
   unfold Qm1 at b1
   go_wp2_with fail
   have hz:=hR.put 0 Qab.zero.cells Qab.zero.cells.toArray (by decide) rfl
   have hx:=Qaa (W:=w) (g:=w.heap.size) (Nat.le_refl _) Qab.zero.cells 0 w5 he
   refine Qat rfl rfl hz Tryz.underlying42 rfl (by kernel_rfl) rfl ⟨?_,hx⟩
   rw[Hi.out];rfl
 · cases b2:Qfh T (rr4 T)
   · have Hi:=hU (show Qdf T=false by simp[Qdf,b2])
     unfold Qm1 at b1
     go_wp2_with fail
     refine(Qhr _ T (rr4 T) w5 hB).mono ?_
     rintro e w6 ⟨rfl,m,rfl⟩
     replace hR:=hR.drewN m;replace he:=he.drewN m
     go_wp2_with fail
     have hz:=hR.put 0 Qab.zero.cells Qab.zero.cells.toArray (by decide) rfl
     have hx:=Qaa (W:=w) (g:=w.heap.size) (Nat.le_refl _) Qab.zero.cells 0 (w5.drewN m) he
     refine Qat rfl rfl hz Tryz.underlying42 rfl (by kernel_rfl) rfl ⟨?_,hx⟩
     rw[Hi.out];rfl
   · have hk:=Qwt T hT
     cases b3:Qau (rrD T)
     · have Hi:=hU (show Qdf T=false by simp[Qdf,b1,b2,b3])
       unfold Qm1 at b1
       go_wp2_with fail
       refine(Qhr _ T (rr4 T) w5 hB).mono ?_
       rintro e w6 ⟨rfl,m,rfl⟩
       replace hR:=hR.drewN m;replace hD:=hD.drewN m;replace he:=he.drewN m
       go_wp2_with fail
       refine(Qc5 (rrD T) _ hk).mono ?_
       rintro e w7 ⟨rfl,h1⟩
       replace hR:=hR.ext h1;replace hD:=hD.ext h1;replace he:=he.next h1;clear h1 hrc hrf hc hf
       obtain⟨hc,hf⟩:=hD.rules
       obtain⟨hrc,hrf⟩:=hR.rules
       go_wp2_with fail
       have hz:=hR.put 0 Qab.zero.cells Qab.zero.cells.toArray (by decide) rfl
       have hx:=Qaa (W:=w) (g:=w.heap.size) (Nat.le_refl _) Qab.zero.cells 0 w7 he
       refine Qat rfl rfl hz Tryz.underlying42 rfl (by kernel_rfl) rfl ⟨?_,hx⟩
       rw[Hi.out];rfl
     · have Hi:=hU (show Qdf T=true by simp[Qdf,b1,b2,b3])
       unfold Qm1 at b1
       go_wp2_with fail
       refine(Qhr _ T (rr4 T) w5 hB).mono ?_
       rintro e w6 ⟨rfl,m,rfl⟩
       replace hR:=hR.drewN m;replace hD:=hD.drewN m;replace he:=he.drewN m
       go_wp2_with fail
       refine(Qc5 (rrD T) _ hk).mono ?_
       rintro e w7 ⟨rfl,h1⟩
       replace hR:=hR.ext h1;replace hD:=hD.ext h1;replace he:=he.next h1;clear h1 hrc hrf hc hf
       obtain⟨hc,hf⟩:=hD.rules
       obtain⟨hrc,hrf⟩:=hR.rules
       go_wp2_with fail
       have hz:=hR.put 0 (rrD T).cells (rrD T).cells.toArray (by simp[Qab.cells]) rfl
       have hx:=Qaa (W:=w) (g:=w.heap.size) (Nat.le_refl _) (rrD T).cells 0 w7 he
       refine Qat rfl rfl hz Tryz.underlying42 rfl (by kernel_rfl) rfl ⟨?_,hx⟩
       rw[Hi.out];rfl
set_option maxHeartbeats 4000000
def rl0:Rd:=⟨0,false⟩
def rl1 (T:ByteArray):Rd:=Qb3 T rl0 1
def rl2 (T:ByteArray):Rd:=Qc3 T (rl1 T) 1
def rl3 (T:ByteArray):Rd:=Qb3 T (rl2 T) 2
def rl4 (T:ByteArray):Rd:=Qb3 T (rl3 T) 4
def rl5 (T:ByteArray):Rd:=Qc3 T (rl4 T) 1
def rl6 (T:ByteArray):Rd:=Qc3 T (rl5 T) 2
theorem Qw2(T:ByteArray):rl0.pos<=T.size:=Nat.zero_le _
theorem Qw1(T:ByteArray):(rl1 T).pos<=T.size:=Qb8 _ _ _ (Qw2 T)
theorem Qw0(T:ByteArray):(rl2 T).pos<=T.size:=Qdi _ _ _ (Qw1 T)
theorem Qwz(T:ByteArray):(rl3 T).pos<=T.size:=Qb8 _ _ _ (Qw0 T)
theorem Qwy(T:ByteArray):(rl4 T).pos<=T.size:=Qb8 _ _ _ (Qwz T)
theorem rl5_pos(T:ByteArray):(rl5 T).pos<=T.size:=Qdi _ _ _ (Qwy T)
def rlD (T:ByteArray):Qaf:=⟨Qbm T (rl1 T) 1,(Qb0 (Qaq T (rl2 T) 2):Int),(Qb0 (Qaq T (rl3 T) 4):Int),Qbm T (rl4 T) 1,Qbm T (rl5 T) 2⟩
def Qm2 (T:ByteArray):Bool:=(Qaq T rl0 1).toList==[69]
def Qc7 (T:ByteArray):Bool:=Qm2 T&&Qfh T (rl6 T)&&Qbk (rlD T)
def rlOut (ok:Bool) (d:Qaf):Qaf:=if ok then d else⟨⟨#[]⟩,0,0,⟨#[]⟩,⟨#[]⟩⟩
def rlRes (ok:Bool) (d:Qaf):Ending:=.returned (.tuple #[.agg (rlOut ok d).cells.toArray,.bool ok])
def Qaf.zero:Qaf:=⟨⟨#[]⟩,0,0,⟨#[]⟩,⟨#[]⟩⟩
theorem Qwx(T:ByteArray)(hT:T.size<=1099511627776):(rlD T).Ok:=by
 have h1:=Qh7 T (Qb3 T (rl1 T) 1) (Qb0 (Qaq T (rl1 T) 1))
 have h4:=Qh7 T (Qb3 T (rl4 T) 1) (Qb0 (Qaq T (rl4 T) 1))
 have h5:=Qh7 T (Qb3 T (rl5 T) 2) (Qb0 (Qaq T (rl5 T) 2))
 have h2:=Qk9 (Qaq T (rl2 T) 2) (Nat.le_trans (Qe1 _ _ _) (by decide))
 have h3:=Qk9 (Qaq T (rl3 T) 4) (Qe1 _ _ _)
 refine⟨?_,?_,?_,?_,?_⟩
 · unfold maxLen;show(Qaq T (Qb3 T (rl1 T) 1) (Qb0 (Qaq T (rl1 T) 1))).size<=_;omega
 · show(Lit.int .i64 (Qb0 (Qaq T (rl2 T) 2):Int)).wf=true
   simp[Lit.wf,IntKind.min,IntKind.max,IntKind.signed,IntKind.bits]
   omega
 · show(Lit.int .i64 (Qb0 (Qaq T (rl3 T) 4):Int)).wf=true
   simp[Lit.wf,IntKind.min,IntKind.max,IntKind.signed,IntKind.bits]
   omega
 · unfold maxLen;show(Qaq T (Qb3 T (rl4 T) 1) (Qb0 (Qaq T (rl4 T) 1))).size<=_;omega
 · unfold maxLen;show(Qaq T (Qb3 T (rl5 T) 2) (Qb0 (Qaq T (rl5 T) 2))).size<=_;omega
theorem Qsg(T:ByteArray)(w:World)(hT:T.size<=1099511627776) :
 Calls Tryz.prog 110 #[.string T] w fun e w'=>e=rlRes (Qc7 T) (rlD T)/\Ext w w':=by
 go_enter Tryz.func110,Tryz.ntmps110
 go_wp2_with fail
 have hR:=(Blk.new w 40 #[.string ⟨#[]⟩,.int .i64 0,.int .i64 0,.string ⟨#[]⟩,.string ⟨#[]⟩]).alloc (.cells #[.string T,.int .i64 0,.bool false] 246)
 have hB:Blk _ _ 246 (Qdd T rl0):=Blk.new (w.alloc (.cells #[.string ⟨#[]⟩,.int .i64 0,.int .i64 0,.string ⟨#[]⟩,.string ⟨#[]⟩] 40)) 246 #[.string T,.int .i64 0,.bool false]
 have he:=Ext.new (Ext.new (Below.refl w.heap.size w) (.cells #[.string ⟨#[]⟩,.int .i64 0,.int .i64 0,.string ⟨#[]⟩,.string ⟨#[]⟩] 40)) (.cells #[.string T,.int .i64 0,.bool false] 246)
 simp only[World.size_alloc] at hB
 refine(Qfo _ T rl0 1 _ hB (Qw2 T) hT (by decide)).mono ?_
 rintro e w1 ⟨rfl,hB,hx⟩
 replace hR:=hR.extBut hx (by omega);replace he:=he.nextBut (by omega) hx;clear hx
 go_wp2_with fail
 refine(Qh1 _ T (rl1 T) 1 _ hB (Qw1 T) hT (by decide)).mono ?_
 rintro e w2 ⟨rfl,hB,hx⟩
 replace hR:=hR.extBut hx (by omega);replace he:=he.nextBut (by omega) hx;clear hx
 go_wp2_with fail
 have hgl:=hB.lt
 have hD:=Blk.new w2 40 #[.string (Qbm T (rl1 T) 1),.int .i64 0,.int .i64 0,.string ⟨#[]⟩,.string ⟨#[]⟩]
 replace hR:=hR.alloc (.cells #[.string (Qbm T (rl1 T) 1),.int .i64 0,.int .i64 0,.string ⟨#[]⟩,.string ⟨#[]⟩] 40)
 replace hB:=hB.alloc (.cells #[.string (Qbm T (rl1 T) 1),.int .i64 0,.int .i64 0,.string ⟨#[]⟩,.string ⟨#[]⟩] 40)
 replace he:=he.new (.cells #[.string (Qbm T (rl1 T) 1),.int .i64 0,.int .i64 0,.string ⟨#[]⟩,.string ⟨#[]⟩] 40)
 refine(Qeg _ T (rl2 T) 2 _ hB (Qw0 T) hT (by decide)).mono ?_
 rintro e w3 ⟨rfl,hB,hx⟩
 replace hR:=hR.extBut hx (by omega);replace hD:=hD.extBut hx (by omega);replace he:=he.nextBut (by omega) hx;clear hx
 obtain⟨g2,hg2⟩:∃ g2,g2=w2.heap.size:=⟨_,rfl⟩
 rw[<-hg2] at hD hgl
 rw[<-hg2]
 have hq1:¬ w.heap.size=g2:=by omega
 have hq2:¬ w.heap.size+1=g2:=by omega
 clear hg2
 obtain⟨hc,hf⟩:=hD.rules
 go_wp2_with fail
 clear hc hf
 replace hR:=hR.far (p:=⟨g2,1,none⟩) hq1 (.int .i64 (Qb0 (Qaq T (rl2 T) 2):Int))
 replace hB:=hB.far (p:=⟨g2,1,none⟩) hq2 (.int .i64 (Qb0 (Qaq T (rl2 T) 2):Int))
 replace hD:=hD.set_ 1 (.int .i64 (Qb0 (Qaq T (rl2 T) 2):Int))
 replace he:Ext w _:=Below.setCell he (p:=⟨g2,1,none⟩) (by show w.heap.size<=g2;omega) (.int .i64 (Qb0 (Qaq T (rl2 T) 2):Int))
 refine(Qeg _ T (rl3 T) 4 _ hB (Qwz T) hT (by decide)).mono ?_
 rintro e w4 ⟨rfl,hB,hx⟩
 replace hR:=hR.extBut hx (by omega);replace hD:=hD.extBut hx (by omega);replace he:=he.nextBut (by omega) hx;clear hx
 obtain⟨hc,hf⟩:=hD.rules
 go_wp2_with fail
 clear hc hf
 replace hR:=hR.far (p:=⟨g2,2,none⟩) hq1 (.int .i64 (Qb0 (Qaq T (rl3 T) 4):Int))
 replace hB:=hB.far (p:=⟨g2,2,none⟩) hq2 (.int .i64 (Qb0 (Qaq T (rl3 T) 4):Int))
 replace hD:=hD.set_ 2 (.int .i64 (Qb0 (Qaq T (rl3 T) 4):Int))
 replace he:Ext w _:=Below.setCell he (p:=⟨g2,2,none⟩) (by show w.heap.size<=g2;omega) (.int .i64 (Qb0 (Qaq T (rl3 T) 4):Int))
 refine(Qh1 _ T (rl4 T) 1 _ hB (Qwy T) hT (by decide)).mono ?_
 rintro e w5 ⟨rfl,hB,hx⟩
 replace hR:=hR.extBut hx (by omega);replace hD:=hD.extBut hx (by omega);replace he:=he.nextBut (by omega) hx;clear hx
 obtain⟨hc,hf⟩:=hD.rules
 go_wp2_with fail
 clear hc hf
 replace hR:=hR.far (p:=⟨g2,3,none⟩) hq1 (.string (Qbm T (rl4 T) 1))
 replace hB:=hB.far (p:=⟨g2,3,none⟩) hq2 (.string (Qbm T (rl4 T) 1))
 replace hD:=hD.set_ 3 (.string (Qbm T (rl4 T) 1))
 replace he:Ext w _:=Below.setCell he (p:=⟨g2,3,none⟩) (by show w.heap.size<=g2;omega) (.string (Qbm T (rl4 T) 1))
 refine(Qh1 _ T (rl5 T) 2 _ hB (rl5_pos T) hT (by decide)).mono ?_
 rintro e w6 ⟨rfl,hB,hx⟩
 replace hR:=hR.extBut hx (by omega);replace hD:=hD.extBut hx (by omega);replace he:=he.nextBut (by omega) hx;clear hx
 obtain⟨hc,hf⟩:=hD.rules
 go_upto_region 8 with fail
 clear hc hf
 replace hR:=hR.far (p:=⟨g2,4,none⟩) hq1 (.string (Qbm T (rl5 T) 2))
 replace hB:=hB.far (p:=⟨g2,4,none⟩) hq2 (.string (Qbm T (rl5 T) 2))
 replace hD:=hD.set_ 4 (.string (Qbm T (rl5 T) 2))
 replace he:Ext w _:=Below.setCell he (p:=⟨g2,4,none⟩) (by show w.heap.size<=g2;omega) (.string (Qbm T (rl5 T) 2))
 replace hD:Blk _ g2 40 #[.string (rlD T).topic,.int .i64 (rlD T).index,.int .i64 (rlD T).time,.string (rlD T).key,.string (rlD T).body]:=hD
 replace hB:Blk _ _ 246 (Qdd T (rl6 T)):=hB
 generalize w6.setCell ⟨g2,4,none⟩ (.string (Qbm T (rl5 T) 2))=w9 at *
 have hk:=Qwx T hT
 obtain⟨hc,hf⟩:=hD.rules
 obtain⟨hrc,hrf⟩:=hR.rules
 cases b1:Qm2 T
 · have Hi:=hU (show Qc7 T=false by simp[Qc7,b1])
   unfold Qm2 at b1
   go_wp2_with fail
   have hz:=hR.put 0 Qaf.zero.cells Qaf.zero.cells.toArray (by decide) rfl
   have hx:=Qaa (W:=w) (g:=w.heap.size) (Nat.le_refl _) Qaf.zero.cells 0 w9 he
   refine Qat rfl rfl hz Tryz.underlying40 rfl (by kernel_rfl) rfl ⟨?_,hx⟩
   rw[Hi.out];rfl
 · cases b2:Qfh T (rl6 T)
   · have Hi:=hU (show Qc7 T=false by simp[Qc7,b1,b2])
     unfold Qm2 at b1
     go_wp2_with fail
     refine(Qhr _ T (rl6 T) w9 hB).mono ?_
     rintro e w10 ⟨rfl,m,rfl⟩
     replace hR:=hR.drewN m;replace he:=he.drewN m
     go_wp2_with fail
     have hz:=hR.put 0 Qaf.zero.cells Qaf.zero.cells.toArray (by decide) rfl
     have hx:=Qaa (W:=w) (g:=w.heap.size) (Nat.le_refl _) Qaf.zero.cells 0 (w9.drewN m) he
     refine Qat rfl rfl hz Tryz.underlying40 rfl (by kernel_rfl) rfl ⟨?_,hx⟩
     rw[Hi.out];rfl
   · cases b3:Qbk (rlD T)
     · have Hi:=hU (show Qc7 T=false by simp[Qc7,b1,b2,b3])
       unfold Qm2 at b1
       go_wp2_with fail
       refine(Qhr _ T (rl6 T) w9 hB).mono ?_
       rintro e w10 ⟨rfl,m,rfl⟩
       replace hR:=hR.drewN m;replace hD:=hD.drewN m;replace he:=he.drewN m
       go_wp2_with fail
       refine(Qfa (rlD T) _ hk).mono ?_
       rintro e w11 ⟨rfl,h1⟩
       replace hR:=hR.ext h1;replace hD:=hD.ext h1;replace he:=he.next h1;clear h1 hrc hrf hc hf
       obtain⟨hc,hf⟩:=hD.rules
       obtain⟨hrc,hrf⟩:=hR.rules
       go_wp2_with fail
       have hz:=hR.put 0 Qaf.zero.cells Qaf.zero.cells.toArray (by decide) rfl
       have hx:=Qaa (W:=w) (g:=w.heap.size) (Nat.le_refl _) Qaf.zero.cells 0 w11 he
       refine Qat rfl rfl hz Tryz.underlying40 rfl (by kernel_rfl) rfl ⟨?_,hx⟩
       rw[Hi.out];rfl
     · have Hi:=hU (show Qc7 T=true by simp[Qc7,b1,b2,b3])
       unfold Qm2 at b1
       go_wp2_with fail
       refine(Qhr _ T (rl6 T) w9 hB).mono ?_
       rintro e w10 ⟨rfl,m,rfl⟩
       replace hR:=hR.drewN m;replace hD:=hD.drewN m;replace he:=he.drewN m
       go_wp2_with fail
       refine(Qfa (rlD T) _ hk).mono ?_
       rintro e w11 ⟨rfl,h1⟩
       replace hR:=hR.ext h1;replace hD:=hD.ext h1;replace he:=he.next h1;clear h1 hrc hrf hc hf
       obtain⟨hc,hf⟩:=hD.rules
       obtain⟨hrc,hrf⟩:=hR.rules
       go_wp2_with fail
       have hz:=hR.put 0 (rlD T).cells (rlD T).cells.toArray (by simp[Qaf.cells]) rfl
       have hx:=Qaa (W:=w) (g:=w.heap.size) (Nat.le_refl _) (rlD T).cells 0 w11 he
       refine Qat rfl rfl hz Tryz.underlying40 rfl (by kernel_rfl) rfl ⟨?_,hx⟩
       rw[Hi.out];rfl
end Go.Proofs.YtbnkjgcpjeedfaaGreat
