/-
  Turns; Hash; Mixed: No condition.
-/
import Derived.Test.YtbnkjgcpjeedfaaGreatWords
import Derived.Laws.ShiftsVarLaws
namespace Go.Proofs.YtbnkjgcpjeedfaaGreat
set_option maxHeartbeats 1000000
set_option linter.unusedSimpArgs false
open Go.RowKit
set_option linter.unusedVariables false
def rotl (x:Int) (k:Nat):Int:=x*2 ^ k % 4294967296+x / 2 ^ (32-k)
theorem Qp5(X k:Nat)(hX:X<4294967296)(hk:k<32):bits .or .u32 ((X:Int)*2 ^ k % 4294967296) ((X:Int) / 2 ^ (32-k))=rotl X k:=by
 have hp:2 ^ (32-k)*2 ^ k=4294967296:=by rw[<-Nat.pow_add,show 32-k+k=32 by omega]
 have e1:(X:Int)*2 ^ k % 4294967296=((X*2 ^ k % 4294967296:Nat):Int):=by simp
 have e2:(X:Int) / 2 ^ (32-k)=((X / 2 ^ (32-k):Nat):Int):=by simp
 have hd:X*2 ^ k % 4294967296 % 2 ^ k=0:=by
  rw[<-hp,Nat.mod_mul_left_mod]
  exact Nat.mul_mod_left _ _
 have hl:X / 2 ^ (32-k)<2 ^ k:=Nat.div_lt_of_lt_mul (by rw[hp];exact hX)
 have hq:X / 2 ^ (32-k)<=X:=Nat.div_le_self _ _
 unfold rotl
 rw[e1,e2,Qqb _ _ (2 ^ k) k rfl hd hl (Nat.mod_lt _ (by decide)) (by omega)]
 omega
theorem Qt4(x:Int)(k:Nat)(h0:0<=x)(h1:x<4294967296)(hk:k<32):0<=rotl x k/\rotl x k<4294967296:=by
 obtain⟨X,rfl⟩:=Int.eq_ofNat_of_zero_le h0
 rw[<-Qp5 X k (by omega) hk]
 have hX:X<4294967296:=by omega
 have e1:(X:Int)*2 ^ k % 4294967296=((X*2 ^ k % 4294967296:Nat):Int):=by simp
 have e2:(X:Int) / 2 ^ (32-k)=((X / 2 ^ (32-k):Nat):Int):=by simp
 have hq:X / 2 ^ (32-k)<=X:=Nat.div_le_self _ _
 rw[e1,e2,u32_or_nat _ _ (Nat.mod_lt _ (by decide)) (by omega)]
 have:=Nat.or_lt_two_pow (n:=32) (x:=X*2 ^ k % 4294967296) (y:=X / 2 ^ (32-k)) (Nat.mod_lt _ (by decide)) (by omega)
 omega
theorem Qwu(x:Int)(h0:0<=x)(h1:x<4294967296):rotl x 0=x:=by
 simp only[rotl,Int.pow_zero,Int.mul_one,Nat.sub_zero]
 omega
theorem Qww(P Q:Int)(H b L:Int)(hPQ:P*Q=2147483648)(hQ:0<Q)(hP:0<P)(h0:0<=H)(h1:H<P)(b0:0<=b)(b1:b<=1)(l0:0<=L)(l1:L<Q) :
 (H*(2*Q)+b*Q+L)*P % 4294967296=b*2147483648+L*P/\(H*(2*Q)+b*Q+L) / (2*Q)=H/\(b*2147483648+L*P+H)*2 % 4294967296=(L*P+H)*2/\(b*2147483648+L*P+H) / 2147483648=b/\
 (H*(2*Q)+b*Q+L)*(P*2) % 4294967296=L*P*2/\(H*(2*Q)+b*Q+L) / Q=2*H+b:=by
 have hb:b=0\/b=1:=by omega
 have hLP0:0<=L*P:=Int.mul_nonneg l0 (Int.le_of_lt hP)
 have hLP:L*P+P<=2147483648:=by
  have:(L+1)*P<=Q*P:=Int.mul_le_mul_of_nonneg_right (by omega) (Int.le_of_lt hP)
  rw[Int.add_mul,Int.one_mul,Int.mul_comm Q P,hPQ] at this
  exact this
 have e1:(H*(2*Q)+b*Q+L)*P=H*4294967296+b*2147483648+L*P:=by
  rw[Int.add_mul,Int.add_mul,Int.mul_assoc H,Int.mul_assoc 2,Int.mul_comm Q P,hPQ,Int.mul_assoc b,Int.mul_comm Q P,hPQ];omega
 have e2:(H*(2*Q)+b*Q+L)*(P*2)=(H*4294967296+b*2147483648+L*P)*2:=by rw[<-Int.mul_assoc,e1]
 have e3:(H*(2*Q)+b*Q+L) / Q=2*H+b:=by
  rw[show H*(2*Q)+b*Q+L=L+(2*H+b)*Q by rw[Int.add_mul,<-Int.mul_assoc,Int.mul_comm H 2];omega,Int.add_mul_ediv_right _ _ (by omega),Int.ediv_eq_zero_of_lt l0 l1];omega
 have e4:(H*(2*Q)+b*Q+L) / (2*Q)=H:=by
  have hbQ:0<=b*Q+L/\b*Q+L<2*Q:=by rcases hb with rfl|rfl <;> omega
  rw[show H*(2*Q)+b*Q+L=(b*Q+L)+H*(2*Q) by omega,Int.add_mul_ediv_right _ _ (by omega),Int.ediv_eq_zero_of_lt hbQ.1 hbQ.2];omega
 generalize L*P=Z at *
 refine⟨?_,e4,?_,?_,?_,e3⟩
 · rw[e1];rcases hb with rfl|rfl <;> omega
 · rcases hb with rfl|rfl <;> omega
 · rcases hb with rfl|rfl <;> omega
 · rw[e2];rcases hb with rfl|rfl <;> omega
theorem Qwv(x:Int)(k:Nat)(h0:0<=x)(h1:x<4294967296)(hk:k<31):rotl (rotl x k) 1=rotl x (k+1):=by
 have hPQ:(2:Int) ^ k*2 ^ (31-k)=2147483648:=by rw[<-Int.pow_add,show k+(31-k)=31 by omega];rfl
 have hQ:(0:Int)<2 ^ (31-k):=Int.pow_pos (by decide)
 have hP:(0:Int)<2 ^ k:=Int.pow_pos (by decide)
 have hQ2:(2:Int) ^ (32-k)=2*2 ^ (31-k):=by rw[show 32-k=(31-k)+1 by omega,Int.pow_succ,Int.mul_comm]
 have hQ1:(2:Int) ^ (32-(k+1))=2 ^ (31-k):=by rw[show 32-(k+1)=31-k by omega]
 have hP1:(2:Int) ^ (k+1)=2 ^ k*2:=Int.pow_succ _ _
 unfold rotl
 rw[hQ2,hQ1,hP1,Int.pow_succ,Int.pow_zero,Int.one_mul,show(2:Int) ^ (32-1)=2147483648 by decide]
 generalize (2:Int) ^ k=P at *
 generalize (2:Int) ^ (31-k)=Q at *
 have hH0:0<=x / (2*Q):=Int.ediv_nonneg h0 (by omega)
 have hH1:x / (2*Q)<P:=Int.ediv_lt_of_lt_mul (by omega) (by rw[Int.mul_comm 2 Q,<-Int.mul_assoc,hPQ];exact h1)
 have hr0:0<=x % (2*Q):=Int.emod_nonneg _ (by omega)
 have hr1:x % (2*Q)<2*Q:=Int.emod_lt_of_pos _ (by omega)
 have hb0:0<=x % (2*Q) / Q:=Int.ediv_nonneg hr0 (by omega)
 have hb1:x % (2*Q) / Q<2:=Int.ediv_lt_of_lt_mul hQ hr1
 have hl0:0<=x % (2*Q) % Q:=Int.emod_nonneg _ (by omega)
 have hl1:x % (2*Q) % Q<Q:=Int.emod_lt_of_pos _ hQ
 have ex:x=x / (2*Q)*(2*Q)+x % (2*Q) / Q*Q+x % (2*Q) % Q:=by
  have a1:=Int.mul_ediv_add_emod x (2*Q)
  have a2:=Int.mul_ediv_add_emod (x % (2*Q)) Q
  rw[Int.mul_comm (x / (2*Q)),Int.mul_comm (x % (2*Q) / Q),Int.add_assoc,a2,a1]
 generalize x / (2*Q)=H at *
 generalize x % (2*Q) / Q=b at *
 generalize x % (2*Q) % Q=L at *
 obtain⟨f1,f2,f3,f4,f5,f6⟩:=Qww P Q H b L hPQ hQ hP hH0 hH1 hb0 (by omega) hl0 hl1
 subst ex
 rw[f1,f3,f4,f5,f6]
 omega
theorem Qvz(x:Int)(k:Nat)(w:World)(h0:0<=x)(h1:x<4294967296)(h3:k<32):Calls Tryz.prog 272 #[.int .u32 x,.int .i64 (k:Int)] w fun e w'=>e=.returned (.int .u32 (rotl x k))/\w=w':=by
 have hand:bits .and .u64 (k:Int) 31=(k:Int):=by
  have:=u64_and_nat k 31 (by omega) (by decide)
  rw[nat_mask5,Nat.mod_eq_of_lt h3] at this
  exact this
 obtain⟨X,rfl⟩:=Int.eq_ofNat_of_zero_le h0
 have E:=hU (Qp5 X k (by omega) h3)
 go_enter Tryz.func272,Tryz.ntmps272
 go_wp2_with fail
 go_ret
 exact⟨Qez E.out,rfl⟩
theorem Turn_any(x:Int)(n:Int)(w:World)(h0:0<=x)(h1:x<4294967296)(h2:0<=n)(h3:n<32):Calls Tryz.prog 253 #[.int .u32 x,.int .i64 n] w fun e w'=>e=.returned (.int .u32 (rotl x n.toNat))/\w=w':=by
 obtain⟨k,rfl⟩:=Int.eq_ofNat_of_zero_le h2
 rw[Int.toNat_natCast]
 have hk:k<32:=by omega
 go_enter Tryz.func253,Tryz.ntmps253
 go_wp2_with fail
 rw[show(k:Int) % 32=(k:Int) by omega]
 refine(Qvz x k _ h0 h1 hk).mono ?_
 rintro e w1 ⟨rfl,rfl⟩
 go_wp2_with fail
 go_ret
 exact⟨rfl,rfl⟩
theorem Qrc(x:Int)(n:Int)(w:World)(h0:0<=x)(h1:x<4294967296)(h2:0<=n)(h3:n<32):Calls Tryz.prog 260 #[.int .u32 x,.int .i64 n] w fun e w'=>e=.returned (.int .u32 (rotl x n.toNat))/\w=w':=by
 obtain⟨m,rfl⟩:=Int.eq_ofNat_of_zero_le h2
 rw[Int.toNat_natCast]
 have hm:m<32:=by omega
 have Z:=hU (Qwu x h0 h1)
 have hr:(m:Int) % 32=(m:Int):=by omega
 have hr2:m % 32=m:=by omega
 have hx0:=hU h0
 have hx1:=hU h1
 go_enter Tryz.func260,Tryz.ntmps260
 go_wp2_with fail
 go_loop [0,6,7] (fun y i _=>∃(k:Nat) (q:Int),k<=m/\i=.int .i64 k/\y=.int .u32 q/\0<=q/\q<4294967296/\Hid (q=rotl x k)) (fun _ i _=>m-(intOf i).toNat)
 case atStart=>exact⟨0,x,by omega,rfl,rfl,h0,h1,hU Z.out.symm⟩
 case round=>
  obtain⟨k,q,hk,rfl,rfl,q0,q1,hq⟩:=hrel
  by_cases hlt:k<m
  · obtain⟨Q,rfl⟩:=Int.eq_ofNat_of_zero_le q0
    have hj:=Qp5 Q 1 (by omega) (by decide)
    have hs:=Qwv x k hx0.out hx1.out (by omega)
    have hg:=Qt4 (Q:Int) 1 q0 q1 (by decide)
    have e31:(2:Int) ^ (32-1)=2147483648:=by decide
    rw[e31,Int.pow_succ,Int.pow_zero,Int.one_mul] at hj
    rw[hq.out,] at hg
    rw[<-hq.out] at hs
    obtain⟨hg0,hg1⟩:=hg
    rw[<-hq.out] at hg0 hg1
    obtain⟨y,hy⟩:∃ y,y=rotl (Q:Int) 1:=⟨_,rfl⟩
    rw[<-hy] at hj hs hg0 hg1
    have Hs:=hU hs
    clear hy hs
    go_wp2_with fail
    go_round
    case rel=>exact⟨k+1,y,by omega,by go_num,rfl,hg0,hg1,Hs⟩
    case measure=>simp[intOf];omega
  · obtain rfl:k=m:=by omega
    go_wp2_with fail
    go_ret
    exact⟨Qez hq.out,rfl⟩
def W32 (l:List Int):Prop:=∀ x∈l,0<=x/\x<4294967296
def gw (l:List Int) (i:Nat):Int:=l.getD i 0
theorem Qx1{l:List Int}(h:W32 l)(i:Nat):0<=gw l i/\gw l i<4294967296:=by
 unfold gw
 rw[List.getD_eq_getElem?_getD]
 cases hi:l[i]? with
 | none=>simp
 | some x=>exact h x (List.mem_of_getElem? hi)
theorem Quf{l:List Int}{i:Nat}(h:i<l.length):l[i]?=some (gw l i):=by
 unfold gw
 rw[List.getD_eq_getElem?_getD,List.getElem?_eq_getElem h];rfl
theorem Qnp{l:List Int}{i:Nat}(h:i<l.length)(x:Int):gw (l.set i x) i=x:=by
 simp[gw,List.getD_eq_getElem?_getD,h]
theorem Qig{l:List Int}{i j:Nat}(h:i≠j)(x:Int):gw (l.set i x) j=gw l j:=by
 simp[gw,List.getD_eq_getElem?_getD,List.getElem?_set_ne h]
theorem W32.set{l:List Int}(h:W32 l)(i:Nat){x:Int}(hx:0<=x/\x<4294967296):W32 (l.set i x):=by
 intro y hy
 rcases List.mem_or_eq_of_mem_set hy with h1|rfl
 · exact h y h1
 · exact hx
theorem xor_rng(x y:Int)(hx:0<=x/\x<4294967296)(hy:0<=y/\y<4294967296):0<=bits .xor .u32 x y/\bits .xor .u32 x y<4294967296:=by
 obtain⟨X,rfl⟩:=Int.eq_ofNat_of_zero_le hx.1
 obtain⟨Y,rfl⟩:=Int.eq_ofNat_of_zero_le hy.1
 rw[u32_xor_nat _ _ (by omega) (by omega)]
 have:=Nat.xor_lt_two_pow (n:=32) (x:=X) (y:=Y) (by omega) (by omega)
 omega
def Qhz (b v:List Int) (r i:Nat):Int:=(gw v i+Qr1 ((8*r+i:Nat):Int)+bits .xor .u32 (gw v ((i+1) % 8)) (gw b ((8*r+5*i+r / 2) % 16))) % 4294967296
def Qjm (b v:List Int) (r i:Nat):Int:=bits .xor .u32 (rotl (Qhz b v r i) (5+(i+3*r) % 23)) (gw v ((i+3) % 8))
def Qwm (b v:List Int) (r i:Nat):List Int:=v.set i (Qjm b v r i)
theorem Qf8(b v:List Int)(r i:Nat):0<=Qhz b v r i/\Qhz b v r i<4294967296:=by unfold Qhz;omega
theorem Qsp(b:List Int){v:List Int}(r i:Nat)(hv:W32 v):0<=Qjm b v r i/\Qjm b v r i<4294967296:=by
 obtain⟨h0,h1⟩:=Qf8 b v r i
 exact xor_rng _ _ (Qt4 _ _ h0 h1 (by omega)) (Qx1 hv _)
theorem Qwl(b v:List Int)(r i:Nat):(Qwm b v r i).length=v.length:=by simp[Qwm]
theorem stepW_32(b:List Int){v:List Int}(r i:Nat)(hv:W32 v):W32 (Qwm b v r i):=hv.set i (Qsp b r i hv)
def mixN (b v:List Int):Nat->List Int
 | 0=>v
 | n+1=>Qwm b (mixN b v n) (n / 8) (n % 8)
theorem Qi0(b v:List Int):∀ n,(mixN b v n).length=v.length
 | 0=>rfl
 | n+1=>by rw[mixN,Qwl,Qi0 b v n]
theorem Qnb(b:List Int){v:List Int}(hv:W32 v):∀ n,W32 (mixN b v n)
 | 0=>hv
 | n+1=>stepW_32 b _ _ (Qnb b hv n)
theorem Qrp(b v:List Int)(r i:Nat)(hi:i<8):Qwm b (mixN b v (8*r+i)) r i=mixN b v (8*r+(i+1)):=by
 rw[show 8*r+(i+1)=(8*r+i)+1 by omega,mixN,show(8*r+i) / 8=r by omega,show(8*r+i) % 8=i by omega]
def addW (s v:List Int):Nat->List Int
 | 0=>v
 | k+1=>(addW s v k).set k ((gw v k+gw s k) % 4294967296)
theorem Qmm(s v:List Int):∀ k,(addW s v k).length=v.length
 | 0=>rfl
 | k+1=>by rw[addW,List.length_set,Qmm s v k]
theorem Qyh(s:List Int){v:List Int}(hv:W32 v):∀ k,W32 (addW s v k)
 | 0=>hv
 | k+1=>(Qyh s hv k).set k (by omega)
theorem Qup(s v:List Int):∀ k j,k<=j->gw (addW s v k) j=gw v j
 | 0,j,_=>rfl
 | k+1,j,h=>by rw[addW,Qig (by omega),Qup s v k j (by omega)]
def mixW (s b:List Int):List Int:=addW s (mixN b s 96) 8
theorem Qqd(s b:List Int):(mixW s b).length=s.length:=by rw[mixW,Qmm,Qi0]
theorem mixW_32{s:List Int}(b:List Int)(hs:W32 s):W32 (mixW s b):=Qyh _ (Qnb b hs 96) 8
def Qgg (T:ByteArray) (a:Nat):List Int:=(List.range 16).map fun i=>Qf6 T (a+4*i)
theorem Qps(T:ByteArray)(a:Nat):(Qgg T a).length=16:=by simp[Qgg]
theorem Qsc(T:ByteArray)(a:Nat):W32 (Qgg T a):=by
 intro x hx
 obtain⟨i,_,rfl⟩:=List.mem_map.1 hx
 exact Qv8 _ _
def mixT (T:ByteArray) (s:List Int):Nat->List Int
 | 0=>s
 | k+1=>mixW (mixT T s k) (Qgg T (64*k))
theorem Qgn(T:ByteArray)(s:List Int):∀ k,(mixT T s k).length=s.length
 | 0=>rfl
 | k+1=>by rw[mixT,Qqd,Qgn T s k]
theorem Qna(T:ByteArray){s:List Int}(hs:W32 s):∀ k,W32 (mixT T s k)
 | 0=>hs
 | k+1=>mixW_32 _ (Qna T hs k)
def Qh0 (tag:Int) (i:Nat):Int:=(tag+1)*(2*(i:Int)+3) % 4294967296*2246822519 % 4294967296
def Qen (tag:Int):List Int:=(List.range 8).map fun i=>Qh0 tag i
theorem Qdb(tag:Int):(Qen tag).length=8:=by simp[Qen]
theorem Qj6(tag:Int):W32 (Qen tag):=by
 intro x hx
 obtain⟨i,_,rfl⟩:=List.mem_map.1 hx
 unfold Qh0
 omega
def Qd5:List Int->ByteArray
 | []=>⟨#[]⟩
 | x :: l=>Qgh x++Qd5 l
theorem Qf1:∀ l,(Qd5 l).size=4*l.length
 | []=>rfl
 | x :: l=>by rw[Qd5,ByteArray.size_append,Qgy,Qf1 l,List.length_cons];omega
theorem Qlh:∀(l:List Int) (x:Int),Qd5 (l++[x])=Qd5 l++Qgh x
 | [],x=>by show Qgh x++⟨#[]⟩=_;rw[append_nil];exact(ByteArray.empty_append).symm
 | y :: l,x=>by rw[List.cons_append,Qd5,Qlh l x,Qd5,ByteArray.append_assoc]
def Qpv (n:Nat):ByteArray:=⟨(List.replicate n (0:UInt8)).toArray⟩
theorem Qo1(n:Nat):(Qpv n).size=n:=by simp[Qpv,ByteArray.size]
def padZ (n:Nat):Nat:=(119-n % 64) % 64
def padT (n:Nat):ByteArray:=⟨#[128]⟩++Qpv (padZ n)++Qgh 0++Qgh n
theorem Qrk(n:Nat):(padT n).size=padZ n+9:=by
 simp only[padT,ByteArray.size_append,Qo1,Qgy]
 have:(⟨#[128]⟩:ByteArray).size=1:=rfl
 omega
def Qil (width:Nat) (tag:Int) (T:ByteArray):ByteArray:=(Qd5 (mixT (T++padT T.size) (Qen tag) ((T++padT T.size).size / 64))).extract 0 width
def Qbr (width tag:Int) (T:ByteArray):Bool:=inR width 1 32&&inR tag 0 255&&decide (T.size<=4000)
def Qcy (width tag:Int) (T:ByteArray):ByteArray:=if Qbr width tag T then Qil width.toNat tag T else⟨#[]⟩
theorem Qeb{width tag:Int}{T:ByteArray}(h:Qbr width tag T=true):(Qcy width tag T).size=width.toNat:=by
 simp only[Qcy,h,if_true,Qil]
 rw[ByteArray.size_extract,Qf1,Qgn,Qdb]
 simp only[Qbr,Bool.and_eq_true] at h
 have:=Qa0 h.1.1
 omega
set_option maxHeartbeats 4000000
set_option maxRecDepth 100000
def Qq6 (x:Int):Value:=.int .u32 x
def wrow (l:List Int):Array Value:=(l.map Qq6).toArray
theorem Qel{l:List Int}{i:Nat}(h:i<l.length):(wrow l)[i]?=some (.int .u32 (gw l i)):=by
 simp[wrow,List.getElem?_map,Quf h,Qq6]
theorem Qj2(l:List Int)(i:Nat)(x:Int):(wrow l).setIfInBounds i (.int .u32 x)=wrow (l.set i x):=by
 simp[wrow,List.map_set,Qq6]
theorem Qqg{α:Type}{l:List α}(h:l.length=8):∃ a0 a1 a2 a3 a4 a5 a6 a7,l=[a0,a1,a2,a3,a4,a5,a6,a7]:=by
 match l,h with
 | [a0,a1,a2,a3,a4,a5,a6,a7],_=>exact⟨_,_,_,_,_,_,_,_,rfl⟩
theorem list16{α:Type}{l:List α}(h:l.length=16):∃ a0 a1 a2 a3 a4 a5 a6 a7 a8 a9 b0 b1 b2 b3 b4 b5,l=[a0,a1,a2,a3,a4,a5,a6,a7,a8,a9,b0,b1,b2,b3,b4,b5]:=by
 match l,h with
 | [a0,a1,a2,a3,a4,a5,a6,a7,a8,a9,b0,b1,b2,b3,b4,b5],_=>exact⟨_,_,_,_,_,_,_,_,_,_,_,_,_,_,_,_,rfl⟩
theorem Qx4(w:World)(x2 x3 x4 x5:Array Value)(t2 t3 t4 t5:TypeId) :
 Blk ((((w.alloc (.cells x2 t2)).alloc (.cells x3 t3)).alloc (.cells x4 t4)).alloc (.cells x5 t5)) w.heap.size t2 x2/\Blk ((((w.alloc (.cells x2 t2)).alloc (.cells x3 t3)).alloc (.cells x4 t4)).alloc (.cells x5 t5)) (w.heap.size+1) t3 x3/\
 Blk ((((w.alloc (.cells x2 t2)).alloc (.cells x3 t3)).alloc (.cells x4 t4)).alloc (.cells x5 t5)) (w.heap.size+1+1) t4 x4/\Blk ((((w.alloc (.cells x2 t2)).alloc (.cells x3 t3)).alloc (.cells x4 t4)).alloc (.cells x5 t5)) (w.heap.size+1+1+1) t5 x5/\
 Ext w ((((w.alloc (.cells x2 t2)).alloc (.cells x3 t3)).alloc (.cells x4 t4)).alloc (.cells x5 t5)):=by
 have h3:(w.alloc (.cells x2 t2)).heap.size=w.heap.size+1:=by simp
 have h4:((w.alloc (.cells x2 t2)).alloc (.cells x3 t3)).heap.size=w.heap.size+1+1:=by simp
 have h5:(((w.alloc (.cells x2 t2)).alloc (.cells x3 t3)).alloc (.cells x4 t4)).heap.size=w.heap.size+1+1+1:=by simp
 refine⟨(((Blk.new w t2 x2).alloc _).alloc _).alloc _,?_,?_,?_,Ext.new (Ext.new (Ext.new (Ext.new (Below.refl w.heap.size w) _) _) _) _⟩
 · have:=((Blk.new (w.alloc (.cells x2 t2)) t3 x3).alloc (.cells x4 t4)).alloc (.cells x5 t5);rwa [h3] at this
 · have:=(Blk.new ((w.alloc (.cells x2 t2)).alloc (.cells x3 t3)) t4 x4).alloc (.cells x5 t5);rwa [h4] at this
 · have:=Blk.new (((w.alloc (.cells x2 t2)).alloc (.cells x3 t3)).alloc (.cells x4 t4)) t5 x5;rwa [h5] at this
theorem Qxr(s b:List Int)(w:World)(hs:s.length=8)(hb:b.length=16)(ws:W32 s)(wb:W32 b) :
 Calls Tryz.prog 217 #[.agg (wrow s),.agg (wrow b)] w fun e w'=>e=.returned (.agg (wrow (mixW s b)))/\Ext w w':=by
 obtain⟨a0,a1,a2,a3,a4,a5,a6,a7,rfl⟩:=Qqg hs
 obtain⟨c0,c1,c2,c3,c4,c5,c6,c7,c8,c9,d0,d1,d2,d3,d4,d5,rfl⟩:=list16 hb
 obtain⟨s,hsd⟩:∃ s,s=[a0,a1,a2,a3,a4,a5,a6,a7]:=⟨_,rfl⟩
 obtain⟨b,hbd⟩:∃ b,b=[c0,c1,c2,c3,c4,c5,c6,c7,c8,c9,d0,d1,d2,d3,d4,d5]:=⟨_,rfl⟩
 have es:wrow [a0,a1,a2,a3,a4,a5,a6,a7]=#[.int .u32 a0,.int .u32 a1,.int .u32 a2,.int .u32 a3,.int .u32 a4,.int .u32 a5,.int .u32 a6,.int .u32 a7]:=rfl
 have eb:wrow [c0,c1,c2,c3,c4,c5,c6,c7,c8,c9,d0,d1,d2,d3,d4,d5]=#[.int .u32 c0,.int .u32 c1,.int .u32 c2,.int .u32 c3,.int .u32 c4,.int .u32 c5,.int .u32 c6,.int .u32 c7,.int .u32 c8,.int .u32 c9,.int .u32 d0,.int .u32 d1,.int .u32 d2,.int .u32 d3,.int .u32 d4,.int .u32 d5]:=rfl
 obtain⟨fin,hfin⟩:∃ fin,fin=wrow (mixW s b):=⟨_,rfl⟩
 rw[es,eb,<-hsd,<-hbd,<-hfin]
 rw[<-hsd] at hs ws es
 rw[<-hbd] at hb wb eb
 obtain⟨B2,B3,B4,B5,he⟩:=Qx4 w #[.int .u32 a0,.int .u32 a1,.int .u32 a2,.int .u32 a3,.int .u32 a4,.int .u32 a5,.int .u32 a6,.int .u32 a7] #[.int .u32 c0,.int .u32 c1,.int .u32 c2,.int .u32 c3,.int .u32 c4,.int .u32 c5,.int .u32 c6,.int .u32 c7,.int .u32 c8,.int .u32 c9,.int .u32 d0,.int .u32 d1,.int .u32 d2,.int .u32 d3,.int .u32 d4,.int .u32 d5] #[.int .u32 0,.int .u32 0,.int .u32 0,.int .u32 0,.int .u32 0,.int .u32 0,.int .u32 0,.int .u32 0] #[.int .u32 a0,.int .u32 a1,.int .u32 a2,.int .u32 a3,.int .u32 a4,.int .u32 a5,.int .u32 a6,.int .u32 a7] 204 273 204 204
 have K2:=hU B2;have K3:=hU B3;have K4:=hU B4;have K5:=hU B5;have He:=hU he
 clear B2 B3 B4 B5 he
 have Hfin:=hU hfin
 have Es:=hU es
 have Eb:=hU eb
 clear hsd hbd hfin es eb
 go_enter Tryz.func217,Tryz.ntmps217
 go_wp2_with fail
 obtain⟨g,hg⟩:∃ g,g=w.heap.size:=⟨_,rfl⟩
 rw[<-hg] at K2 K3 K4 K5
 rw[<-hg]
 have Hg:w.heap.size<=g:=by omega
 rw[<-Es.out,<-Eb.out] at K2 K3 K4 K5 He
 rw[<-Es.out,<-Eb.out]
 clear hg
 go_loopw [10] (fun x wr=>∃ r:Nat,r<=12/\x=.int .i64 r/\Blk wr g 204 (wrow s)/\Blk wr (g+1) 273 (wrow b)/\Blk wr (g+1+1) 204 #[.int .u32 0,.int .u32 0,.int .u32 0,.int .u32 0,.int .u32 0,.int .u32 0,.int .u32 0,.int .u32 0]/\Blk wr (g+1+1+1) 204 (wrow (mixN b s (8*r)))/\Ext w wr) (fun x _=>12-(intOf x).toNat)
 case atStart=>exact⟨0,by omega,rfl,K2.out,K3.out,K4.out,K5.out,He.out⟩
 case round=>
  clear K2 K3 K4 K5 He
  obtain⟨r,hr,rfl,B2,B3,B4,B5,he⟩:=hrel
  have K2:=hU B2;have K3:=hU B3;have K4:=hU B4;have K5:=hU B5
  clear B2 B3 B4 B5
  by_cases hlt:r<12
  · obtain⟨wo,rfl⟩:∃ wo:World,wo=wr:=⟨_,rfl⟩
    have hd12:decide ((r:Int)<12)=true:=by rw[decide_eq_true_eq];omega
    go_wp2_with fail
    go_loopw [13] (fun x wr=>∃ i:Nat,i<=8/\x=.int .i64 i/\Blk wr g 204 (wrow s)/\Blk wr (g+1) 273 (wrow b)/\Blk wr (g+1+1) 204 #[.int .u32 0,.int .u32 0,.int .u32 0,.int .u32 0,.int .u32 0,.int .u32 0,.int .u32 0,.int .u32 0]/\Blk wr (g+1+1+1) 204 (wrow (mixN b s (8*r+i)))/\Ext w wr) (fun x _=>8-(intOf x).toNat)
    case atStart=>exact⟨0,by omega,rfl,K2.out,K3.out,K4.out,K5.out,he⟩
    case round=>
     clear K2 K3 K4 K5 he
     obtain⟨i,hi,rfl,B2,B3,B4,B5,he⟩:=hrel
     by_cases hlt2:i<8
     · have hvl:=Qi0 b s (8*r+i)
       have hv32:=Qnb b ws (8*r+i)
       have hstep:=Qrp b s r i hlt2
       obtain⟨v,hv⟩:∃ v,v=mixN b s (8*r+i):=⟨_,rfl⟩
       rw[<-hv] at hvl hv32 hstep B5
       have Hstep:=hU hstep
       clear hv hstep
       rw[hs] at hvl
       obtain⟨f2,m2⟩:=B2.rules
       obtain⟨f3,m3⟩:=B3.rules
       obtain⟨f5,m5⟩:=B5.rules
       obtain⟨j1,hj1⟩:∃ j:Nat,j=(i+1) % 8:=⟨_,rfl⟩
       obtain⟨j2,hj2⟩:∃ j:Nat,j=(8*r+5*i+r / 2) % 16:=⟨_,rfl⟩
       obtain⟨j3,hj3⟩:∃ j:Nat,j=(i+3) % 8:=⟨_,rfl⟩
       obtain⟨n4,hn4⟩:∃ j:Nat,j=5+(i+3*r) % 23:=⟨_,rfl⟩
       have e1:((i:Int)+1) % 8=(j1:Int):=by omega
       have e2:(8*(r:Int)+5*(i:Int)+(r:Int) / 2) % 16=(j2:Int):=by omega
       have e3:((i:Int)+3) % 8=(j3:Int):=by omega
       have q0:wr.cell? ⟨g+1+1+1,i,none⟩=some (.int .u32 (gw v i)):=by rw[f5,Qel (by omega)]
       have q1:wr.cell? ⟨g+1+1+1,j1,none⟩=some (.int .u32 (gw v j1)):=by rw[f5,Qel (by omega)]
       have q3:wr.cell? ⟨g+1+1+1,j3,none⟩=some (.int .u32 (gw v j3)):=by rw[f5,Qel (by omega)]
       have q2:wr.cell? ⟨g+1,j2,none⟩=some (.int .u32 (gw b j2)):=by rw[f3,Qel (by omega)]
       have z0:IntKind.i64.wrap (8*(r:Int))=8*(r:Int):=IntWalk.i64_in _ (by omega)
       have z1:IntKind.i64.wrap (8*(r:Int)+(i:Int))=8*(r:Int)+(i:Int):=IntWalk.i64_in _ (by omega)
       have z2:IntKind.i64.wrap ((i:Int)+1)=(i:Int)+1:=IntWalk.i64_in _ (by omega)
       have z3:IntKind.i64.wrap (5*(i:Int))=5*(i:Int):=IntWalk.i64_in _ (by omega)
       have z4:IntKind.i64.wrap (8*(r:Int)+5*(i:Int))=8*(r:Int)+5*(i:Int):=IntWalk.i64_in _ (by omega)
       have z5:IntKind.i64.wrap (8*(r:Int)+5*(i:Int)+(r:Int) / 2)=8*(r:Int)+5*(i:Int)+(r:Int) / 2:=IntWalk.i64_in _ (by omega)
       have z6:IntKind.i64.wrap ((r:Int) / 2)=(r:Int) / 2:=IntWalk.i64_in _ (by omega)
       have t1:Int.tmod ((i:Int)+1) 8=(j1:Int):=by rw[Int.tmod_eq_emod_of_nonneg (by omega)];omega
       have t2:Int.tdiv (r:Int) 2=(r:Int) / 2:=Int.tdiv_eq_ediv_of_nonneg (by omega)
       have t3:Int.tmod (8*(r:Int)+5*(i:Int)+(r:Int) / 2) 16=(j2:Int):=by rw[Int.tmod_eq_emod_of_nonneg (by omega)];omega
       have b1:(j1:Int)<8:=by omega
       have b2:(j2:Int)<16:=by omega
       have b3:(j3:Int)<8:=by omega
       have Hj1:=hU hj1;have Hj2:=hU hj2;have Hj3:=hU hj3;have Hn4:=hU hn4
       clear hj1 hj2 hj3 hn4 e1 e2 e3
       obtain⟨y,hy⟩:∃ y,y=Qhz b v r i:=⟨_,rfl⟩
       have Hyd:=hU hy
       have hy0:0<=y:=by rw[hy];exact(Qf8 _ _ _ _).1
       have hy1:y<4294967296:=by rw[hy];exact(Qf8 _ _ _ _).2
       have Hy:Hid (IntKind.u32.wrap (gw v i+IntKind.u32.wrap (Qr1 (8*(r:Int)+(i:Int))+bits .xor .u32 (gw v j1) (gw b j2)))=y):=
        hU (by rw[hy,Qhz,<-Hj1.out,<-Hj2.out,IntKind.wrap_u32,IntKind.wrap_u32,show((8*r+i:Nat):Int)=8*(r:Int)+(i:Int) by omega];omega)
       clear hy
       clear f2 f3 f5 m2 m3
       go_wp2_with fail
       refine wp_region_still_tail 28 (by kernel_rfl) (by kernel_rfl) ?_
       simp only[List.take_succ_cons,List.take_zero,List.drop_succ_cons,List.drop_zero]
       repeat still_step
       still_call ((Qsj _ _ (by omega) (by omega)).mono (fun _ _ h=>⟨h.1,h.2.symm⟩))
       repeat still_step
       refine wpStill_nil ?_
       change wpList _ _ _ _ _ wr.drew
       rw[Hy.out]
       clear q0 q1 q2 q3 z0 z1 z2 z3 z4 z5 z6 t1 t2 t3
       have x5:wr.cell? ⟨g+1+1+1,i,none⟩=some (.int .u32 (gw v i)):=by rw[B5.cell,Qel (by omega)]
       have m5:=B5.frozen i
       go_wp2_with fail
       have B2':=((B2.far (p:=⟨g+1+1+1,i,none⟩) (by show g≠g+1+1+1;omega) (.int .u32 y))).drew
       have B3':=((B3.far (p:=⟨g+1+1+1,i,none⟩) (by show g+1≠g+1+1+1;omega) (.int .u32 y))).drew
       have B4':=((B4.far (p:=⟨g+1+1+1,i,none⟩) (by show g+1+1≠g+1+1+1;omega) (.int .u32 y))).drew
       have B5':=(B5.set_ i (.int .u32 y)).drew
       have he':Ext w (wr.setCell ⟨g+1+1+1,i,none⟩ (.int .u32 y)).drew:=(Below.setCell he (p:=⟨g+1+1+1,i,none⟩) (by show w.heap.size<=g+1+1+1;omega) _).drew
       rw[Qj2] at B5'
       clear x5 m5 B2 B3 B4 B5 he
       generalize (wr.setCell ⟨g+1+1+1,i,none⟩ (.int .u32 y)).drew=w2 at *
       have f5:=B5'.cell
       have m5:=B5'.frozen i
       have q0:w2.cell? ⟨g+1+1+1,i,none⟩=some (.int .u32 y):=by rw[f5,Qel (by rw[List.length_set];omega),Qnp (by omega)]
       have q3:w2.cell? ⟨g+1+1+1,j3,none⟩=some (.int .u32 (gw v j3)):=by rw[f5,Qel (by rw[List.length_set];omega),Qig (by have:=Hj3.out;omega)]
       obtain⟨n5,hn5⟩:∃ j:Nat,j=(i+3*r) % 23:=⟨_,rfl⟩
       have z0:IntKind.i64.wrap (3*(r:Int))=3*(r:Int):=IntWalk.i64_in _ (by omega)
       have z1:IntKind.i64.wrap ((i:Int)+3*(r:Int))=(i:Int)+3*(r:Int):=IntWalk.i64_in _ (by omega)
       have z2:IntKind.i64.wrap ((i:Int)+3)=(i:Int)+3:=IntWalk.i64_in _ (by omega)
       have z3:IntKind.i64.wrap (5+(n5:Int))=5+(n5:Int):=IntWalk.i64_in _ (by omega)
       have t1:Int.tmod ((i:Int)+3*(r:Int)) 23=(n5:Int):=by rw[Int.tmod_eq_emod_of_nonneg (by omega)];omega
       have t2:Int.tmod ((i:Int)+3) 8=(j3:Int):=by rw[Int.tmod_eq_emod_of_nonneg (by omega)];have:=Hj3.out;omega
       have b5:(n5:Int)<23:=by omega
       have Hn5:=hU hn5
       clear hn5 f5
       refine wp_region_still_tail 18 (by kernel_rfl) (by kernel_rfl) ?_
       simp only[List.take_succ_cons,List.take_zero,List.drop_succ_cons,List.drop_zero]
       repeat still_step
       still_call ((Turn_any _ _ _ hy0 hy1 (by omega) (by omega)).mono (fun _ _ h=>⟨h.1,h.2.symm⟩))
       repeat still_step
       refine wpStill_nil ?_
       change wpList _ _ _ _ _ w2.drew
       obtain⟨z,hz⟩:∃ z,z=Qjm b v r i:=⟨_,rfl⟩
       have hz2:bits .xor .u32 (rotl y (5+(n5:Int)).toNat) (gw v j3)=z:=by
        rw[hz,Qjm,<-Hyd.out,<-Hj3.out,<-Hn5.out,show(5+(n5:Int)).toNat=5+n5 by omega]
       rw[hz2]
       have hfin:(v.set i y).set i z=mixN b s (8*r+(i+1)):=by rw[List.set_set,hz,<-Hstep.out];rfl
       have Hz:=hU hfin
       clear hz hz2 hfin q3 z0 z1 z2 z3 t1 t2
       go_wp2_with fail
       have C2:=((B2'.far (p:=⟨g+1+1+1,i,none⟩) (by show g≠g+1+1+1;omega) (.int .u32 z))).drew
       have C3:=((B3'.far (p:=⟨g+1+1+1,i,none⟩) (by show g+1≠g+1+1+1;omega) (.int .u32 z))).drew
       have C4:=((B4'.far (p:=⟨g+1+1+1,i,none⟩) (by show g+1+1≠g+1+1+1;omega) (.int .u32 z))).drew
       have C5:=(B5'.set_ i (.int .u32 z)).drew
       have ce:Ext w (w2.setCell ⟨g+1+1+1,i,none⟩ (.int .u32 z)).drew:=(Below.setCell he' (p:=⟨g+1+1+1,i,none⟩) (by show w.heap.size<=g+1+1+1;omega) _).drew
       rw[Qj2,Hz.out] at C5
       clear q0 m5 B2' B3' B4' B5' he'
       go_roundw
       case rel=>exact⟨i+1,by omega,by go_num,C2,C3,C4,C5,ce⟩
       case measure=>simp[intOf];omega
     · obtain rfl:i=8:=by omega
       have K2:=hU B2;have K3:=hU B3;have K4:=hU B4;have K5:=hU B5
       clear B2 B3 B4 B5
       go_wp2_with fail
       go_roundw
       case rel=>exact⟨r+1,by omega,by go_num,K2.out,K3.out,K4.out,K5.out,he⟩
       case measure=>simp[intOf];omega
  · have hr12:r=12:=by omega
    have B5:=K5.out
    have hd12:decide ((r:Int)<12)=false:=by rw[decide_eq_false_iff_not];omega
    rw[hr12] at B5
    clear hr12
    obtain⟨v,hv⟩:∃ v,v=mixN b s (8*12):=⟨_,rfl⟩
    have hvl:v.length=8:=by rw[hv,Qi0,hs]
    have Hv:=hU hv
    rw[<-hv] at B5
    have L5:=hU (show Blk wr (g+1+1+1) 204 (wrow (addW s v 0)) from B5)
    clear hv B5 K5
    go_wp2_with fail
    go_loopw [64] (fun x wr=>∃ i:Nat,i<=8/\x=.int .i64 i/\Blk wr g 204 (wrow s)/\Blk wr (g+1+1) 204 #[.int .u32 0,.int .u32 0,.int .u32 0,.int .u32 0,.int .u32 0,.int .u32 0,.int .u32 0,.int .u32 0]/\Blk wr (g+1+1+1) 204 (wrow (addW s v i))/\Ext w wr) (fun x _=>8-(intOf x).toNat)
    case atStart=>exact⟨0,by omega,rfl,K2.out,K4.out,L5.out,he⟩
    case round=>
     clear K2 K3 K4 L5 he
     obtain⟨i,hi,rfl,B2,B4,B5,he⟩:=hrel
     by_cases hlt2:i<8
     · have hal:=Qmm s v i
       have hfar:=Qup s v i i (Nat.le_refl _)
       have hnext:(addW s v i).set i ((gw v i+gw s i) % 4294967296)=addW s v (i+1):=rfl
       obtain⟨u,hu⟩:∃ u,u=addW s v i:=⟨_,rfl⟩
       rw[<-hu] at hal hfar hnext B5
       have q5:wr.cell? ⟨g+1+1+1,i,none⟩=some (.int .u32 (gw v i)):=by rw[B5.cell,Qel (by omega),hfar]
       have q2:wr.cell? ⟨g,i,none⟩=some (.int .u32 (gw s i)):=by rw[B2.cell,Qel (by omega)]
       have m5:=B5.frozen i
       obtain⟨y,hy⟩:∃ y,y=(gw v i+gw s i) % 4294967296:=⟨_,rfl⟩
       have Hy:Hid (IntKind.u32.wrap (gw v i+gw s i)=y):=hU (by rw[hy,IntKind.wrap_u32])
       rw[<-hy] at hnext
       have Hn:=hU hnext
       clear hu hfar hnext hy
       go_wp2_with fail
       refine wp_region_still_tail 8 (by kernel_rfl) (by kernel_rfl) ?_
       simp only[List.take_succ_cons,List.take_zero,List.drop_succ_cons,List.drop_zero]
       repeat still_step
       refine wpStill_nil ?_
       change wpList _ _ _ _ _ wr.drew
       try rw[Hy.out]
       go_wp2_with fail
       have C2:=((B2.far (p:=⟨g+1+1+1,i,none⟩) (by show g≠g+1+1+1;omega) (.int .u32 y))).drew
       have C4:=((B4.far (p:=⟨g+1+1+1,i,none⟩) (by show g+1+1≠g+1+1+1;omega) (.int .u32 y))).drew
       have C5:=(B5.set_ i (.int .u32 y)).drew
       have ce:Ext w (wr.setCell ⟨g+1+1+1,i,none⟩ (.int .u32 y)).drew:=(Below.setCell he (p:=⟨g+1+1+1,i,none⟩) (by show w.heap.size<=g+1+1+1;omega) _).drew
       rw[Qj2,Hn.out] at C5
       clear q2 q5 m5 B2 B4 B5 he
       go_roundw
       case rel=>exact⟨i+1,by omega,by go_num,C2,C4,C5,ce⟩
       case measure=>simp[intOf];omega
     · have hi8:i=8:=by omega
       rw[hi8] at B5
       have hd8:decide ((i:Int)<8)=false:=by rw[decide_eq_false_iff_not];omega
       clear hi8
       have hwl:(addW s v 8).length=8:=by rw[Qmm,hvl]
       have hz:addW s v 8=mixW s b:=by rw[Hv.out];rfl
       obtain⟨f0,f1,f2,f3,f4,f5,f6,f7,hf⟩:=Qqg hwl
       rw[hf] at B5 hz
       have Hz:=hU hz
       clear hz hf hwl Hv
       have B5':Blk wr (g+1+1+1) 204 #[.int .u32 f0,.int .u32 f1,.int .u32 f2,.int .u32 f3,.int .u32 f4,.int .u32 f5,.int .u32 f6,.int .u32 f7]:=B5
       obtain⟨hc,hm⟩:=B5'.rules
       obtain⟨hc4,hm4⟩:=B4.rules
       go_wp2_with fail
       have P:Blk (wr.setCells (g+1+1) 0 [.int .u32 f0,.int .u32 f1,.int .u32 f2,.int .u32 f3,.int .u32 f4,.int .u32 f5,.int .u32 f6,.int .u32 f7]) (g+1+1) 204 #[.int .u32 f0,.int .u32 f1,.int .u32 f2,.int .u32 f3,.int .u32 f4,.int .u32 f5,.int .u32 f6,.int .u32 f7]:=Blk.put B4 0 _ _ (by simp) rfl
       have R2:Ext w (wr.setCells (g+1+1) 0 [.int .u32 f0,.int .u32 f1,.int .u32 f2,.int .u32 f3,.int .u32 f4,.int .u32 f5,.int .u32 f6,.int .u32 f7]):=Qaa (by omega) _ _ _ he
       have R1:fin=#[.int .u32 f0,.int .u32 f1,.int .u32 f2,.int .u32 f3,.int .u32 f4,.int .u32 f5,.int .u32 f6,.int .u32 f7]:=by rw[Hfin.out,<-Hz.out];rfl
       clear hc hm hc4 hm4 B2 B4 B5 B5' he
       rw[R1]
       refine Qdc rfl rfl P Tryz.underlying204 rfl (by kernel_rfl) rfl ?_
       exact⟨rfl,R2⟩
end Go.Proofs.YtbnkjgcpjeedfaaGreat
