/- Formulas of the program's functions, printed by a program of the prover's own (dec.py); each is tied to its code by the kernel. -/
import Derived.Test.YtieneaffjelhhaaGreatVc
import Derived.Test.YtieneaffjelhhaaGreatProg
set_option linter.unusedVariables false
set_option maxRecDepth 1000000
namespace Go.Proofs.YtieneaffjelhhaaGreat
open Go Go.Vc Tryz Vc.H
abbrev I (n:Int):Value:=.int .i64 n
abbrev Bv (o:BinOp) (a b:Value) (A B:Prop):Prop:=Bp o a b λx=>Vif x A B
abbrev KS (a:List Value) (X:Prop):Prop:=KE a a X
abbrev VT0:=Program->World->KT->Prop
abbrev VT1:=Program->Value->World->KT->Prop
abbrev VT2:=Program->Value->Value->World->KT->Prop
abbrev VT3:=Program->Value->Value->Value->World->KT->Prop
abbrev VT4:=Program->Value->Value->Value->Value->World->KT->Prop
abbrev VT5:=Program->Value->Value->Value->Value->Value->World->KT->Prop
variable {a0 a1 a2 a3 a4 a5 a6 a7 a8 a9:Value}
variable {w:World}{R:Value->World->Prop}

def Vz3:VT3:=λP a5 f g w R=>
 New a5 24 w λa6 O=>LdA 4 a6 O λa7=>Cl P 4 #[a7] O λe Q=>Lnl g λa8=>Bv .gtr a8 (I 40) (Cl P 5 #[] Q λa9 b0=>R a9 b0) (Cl P 6 #[e,f] Q λS F=>Ex S 0 λc=>Ex S 1 λk=>Bn P 53 false e (.pointer none) λb1=>Vif b1 (Bv .eql k (I 7) (Bn P 49 false c (.pointer none) λb2=>Vif b2 (Cl P 5 #[] F λb3 b4=>R b3 b4) (R (.bool false) F)) (R (.bool false) F)) (Cl P 7 #[f] F λb5 G=>Up .not b5 λb6=>Vif b6 (Bv .eql k (I 1) (Bn P 49 false c (.pointer none) λb7=>Vif b7 (Cl P 5 #[] G λb8 b9=>R b8 b9) (R (.bool false) G)) (R (.bool false) G)) (Cl P 8 #[e,(.string ⟨#[66,90,104,49,23,114,69,56,80,144,0,0,0,0]⟩)] G λh9 c0=>Cl P 9 #[e] c0 λi0 c1=>Lnl g λp=>VLoop 3 [(I 0),(I 0),(I 0)] c1 λ_ c2 q t m J=>Bv .lss m p (Ias 2 g m λc3=>LdA 2 c3 J λc4=>New (zeroP P 37) 37 J λu c5=>StA 2 u c4 c5 λc6=>Cl P 10 #[e] c6 λU W=>Bmin P #[3,3,3] 3 #[U,q,f] W λy=>Cl P 11 #[c] W λc7 C=>Bp .gtr y (I 0) λc8=>Bb true c7 c8 λc9=>Vif c9 (R (.bool false) C) (VJoin 2 (λ_ L M d0=>VJoin 1 (λ_ d1 Y=>Vif d1 (R (.bool false) Y) (Bp .add m (I 1) λd2=>KS [f,e,c,k,g,p]<|c2 L M d2 Y)) (λJ39=>Cl P 15 #[c] d0 λd3 Z=>Bp .neq d3 L λd4=>Vif d4 (KS [f,e,c,k,L,M,g,p,m]<|J39 (.bool true) Z) (Cl P 16 #[c] Z λd5 d6=>Bp .neq d5 M λd7=>KS [f,e,c,k,L,M,g,p,m]<|J39 d7 d6))) (λJ44=>Fo 0 u λd8=>Ld d8 C λa0=>Bp .eql a0 (I 0) λd9=>Vif d9 (Fo 1 u λe0=>Ld e0 C λe1=>Cl P 12 #[c,e1] C λv D=>VJoin 1 (λ_ e2 E=>Vif e2 (R (.bool false) E) (Bv .eql v (I 0) (Fo 1 u λe3=>Ld e3 E λe4=>Bp .add q e4 λe5=>Bmin P #[3,3] 3 #[e5,(I 1099511627776)] E λe6=>KS [f,e,c,k,g,p,m]<|J44 e6 t E) (KS [f,e,c,k,g,p,m]<|J44 q t E))) (λJ57=>Bp .eql v (I 0) λa1=>Fo 1 u λe7=>Ld e7 D λe8=>Bp .geq e8 (I 0) λe9=>Vif e9 (Fo 1 u λf0=>Ld f0 D λf1=>Bp .leq f1 (I 1099511627776) λf2=>Bb true a1 f2 λf3=>Vif f3 (KS [f,e,c,k,q,t,u,v,g,p,m]<|J57 (.bool true) D) (Bv .neq v (I 0) (Bp .neq v (I 1) λf4=>KS [f,e,c,k,q,t,u,v,g,p,m]<|J57 f4 D) (KS [f,e,c,k,q,t,u,v,g,p,m]<|J57 (.bool false) D))) (Bb true a1 (.bool false) λf5=>Vif f5 (KS [f,e,c,k,q,t,u,v,g,p,m]<|J57 (.bool true) D) (Bv .neq v (I 0) (Bp .neq v (I 1) λf6=>KS [f,e,c,k,q,t,u,v,g,p,m]<|J57 f6 D) (KS [f,e,c,k,q,t,u,v,g,p,m]<|J57 (.bool false) D))))) (Bp .eql a0 (I 1) λf7=>Vif f7 (Cl P 13 #[c] C λa2 N=>Ex a2 0 λf8=>Ex a2 1 λf9=>VJoin 1 (λ_ g0 a3=>Vif g0 (R (.bool false) a3) (Bp .sub q y λg1=>Bp .add t y λg2=>KS [f,e,c,k,g,p,m]<|J44 g1 g2 a3)) (λJ78=>Bp .gtr y (I 0) λg3=>Bb true f9 g3 λg4=>Vif g4 (KS [f,e,c,k,q,t,y,g,p,m]<|J78 (.bool true) N) (Lns f8 λg5=>Bv .neq g5 y (KS [f,e,c,k,q,t,y,g,p,m]<|J78 (.bool true) N) (Cl P 10 #[e] N λg6 g7=>Bp .sub U y λg8=>Bp .neq g6 g8 λg9=>KS [f,e,c,k,q,t,y,g,p,m]<|J78 g9 g7)))) (Fo 1 u λh0=>Ld h0 C λh1=>Bmax P #[3,3] 3 #[h1,(I 0)] C λh2=>Bmin P #[3,3] 3 #[h2,(I 1000)] C λh3=>Cl P 14 #[e,h3] C λi1 h4=>KS [f,e,c,k,g,p,m]<|J44 q t h4))))) (Bp .eql k (I 0) λh5=>Vif h5 (Cl P 16 #[c] J λh6 a4=>Bv .eql h6 t (Cl P 5 #[] a4 λh7 h8=>R h7 h8) (R (.bool false) a4)) (R (.bool false) J)))))
theorem Tz3 (h:Vz3 prog a0 a1 a2 w R):Cl prog 3 #[a0,a1,a2] w R:=
 tz 168 [(.tmp 6)] (s z (s z (s (s z (i (s z z) z)) (s z (s (s z (i (s z z) z)) (s (s z (i (s z z) z)) (s z (s z (s z (s z (s (s z (b (l [10,11,60] [1,7,8,9,58,59] (s z (s (i z z) (s (b (s z (s z (s z (s (s z (i (s z z) z)) (j [10,11] [1,7,8,9,58,59,60] (s z (b (s z (i (s z (s (j [107] [1,7,8,9,10,11,13,16,58,59,60] z (i (s z z) z)) (s z (i z z)))) (s z (i (s z (s (j [139] [1,7,8,9,10,11,15,58,59,60] z (i (s z z) z)) (s z z))) z)))))) (j [155] [1,7,8,9,10,11,58,59,60] z (i (s z z) z)))))))) z)))))) (s z z)))))))))))) [a0,a1,a2] func3 h
def Vz4:VT1:=λP m w R=>
 New m 24 w λc f=>VJoin 1 (λ_ p e=>Vif p (R (.pointer none) e) (Fo 0 c λq=>Ld q e λt=>Fo 1 c λu=>Ld u e λv=>Fo 2 c λy=>Ld y e λC=>Fo 3 c λD=>Ld D e λE=>Cl P 18 #[t,v,C,E] e λk F=>Ex k 0 λG=>Ex k 1 λa2=>R G F)) (λJ14=>Fo 0 c λJ=>Ld J f λL=>Fo 1 c λM=>Ld M f λN=>Fo 2 c λO=>Ld O f λQ=>Fo 3 c λS=>Ld S f λU=>Cl P 17 #[L,N,Q,U] f λW g=>Up .not W λY=>Vif Y (KS [c]<|J14 (.bool true) g) (Fo 2 c λZ=>Ld Z g λa0=>Bp .gtr a0 (I 200) λa1=>KS [c]<|J14 a1 g))
theorem Tz4 (h:Vz4 prog a0 w R):Cl prog 4 #[a0] w R:=
 tz 33 [(.tmp 2)] (s z (s (j [19] [1] z (i (s z z) z)) (s z (s z z)))) [a0] func4 h
def Vz6:VT2:=λP e c w R=>
 Bn P 53 false e (.pointer none) λg=>Vif g (R (.tuple #[(.pointer none),(I 7)]) w) (VJoin 1 (λ_ k f=>Vif k (R (.tuple #[(.pointer none),(I 1)]) f) (Bd P 49 #[(0,e),(1,c)] f λm=>New m 49 f λp q=>R (.tuple #[p,(I 0)]) q)) (λJ5=>Bv .lss c (I 1) (KS [e,c]<|J5 (.bool true) w) (Bp .gtr c (I 4096) λt=>KS [e,c]<|J5 t w)))
theorem Tz6 (h:Vz6 prog a0 a1 w R):Cl prog 6 #[a0,a1] w R:=
 tz 20 [(.tmp 4),(.tmp 5)] (s z (s (b (s z (i (s z z) (j [9] [0,1] z (i (s z z) z))))) (s z z))) [a0,a1] func6 h
def Vz7:VT1:=λP c w R=>
 Bv .geq c (I 1) (Bp .leq c (I 4096) λe=>R e w) (R (.bool false) w)
theorem Tz7 (h:Vz7 prog a0 w R):Cl prog 7 #[a0] w R:=
 tz 9 [(.tmp 2)] (s z (s z z)) [a0] func7 h
def Vz8:VT2:=λP c e w R=>
 VJoin 1 (λ_ g f=>Vif g (R (I 0) f) (Nc c<|Fo 1 c λk=>Ld k f λm=>Inv P (invoke (.fn (.method "Feed") #[]) (#[m] ++ #[e])) f λp q=>R p q)) (λJ5=>Bn P 53 false c (.pointer none) λt=>Vif t (KS [c, e]<|J5 (.bool true) w) (Cl P 20 #[c] w λu v=>KS [c, e]<|J5 u v))
theorem Tz8 (h:Vz8 prog a0 a1 w R):Cl prog 8 #[a0,a1] w R:=
 tz 17 [(.tmp 4)] (s z (s (j [10] [0,1] z (i (s z z) z)) (s z z))) [a0,a1] func8 h
def Vz9:VT1:=λP c w R=>
 Bn P 53 false c (.pointer none) λe=>Vif e (R (I 7) w) (Nc c<|Fo 1 c λf=>Ld f w λg=>Inv P (invoke (.fn (.method "End") #[]) (#[g] ++ #[])) w λk m=>R k m)
theorem Tz9 (h:Vz9 prog a0 w R):Cl prog 9 #[a0] w R:=
 tz 10 [(.tmp 2)] (s z (s (s z (i (s z z) z)) (s z z))) [a0] func9 h
def Vz10:VT1:=λP c w R=>
 VJoin 1 (λ_ f e=>Vif f (R (I 0) e) (Nc c<|Fo 1 c λg=>Ld g e λk=>Inv P (invoke (.fn (.method "Waiting") #[]) (#[k] ++ #[])) e λm p=>R m p)) (λJ5=>Bn P 53 false c (.pointer none) λq=>Vif q (KS [c]<|J5 (.bool true) w) (Cl P 21 #[c] w λt u=>KS [c]<|J5 t u))
theorem Tz10 (h:Vz10 prog a0 w R):Cl prog 10 #[a0] w R:=
 tz 14 [(.tmp 2)] (s z (s (j [8] [0] z (i (s z z) z)) (s z z))) [a0] func10 h
def Vz11:VT1:=λP c w R=>
 Cl P 22 #[c] w λe f=>Bp .gtr e (I 0) λg=>R g f
theorem Tz11 (h:Vz11 prog a0 w R):Cl prog 11 #[a0] w R:=
 tz 6 [(.tmp 2)] (s z (s z z)) [a0] func11 h
def Vz12:VT2:=λP c e w R=>
 Bn P 49 false c (.pointer none) λg=>Vif g (R (I 7) w) (VJoin 1 (λ_ k f=>Vif k (R (I 1) f) (Nc c<|Fo 2 c λm=>Ld m f λp=>Bp .add p e λq=>Bs P 69 1 #[(0,(I 1099511627776))] f λt u=>Cl P 23 #[q,t] u λv y=>Nc c<|Fo 2 c λC=>St C v y λD=>R (I 0) D)) (λJ9=>Bp .lss e (I 0) λE=>Vif E (KS [c,e]<|J9 (.bool true) w) (Bp .gtr e (I 1099511627776) λF=>KS [c,e]<|J9 F w)))
theorem Tz12 (h:Vz12 prog a0 a1 w R):Cl prog 12 #[a0,a1] w R:=
 tz 26 [(.tmp 4)] (s z (s (b (s z (i (s z z) (j [8] [0,1] z (i (s z z) z))))) (s z (s z z)))) [a0,a1] func12 h
def Vz13:VT1:=λP c w R=>
 Cl P 22 #[c] w λe f=>Bv .eql e (I 0) (R (.tuple #[(.string ⟨#[]⟩),(.bool false)]) f) (Nc c<|Fo 2 c λm=>Ld m f λp=>Bp .sub p e λq=>Nc c<|Fo 2 c λt=>St t q f λg=>Nc c<|Fo 3 c λu=>Ld u g λv=>Bp .add v e λy=>Nc c<|Fo 3 c λC=>St C y g λk=>Nc c<|Fo 0 c λD=>Ld D k λE=>Cl P 24 #[E,e] k λF G=>R (.tuple #[F,(.bool true)]) G)
theorem Tz13 (h:Vz13 prog a0 w R):Cl prog 13 #[a0] w R:=
 tz 31 [(.tmp 2),(.tmp 3)] (s z (s z (s (s z (i (s z z) z)) (s z (s z (s z z)))))) [a0] func13 h
def Vz14:VT2:=λP c e w R=>
 Bn P 53 false c (.pointer none) λf=>Vif f (R (I 0) w) (Nc c<|Fo 1 c λg=>Ld g w λk=>Inv P (invoke (.fn (.method "Step") #[]) (#[k] ++ #[e])) w λm p=>R m p)
theorem Tz14 (h:Vz14 prog a0 a1 w R):Cl prog 14 #[a0,a1] w R:=
 tz 13 [(.tmp 4)] (s z (s (s z (i (s z z) z)) (s z z))) [a0,a1] func14 h
def Vz15:VT1:=λP c w R=>
 Bn P 49 false c (.pointer none) λe=>Vif e (R (I 0) w) (Nc c<|Fo 2 c λf=>Ld f w λg=>R g w)
theorem Tz15 (h:Vz15 prog a0 w R):Cl prog 15 #[a0] w R:=
 tz 9 [(.tmp 2)] (s z (s (s z (i (s z z) z)) (s z z))) [a0] func15 h
def Vz16:VT1:=λP c w R=>
 Bn P 49 false c (.pointer none) λe=>Vif e (R (I 0) w) (Nc c<|Fo 3 c λf=>Ld f w λg=>R g w)
theorem Tz16 (h:Vz16 prog a0 w R):Cl prog 16 #[a0] w R:=
 tz 9 [(.tmp 2)] (s z (s (s z (i (s z z) z)) (s z z))) [a0] func16 h
def Vz17:VT4:=λP c g e f w R=>
 Bv .eql c (I 1) (Cl P 25 #[g,e,f] w λk m=>R k m) (Bv .eql c (I 2) (Cl P 26 #[e,f,(I 4096)] w λp q=>R p q) (Bv .eql c (I 3) (Cl P 26 #[e,f,(I 4096)] w λt u=>R t u) (R (.bool false) w)))
theorem Tz17 (h:Vz17 prog a0 a1 a2 a3 w R):Cl prog 17 #[a0,a1,a2,a3] w R:=
 tz 26 [(.tmp 8)] (s z (s (s z (i (s z z) z)) (s z z))) [a0,a1,a2,a3] func17 h
def Vz18:VT4:=λP e k m p w R=>
 Cl P 27 #[e,k,m,p] w λf c=>Ex f 0 λq=>Ex f 1 λg=>Bv .neq g (I 0) (R (.tuple #[(.pointer none),g]) c) (Bd P 53 #[(0,e),(1,q)] c λt=>New t 53 c λu v=>R (.tuple #[u,(I 0)]) v)
theorem Tz18 (h:Vz18 prog a0 a1 a2 a3 w R):Cl prog 18 #[a0,a1,a2,a3] w R:=
 tz 27 [(.tmp 8),(.tmp 9)] (s z (s z (s (s z (i (s z z) z)) (s z z)))) [a0,a1,a2,a3] func18 h
def Vz20:VT1:=λP c w R=>
 Bn P 53 true c (.pointer none) λe=>Vif e (Nc c<|Fo 1 c λf=>Ld f w λg=>Inv P (invoke (.fn (.method "Done") #[]) (#[g] ++ #[])) w λk m=>R k m) (R (.bool false) w)
theorem Tz20 (h:Vz20 prog a0 w R):Cl prog 20 #[a0] w R:=
 tz 12 [(.tmp 2)] (s z (s z z)) [a0] func20 h
def Vz21:VT1:=λP c w R=>
 Cl P 34 #[c] w λe f=>Bp .neq e (I 0) λg=>R g f
theorem Tz21 (h:Vz21 prog a0 w R):Cl prog 21 #[a0] w R:=
 tz 6 [(.tmp 2)] (s z (s z z)) [a0] func21 h
def Vz22:VT1:=λP c w R=>
 Bn P 49 false c (.pointer none) λL=>Vif L (R (I 0) w) (Dr w λe=>(Nc c<|Fo 0 c λk=>Ld k e λm=>Cl P 10 #[m] e λM f=>Nc c<|Fo 2 c λp=>Ld p f λq=>Rk (λw K=>Ld p w λN=>K N) q e<|Nc c<|Fo 1 c λt=>Ld t f λu=>Rk (λw K=>Ld t w λO=>K O) u e<|Bs P 69 2 #[(0,q),(1,u)] f λQ v=>Rk (λw K=>Ld k w λS=>K S) m v<|Cl P 23 #[M,Q] v λU W=>R U W)/\(Nc c<|Fo 0 c λy=>Ld y e λC=>Nc c<|Fo 2 c λD=>Ld D e λE=>Nc c<|Fo 1 c λF=>Ld F e λG=>Bs P 69 2 #[(0,E),(1,G)] e λY J=>Rk (λw K=>Ld y w λZ=>K Z) C J<|Cl P 10 #[C] J λa0 g=>Rk (λw K=>Ld F w λa1=>K a1) G g<|Rk (λw K=>Ld D w λa2=>K a2) E g<|Cl P 23 #[a0,Y] g λa3 a4=>R a3 a4))
theorem Tz22 (h:Vz22 prog a0 w R):Cl prog 22 #[a0] w R:=
 tz 20 [(.tmp 2)] (s z (s (s z (i (s z z) z)) (s (r (.two [0,1,3,7,15,0,32,96,224,0,512,1536,3584,8160,16383,32767] 4 13 [0,1,2,3,4,5,6,7,8,9,10,11,12,13,14,15] [0,1,2,3,5,6,7,8,9,10,11,12,13,4,14,15])) z))) [a0] func22 h
def Vz23:VT2:=λP m e w R=>
 Lnl e λg=>VLoop 2 [m,(I 0)] w λ_ p k f c=>Bv .lss f g (Ias 1 e f λq=>Ld q c λt=>Bmin P #[3,3] 3 #[k,t] c λu=>Bp .add f (I 1) λv=>KS [e,g]<|p u v c) (R k c)
theorem Tz23 (h:Vz23 prog a0 a1 w R):Cl prog 23 #[a0,a1] w R:=
 tz 18 [(.tmp 4)] (s z (s (s z (b (l [0,9] [7,8] (s z (s (i z z) (s (b (s z z)) z)))))) (s z z))) [a0,a1] func23 h
def Vz24:VT2:=λP c e w R=>
 VJoin 1 (λ_ g f=>Vif g (R (.string ⟨#[]⟩) f) (Nc c<|Fo 1 c λk=>Ld k f λm=>Inv P (invoke (.fn (.method "Take") #[]) (#[m] ++ #[e])) f λp q=>R p q)) (λJ5=>Bn P 53 false c (.pointer none) λt=>Vif t (KS [c, e]<|J5 (.bool true) w) (Cl P 21 #[c] w λu v=>KS [c, e]<|J5 u v))
theorem Tz24 (h:Vz24 prog a0 a1 w R):Cl prog 24 #[a0,a1] w R:=
 tz 17 [(.tmp 4)] (s z (s (j [10] [0,1] z (i (s z z) z)) (s z z))) [a0,a1] func24 h
def Vz25:VT3:=λP g k e w R=>
 Cl P 35 #[g] w λm f=>Vif m (Cl P 36 #[k] f λp c=>Vif p (Bv .geq e (I 64) (Bp .leq e (I 1048576) λq=>R q c) (R (.bool false) c)) (R (.bool false) c)) (R (.bool false) f)
theorem Tz25 (h:Vz25 prog a0 a1 a2 w R):Cl prog 25 #[a0,a1,a2] w R:=
 tz 21 [(.tmp 6)] (s z (s z z)) [a0,a1,a2] func25 h
def Vz26:VT3:=λP g e f w R=>
 Cl P 36 #[g] w λk c=>Vif k (Bv .geq e (I 64) (Bv .leq e (I 1048576) (Bv .geq f (I 1) (Bp .leq f (I 65536) λm=>R m c) (R (.bool false) c)) (R (.bool false) c)) (R (.bool false) c)) (R (.bool false) c)
theorem Tz26 (h:Vz26 prog a0 a1 a2 w R):Cl prog 26 #[a0,a1,a2] w R:=
 tz 25 [(.tmp 6)] (s z (s z z)) [a0,a1,a2] func26 h
def Vz27:VT4:=λP c p e f w R=>
 Bv .eql c (I 1) (Cl P 37 #[p,e,f] w λg q=>Ex g 0 λt=>Ex g 1 λu=>R (.tuple #[(.iface 70 t),u]) q) (Bv .eql c (I 2) (Cl P 38 #[e,f,(I 4096)] w λk v=>Ex k 0 λy=>Ex k 1 λC=>R (.tuple #[(.iface 73 y),C]) v) (Bv .eql c (I 3) (Cl P 39 #[e,f] w λm D=>Ex m 0 λE=>Ex m 1 λF=>R (.tuple #[(.iface 76 E),F]) D) (R (.tuple #[.nilIface,(I 1)]) w)))
theorem Tz27 (h:Vz27 prog a0 a1 a2 a3 w R):Cl prog 27 #[a0,a1,a2,a3] w R:=
 tz 51 [(.tmp 8),(.tmp 9)] (s z (s (s z (b (s z (i (s z (s z z)) (s z (i (s z (s z z)) (s z (i (s z (s z z)) z)))))))) (s z z))) [a0,a1,a2,a3] func27 h
def Vz34:VT1:=λP c w R=>
 Bn P 53 false c (.pointer none) λf=>Vif f (R (I 0) w) (Nc c<|Fo 1 c λg=>Ld g w λk=>Ta P k 51 95 true w λe=>Ex e 0 λm=>Ex e 1 λp=>Vif p (Inv P (invoke (.fn (.method "Err") #[]) (#[m] ++ #[])) w λq t=>R q t) (R (I 0) w))
theorem Tz34 (h:Vz34 prog a0 w R):Cl prog 34 #[a0] w R:=
 tz 18 [(.tmp 2)] (s z (s (s z (i (s z z) z)) (s (s z (s z (i (s z z) z))) (s z z)))) [a0] func34 h
def Vz35:VT1:=λP c w R=>
 Bv .geq c (I 1) (Bp .leq c (I 9) λe=>R e w) (R (.bool false) w)
theorem Tz35 (h:Vz35 prog a0 w R):Cl prog 35 #[a0] w R:=
 tz 9 [(.tmp 2)] (s z (s z z)) [a0] func35 h
def Vz36:VT1:=λP c w R=>
 Bv .geq c (I 24) (Bp .leq c (I 100000) λe=>R e w) (R (.bool false) w)
theorem Tz36 (h:Vz36 prog a0 w R):Cl prog 36 #[a0] w R:=
 tz 9 [(.tmp 2)] (s z (s z z)) [a0] func36 h
def Vz37:VT3:=λP c v e w R=>
 Cl P 50 #[c,v] w λg k=>Ex g 0 λf=>Ex g 1 λy=>VJoin 1 (λ_ C m=>Vif C (R (.tuple #[(.pointer none),(I 1)]) m) (Cl P 52 #[f] m λp D=>Ex p 0 λE=>Ex p 1 λS=>Cl P 53 #[c] D λq F=>Ex q 0 λt=>Ex q 1 λU=>Cl P 54 #[t] F λG u=>Bd P 109 #[(0,e),(3,E),(8,t),(9,G)] u λJ=>New J 109 u λL M=>R (.tuple #[L,(I 0)]) M)) (λJ14=>Bv .neq y (I 0) (KS [c,e,f]<|J14 (.bool true) k) (Cl P 51 #[e] k λN O=>Up .not N λQ=>KS [c,e,f]<|J14 Q O))
theorem Tz37 (h:Vz37 prog a0 a1 a2 w R):Cl prog 37 #[a0,a1,a2] w R:=
 tz 44 [(.tmp 6),(.tmp 7)] (s z (s z (s (j [26] [0,2,8] z (i (s z z) z)) (s z (s z (s z z)))))) [a0,a1,a2] func37 h
def Vz38:VT3:=λP q c e w R=>
 Cl P 55 #[q] w λg k=>Ex g 0 λf=>Ex g 1 λt=>VJoin 1 (λ_ u m=>Vif u (R (.tuple #[(.pointer none),(I 1)]) m) (Cl P 57 #[(.string ⟨#[]⟩)] m λv p=>Bd P 118 #[(0,c),(1,e),(3,v),(4,f)] p λy=>New y 118 p λC D=>R (.tuple #[C,(I 0)]) D)) (λJ8=>Bv .neq t (I 0) (KS [c,e,f]<|J8 (.bool true) k) (Cl P 56 #[c,e] k λE F=>Up .not E λG=>KS [c,e,f]<|J8 G F))
theorem Tz38 (h:Vz38 prog a0 a1 a2 w R):Cl prog 38 #[a0,a1,a2] w R:=
 tz 29 [(.tmp 6),(.tmp 7)] (s z (s z (s (j [22] [1,2,8] z (i (s z z) z)) (s z z)))) [a0,a1,a2] func38 h
def Vz39:VT2:=λP g k w R=>
 Cl P 38 #[g,k,(I 4096)] w λe c=>Ex e 0 λm=>Ex e 1 λf=>Bv .neq f (I 0) (R (.tuple #[(.pointer none),f]) c) (Bd P 120 #[(0,m)] c λp=>Bd P 122 #[(0,p)] c λq=>New q 122 c λt u=>R (.tuple #[t,(I 0)]) u)
theorem Tz39 (h:Vz39 prog a0 a1 w R):Cl prog 39 #[a0,a1] w R:=
 tz 21 [(.tmp 4),(.tmp 5)] (s z (s z (s (s z (i (s z z) z)) (s z z)))) [a0,a1] func39 h
def Vz50:VT2:=λP c e w R=>
 VJoin 1 (λ_ g f=>Vif g (R (.tuple #[(I 0),(I 1)]) f) (Bp .mul c e λk=>Bp .sub k (I 19) λm=>R (.tuple #[m,(I 0)]) f)) (λJ4=>Bp .lss c (I 1) λp=>Vif p (KS [c,e]<|J4 (.bool true) w) (Bv .gtr c (I 9) (KS [c,e]<|J4 (.bool true) w) (Bv .lss e (I 24) (KS [c,e]<|J4 (.bool true) w) (Bp .gtr e (I 100000) λq=>KS [c,e]<|J4 q w))))
theorem Tz50 (h:Vz50 prog a0 a1 w R):Cl prog 50 #[a0,a1] w R:=
 tz 24 [(.tmp 4),(.tmp 5)] (s z (s (j [19] [0,1] z (i (s z z) z)) (s z z))) [a0,a1] func50 h
def Vz51:VT1:=λP c w R=>
 Bv .geq c (I 64) (Bp .leq c (I 1048576) λe=>R e w) (R (.bool false) w)
theorem Tz51 (h:Vz51 prog a0 w R):Cl prog 51 #[a0] w R:=
 tz 9 [(.tmp 2)] (s z (s z z)) [a0] func51 h
def Vz52:VT1:=λP c w R=>
 VJoin 1 (λ_ k e=>Vif k (R (.tuple #[(.pointer none),(I 1)]) e) (Cl P 69 #[] e λm f=>Bd P 134 #[(1,m)] f λp=>Cl P 70 #[] f λq g=>Bd P 138 #[(0,p),(1,c),(2,q)] g λt=>New t 138 g λu v=>R (.tuple #[u,(I 0)]) v)) (λJ7=>Bv .lss c (I 5) (KS [c]<|J7 (.bool true) w) (Bp .gtr c (I 900000) λy=>KS [c]<|J7 y w))
theorem Tz52 (h:Vz52 prog a0 w R):Cl prog 52 #[a0] w R:=
 tz 16 [(.tmp 2),(.tmp 3)] (s z (s (j [9] [0] z (i (s z z) z)) (s z z))) [a0] func52 h
def Vz53:VT1:=λP c w R=>
 VJoin 1 (λ_ q k=>Vif q (R (.tuple #[(.pointer none),(I 1)]) k) (Cl P 71 #[] k λt m=>Bd P 142 #[(0,t)] m λu=>New u 142 m λe v=>VLoop 1 [(I 0)] v λ_ y f g=>Bv .lss f (I 3) (Dr g λp=>Nc e<|Fo 0 e λC=>Ld C p λD=>Ixs (.string ⟨#[66,90,104]⟩) f λE=>Ci .u32 E λF=>Cl P 72 #[D,F,(I 8)] p λW G=>Bp .add f (I 1) λJ=>KS [c,e]<|y J G) (Nc e<|Fo 0 e λL=>Ld L g λM=>Bp .add (I 48) c λN=>Ci .u32 N λO=>Cl P 72 #[M,O,(I 8)] g λY Q=>R (.tuple #[e,(I 0)]) Q))) (λJ20=>Bp .lss c (I 1) λS=>Vif S (KS [c]<|J20 (.bool true) w) (Bp .gtr c (I 9) λU=>KS [c]<|J20 U w))
theorem Tz53 (h:Vz53 prog a0 w R):Cl prog 53 #[a0] w R:=
 tz 36 [(.tmp 2),(.tmp 3)] (s z (s (j [11] [0] z (i (s z z) z)) (s z (s (s z (b (l [15] [0,4] (s z (s (i z z) (s (b (s z (r (.staged [0,1,3,7,0,16,48,127])))) z)))))) (s z (s z z)))))) [a0] func53 h
def Vz54:VT1:=λP c w R=>
 Bn P 142 false c (.pointer none) λe=>Vif e (R (.string ⟨#[]⟩) w) (Nc c<|Fo 0 c λf=>Ld f w λg=>Cl P 73 #[g] w λk m=>R k m)
theorem Tz54 (h:Vz54 prog a0 w R):Cl prog 54 #[a0] w R:=
 tz 10 [(.tmp 2)] (s z (s (s z (i (s z z) z)) (s z z))) [a0] func54 h
def Vz55:VT1:=λP e w R=>
 Cl P 50 #[(I 1),e] w λf c=>Ex f 0 λq=>Ex f 1 λg=>Bv .neq g (I 0) (R (.tuple #[(.pointer none),g]) c) (Bd P 148 #[(0,e)] c λk=>New k 148 c λm p=>R (.tuple #[m,(I 0)]) p)
theorem Tz55 (h:Vz55 prog a0 w R):Cl prog 55 #[a0] w R:=
 tz 17 [(.tmp 2),(.tmp 3)] (s z (s (s z (s z (i (s z z) z))) (s z z))) [a0] func55 h
def Vz56:VT2:=λP c e w R=>
 Bv .geq c (I 64) (Bv .leq c (I 1048576) (Bv .geq e (I 1) (Bp .leq e (I 65536) λf=>R f w) (R (.bool false) w)) (R (.bool false) w)) (R (.bool false) w)
theorem Tz56 (h:Vz56 prog a0 a1 w R):Cl prog 56 #[a0,a1] w R:=
 tz 19 [(.tmp 4)] (s z (s z z)) [a0,a1] func56 h
def Vz57:VT1:=λP c w R=>
 Bd P 150 #[(0,c)] w λe=>New e 150 w λf g=>R f g
theorem Tz57 (h:Vz57 prog a0 w R):Cl prog 57 #[a0] w R:=
 tz 6 [(.tmp 2)] (s z (s z z)) [a0] func57 h
def Vz69:VT0:=λP w R=>
 Cl P 86 #[] w λe c=>Bd P 169 #[(0,e),(1,(.int .u32 4294967295))] c λf=>New f 169 c λg k=>R g k
theorem Tz69 (h:Vz69 prog w R):Cl prog 69 #[] w R:=
 tz 4 [(.tmp 0)] (s z (s z z)) [] func69 h
def Vz70:VT0:=λP w R=>
 Bd P 171 #[] w λc=>New c 171 w λe f=>R e f
theorem Tz70 (h:Vz70 prog w R):Cl prog 70 #[] w R:=
 tz 3 [(.tmp 0)] (s z (s z z)) [] func70 h
def Vz71:VT0:=λP w R=>
 Bd P 173 #[] w λc=>New c 173 w λe f=>R e f
theorem Tz71 (h:Vz71 prog w R):Cl prog 71 #[] w R:=
 tz 3 [(.tmp 0)] (s z (s z z)) [] func71 h
def Vz72:VT3:=λP e f c w R=>
 Bn P 173 false e (.pointer none) λp=>Vif p (R (I 7) w) (Cl P 87 #[f,c] w λq k=>Up .not q λt=>Vif t (R (I 1) k) (VLoop 1 [(I 0)] k λ_ u g m=>Bv .lss g c (Bp .sub c (I 1) λv=>Bp .sub v g λy=>Bp .shr f y λC=>Bp .and C (.int .u32 1) λD=>Ci .u8 D λE=>Cl P 88 #[e,E] m λJ F=>Bp .add g (I 1) λG=>KS [e,f,c,c]<|u G F) (R (I 0) m)))
theorem Tz72 (h:Vz72 prog a0 a1 a2 w R):Cl prog 72 #[a0,a1,a2] w R:=
 tz 31 [(.tmp 6)] (s z (s (b (s z (i (s z z) (s z (i (s z z) z))))) (s (s z (b (l [17] [0,1,2,16] (s z (s (i z z) (s (b (s z z)) z)))))) (s z z)))) [a0,a1,a2] func72 h
def Vz73:VT1:=λP c w R=>
 Bn P 173 false c (.pointer none) λe=>Vif e (R (.string ⟨#[]⟩) w) (Nc c<|Fo 0 c λf=>Ld f w λg=>Cw P 84 9 g w λk m=>Nc c<|Fo 0 c λp=>St p (.slice none 0 0) m λq=>R k q)
theorem Tz73 (h:Vz73 prog a0 w R):Cl prog 73 #[a0] w R:=
 tz 15 [(.tmp 2)] (s z (s (s z (i (s z z) z)) (s z (s z (s z z))))) [a0] func73 h
def Vz86:VT0:=λP w R=>
 New (zeroP P 166) 166 w λe t=>New (zeroP P 166) 166 t λf u=>VLoop 1 [(I 0)] u λ_ v c g=>Bv .lss c (I 256) (Ci .u32 c λy=>Bp .shl y (.int .u64 24) λC=>VLoop 2 [C,(I 0)] g λ_ D k m p=>Bp .lss m (I 8) λE=>Vif E (Bp .shr k (.int .u64 31) λF=>Bp .shl k (.int .u64 1) λG=>Bp .mul F (.int .u32 79764919) λJ=>Bp .xor G J λL=>Bp .add m (I 1) λM=>KS [e,f,c,c]<|D L M p) (Iaa 256 1 f c λN=>St N k p λO=>Bp .add c (I 1) λQ=>KS [e,f]<|v Q O)) (LdA 256 f g λS=>StA 256 e S g λq=>LdA 256 e q λU=>R U q)
theorem Tz86 (h:Vz86 prog w R):Cl prog 86 #[] w R:=
 tz 26 [(.cell 0 166)] (s z (s z (s (s z (b (l [5] [0,1] (s z (s (i z z) (s (b (s z (s z (s (s z (b (l [3,11] [0,1,2,5] (s z (s (i z z) (s (b (s z z)) z)))))) z)))) z)))))) (s z z)))) [] func86 h
def Vz87:VT2:=λP e c w R=>
 Bv .geq c (I 0) (Bv .leq c (I 32) (Ci .u64 e λf=>Bp .shr f c λg=>Bp .eql g (.int .u64 0) λk=>R k w) (R (.bool false) w)) (R (.bool false) w)
theorem Tz87 (h:Vz87 prog a0 a1 w R):Cl prog 87 #[a0,a1] w R:=
 tz 18 [(.tmp 4)] (s z (s z z)) [a0,a1] func87 h
def Vz88:VT2:=λP c u w R=>
 Nc c<|Fo 2 c λv=>Ld v w λy=>Bp .rem y (I 8) λf=>Dr w λg=>Nc c<|Fo 1 c λC=>Ld C g λD=>Bp .sub (I 7) f λE=>Bp .shl u E λF=>Bp .or D F λG=>Nc c<|Fo 1 c λJ=>St J G g λk=>Nc c<|Fo 2 c λL=>Ld L k λM=>Bp .add M (I 1) λN=>Nc c<|Fo 2 c λO=>St O N k λm=>Bp .eql f (I 7) λQ=>Vif Q (Dr m λe=>Nc c<|Fo 0 c λp=>Ld p e λq=>Nc c<|Fo 1 c λS=>Ld S e λU=>Bs P 84 1 #[(0,U)] e λW t=>Rk (λw K=>Ld p w λY=>K Y) q t<|Ap P #[84,84] 84 #[q,W] t λZ a0=>Nc c<|Fo 0 c λa1=>St a1 Z a0 λa2=>Nc c<|Fo 1 c λa3=>St a3 (.int .u8 0) a2 λa4=>R (.tuple #[]) a4) (R (.tuple #[]) m)
theorem Tz88 (h:Vz88 prog a0 a1 w R):Cl prog 88 #[a0,a1] w R:=
 tz 46 [] (s z (s (r (.staged [0,1,3,7,0,0,32,112,255,511,1023,2047])) (s z (s z (i (s (r (.staged [0,0,2,6,14,0,32,96,224,480,1022,2047,4095,8191])) z) z))))) [a0,a1] func88 h
def Vz122:VT1:=λP c w R=>
 Bn P 109 true c (.pointer none) λe=>Vif e (Nc c<|Fo 10 c λf=>Ld f w λg=>R g w) (R (.bool false) w)
theorem Tz122 (h:Vz122 prog a0 w R):Cl prog 122 #[a0] w R:=
 tz 11 [(.tmp 2)] (s z (s z z)) [a0] func122 h
def Vz123:VT1:=λP c w R=>
 VJoin 1 (λ_ f e=>Vif f (R (I 7) e) (Nc c<|Fo 2 c λg=>St g (.bool true) e λk=>Cl P 131 #[c] k λu m=>R (I 0) m)) (λJ4=>Bn P 109 false c (.pointer none) λp=>Vif p (KS [c]<|J4 (.bool true) w) (Nc c<|Fo 2 c λq=>Ld q w λt=>KS [c]<|J4 t w))
theorem Tz123 (h:Vz123 prog a0 w R):Cl prog 123 #[a0] w R:=
 tz 16 [(.tmp 2)] (s z (s (j [10] [0] z (i (s z z) z)) (s z (s z (s z z))))) [a0] func123 h
def Vz124:VT2:=λP c e w R=>
 VJoin 1 (λ_ p g=>Vif p (R (I 0) g) (Dr g λf=>Lns e λq=>Nc c<|Fo 0 c λt=>Ld t f λu=>Nc c<|Fo 1 c λv=>Ld v f λy=>Lns y λC=>Bp .sub u C λD=>Bmin P #[3,3] 3 #[q,D] f λk=>Dr f λm=>Nc c<|Fo 1 c λE=>Ld E m λF=>Sst e none (some k) λG=>Bp .add F G λJ=>Nc c<|Fo 1 c λL=>St L J m λM=>R k M)) (λJ22=>Bn P 109 false c (.pointer none) λN=>Vif N (KS [c,e]<|J22 (.bool true) w) (Nc c<|Fo 2 c λO=>Ld O w λQ=>KS [c,e]<|J22 Q w))
theorem Tz124 (h:Vz124 prog a0 a1 w R):Cl prog 124 #[a0,a1] w R:=
 tz 38 [(.tmp 4)] (s z (s (j [13] [0,1] z (i (s z z) z)) (s (r (.staged [0,1,0,4,12,28,0,64,192,448,960,2044,4095,8191])) (s (r (.staged [0,1,3,7,0,0,48,127,255,511,1023])) (s z z))))) [a0,a1] func124 h
def Vz126:VT2:=λP c f w R=>
 VLoop 1 [(I 0)] w λ_ m e k=>VJoin 1 (λ_ p g=>Vif p (Bp .sub f e λq=>Cl P 132 #[c,q] g λt u=>Bp .add e t λv=>KS [c,f]<|m v u) (Bn P 109 true c (.pointer none) λy=>Vif y (Nc c<|Fo 11 c λC=>Ld C g λD=>Bp .add D e λE=>Nc c<|Fo 11 c λF=>St F E g λG=>R e G) (R e g))) (λJ12=>Bp .lss e f λJ=>Vif J (Cl P 128 #[c] k λL M=>Up .not L λN=>KS [c,f,e]<|J12 N M) (KS [c,f,e]<|J12 (.bool false) k))
theorem Tz126 (h:Vz126 prog a0 a1 w R):Cl prog 126 #[a0,a1] w R:=
 tz 32 [(.tmp 4)] (s z (s z (s (b (l [5] [0,1] (s (j [13] [0,1,5] z (i z z)) (b z)))) (s (s z (i z z)) (s z z))))) [a0,a1] func126 h
def Vz128:VT1:=λP c w R=>
 VJoin 1 (λ_ k g=>Vif k (R (.bool true) g) (Cl P 133 #[c] g λm e=>Vif m (Nc c<|Fo 9 c λp=>Ld p e λq=>Bp .neq q (.string ⟨#[]⟩) λt=>R t e) (Cl P 134 #[c] e λu f=>Up .not u λv=>Vif v (Nc c<|Fo 1 c λy=>Ld y f λC=>Bp .eql C (.string ⟨#[]⟩) λD=>R D f) (R (.bool false) f)))) (λJ11=>Bn P 109 false c (.pointer none) λE=>Vif E (KS [c]<|J11 (.bool true) w) (Nc c<|Fo 10 c λF=>Ld F w λG=>KS [c]<|J11 G w))
theorem Tz128 (h:Vz128 prog a0 w R):Cl prog 128 #[a0] w R:=
 tz 30 [(.tmp 2)] (s z (s (b (j [3] [0] z (i (s z z) (s z (i (s z z) z))))) (s z z))) [a0] func128 h
def Vz129:VT2:=λP c f w R=>
 VJoin 1 (λ_ k e=>Vif k (R (.string ⟨#[]⟩) e) (Nc c<|Fo 9 c λm=>Ld m e λp=>Lns p λq=>Bmin P #[3,3] 3 #[f,q] e λg=>Nc c<|Fo 9 c λt=>Ld t e λu=>Sst u none (some g) λv=>Nc c<|Fo 9 c λy=>Ld y e λC=>Sst C (some g) none λD=>Nc c<|Fo 9 c λE=>St E D e λF=>R v F)) (λJ13=>Bn P 109 false c (.pointer none) λG=>Vif G (KS [c,f]<|J13 (.bool true) w) (Bp .lss f (I 1) λJ=>KS [c,f]<|J13 J w))
theorem Tz129 (h:Vz129 prog a0 a1 w R):Cl prog 129 #[a0,a1] w R:=
 tz 36 [(.tmp 4)] (s z (s (j [12] [0,1] z (i (s z z) z)) (s z (s z (s z (s z z)))))) [a0,a1] func129 h
def Vz130:VT1:=λP c w R=>
 Bn P 109 false c (.pointer none) λe=>Vif e (R (I 0) w) (Nc c<|Fo 9 c λf=>Ld f w λg=>Lns g λk=>R k w)
theorem Tz130 (h:Vz130 prog a0 w R):Cl prog 130 #[a0] w R:=
 tz 10 [(.tmp 2)] (s z (s (s z (i (s z z) z)) (s z z))) [a0] func130 h
def Vz131:VT1:=λP c w R=>
 VJoin 1 (λ_ p f=>Vif p (Dr f λe=>Nc c<|Fo 5 c λg=>Ld g e λk=>Nc c<|Fo 3 c λq=>Ld q e λt=>Cl P 135 #[t] e λu m=>Rk (λw K=>Ld g w λv=>K v) k m<|Ap P #[106,106] 106 #[k,u] m λy C=>Nc c<|Fo 5 c λD=>St D y C λE=>Nc c<|Fo 4 c λF=>St F (.bool true) E λG=>R (.tuple #[]) G) (R (.tuple #[]) f)) (λJ12=>Nc c<|Fo 2 c λJ=>Ld J w λL=>Vif L (Nc c<|Fo 1 c λM=>Ld M w λN=>Bv .eql N (.string ⟨#[]⟩) (Nc c<|Fo 4 c λO=>Ld O w λQ=>Up .not Q λS=>KS [c]<|J12 S w) (KS [c]<|J12 (.bool false) w)) (KS [c]<|J12 (.bool false) w))
theorem Tz131 (h:Vz131 prog a0 w R):Cl prog 131 #[a0] w R:=
 tz 36 [] (j [19] [0] z (i (s (r (.staged [0,0,2,6,14,0,32,96,224,480,1022,2047,4095,8191])) z) z)) [a0] func131 h
def Vz132:VT2:=λP c f w R=>
 Cl P 134 #[c] w λv e=>Vif v (VJoin 0 (λ_ m=>Nc c<|Fo 6 c λy=>Ld y m λC=>Cl P 137 #[C] m λD g=>Up .not D λE=>Vif E (Nc c<|Fo 6 c λF=>Ld F g λG=>Cl P 138 #[G,f] g λJ L=>R J L) (Cl P 139 #[c] g λb9 M=>R (I 1) M)) (λJ10=>Nc c<|Fo 6 c λN=>Ld N e λO=>Bn P 218 false O (.pointer none) λQ=>Vif Q (Nc c<|Fo 5 c λS=>Ld S e λU=>Ias 3 U (I 0) λW=>Fo 0 W λY=>Ld Y e λZ=>Cl P 136 #[Z] e λp a0=>Ex p 0 λa1=>Ex p 1 λc0=>Nc c<|Fo 6 c λa2=>St a2 a1 a0 λa3=>KS [c,f]<|J10 a3) (KS [c,f]<|J10 e))) (Nc c<|Fo 1 c λa4=>Ld a4 e λa5=>Bv .neq a5 (.string ⟨#[]⟩) (Cl P 140 #[c] e λc1 a6=>R (I 1) a6) (Nc c<|Fo 8 c λa7=>Ld a7 e λa8=>Cl P 141 #[a8] e λc2 a9=>Dr a9 λk=>Nc c<|Fo 9 c λq=>Ld q k λt=>Nc c<|Fo 8 c λb0=>Ld b0 k λb1=>Cl P 54 #[b1] k λb2 u=>Rk (λw K=>Ld q w λb3=>K b3) t u<|Bp .add t b2 λb4=>Nc c<|Fo 9 c λb5=>St b5 b4 u λb6=>Nc c<|Fo 10 c λb7=>St b7 (.bool true) b6 λb8=>R (I 1) b8))
theorem Tz132 (h:Vz132 prog a0 a1 w R):Cl prog 132 #[a0,a1] w R:=
 tz 72 [(.tmp 4)] (s z (s (b (s z (i (j [] [0,1] (s z (i (s z z) z)) (s (s z (i (s z z) z)) z)) (s z (i z (s z (s (r (.staged [0,1,3,7,0,16,48,112,240,511,1023,2047,4095])) z))))))) (s z z))) [a0,a1] func132 h
def Vz133:VT1:=λP c w R=>
 Cl P 134 #[c] w λk g=>Vif k (Dr g λf=>Nc c<|Fo 6 c λm=>Ld m f λp=>Bn P 218 true p (.pointer none) λq=>Vif q (Nc c<|Fo 6 c λt=>Ld t f λu=>Cl P 137 #[u] f λv e=>Vif v (Nc c<|Fo 7 c λy=>Ld y e λC=>Nc c<|Fo 5 c λD=>Ld D e λE=>Ias 3 E (I 0) λF=>Fo 0 F λG=>Ld G e λJ=>Lns J λL=>Bp .sub L (I 1) λM=>Bp .eql C M λN=>R N e) (R (.bool false) e)) (R (.bool false) f)) (Nc c<|Fo 4 c λO=>Ld O g λQ=>R Q g)
theorem Tz133 (h:Vz133 prog a0 w R):Cl prog 133 #[a0] w R:=
 tz 37 [(.tmp 2)] (s z (s (s z (i (s (r (.staged [0,1,3,7,15,31,63,127,255,511,1023,2047,4095,8191,16383,32767,65535,8191,139263,401407,925695,1974271,4071423,8265727,16654335,33431551,67108863,134217727,268435455])) z) z)) (s z z))) [a0] func133 h
def Vz134:VT1:=λP c w R=>
 Nc c<|Fo 5 c λe=>Ld e w λf=>Lnl f λg=>Bp .gtr g (I 0) λk=>R k w
theorem Tz134 (h:Vz134 prog a0 w R):Cl prog 134 #[a0] w R:=
 tz 9 [(.tmp 2)] (s z (s z z)) [a0] func134 h
def Vz135:VT1:=λP c w R=>
 Bn P 138 false c (.pointer none) λC=>Vif C (R (.slice none 0 0) w) (Nc c<|Fo 4 c λD=>Ld D w λE=>Cl P 142 #[E] w λF G=>New (zeroP P 82) 82 G λk J=>StA 2 k F J λm=>VJoin 1 (λ_ p L=>Nc c<|Fo 0 c λM=>Cl P 145 #[M] L λq N=>Ex q 0 λO=>Ex q 1 λQ=>New (zeroP P 209) 209 N λt S=>StA 3 t O S λe=>Vif Q (LdA 3 t e λU=>Bs P 106 1 #[(0,U)] e λW Y=>Ap P #[106,106] 106 #[p,W] Y λZ a0=>R Z a0) (R p e)) (λJ15=>Nc c<|Fo 4 c λa1=>Ld a1 m λa2=>Cl P 143 #[a2] m λu f=>Bv .neq u (.string ⟨#[]⟩) (LdA 2 k f λa3=>Lns u λa4=>Cl P 144 #[c,a3,a4] f λv a5=>Ex v 0 λa6=>Ex v 1 λa7=>New (zeroP P 209) 209 a5 λy a8=>StA 3 y a6 a8 λg=>Vif a7 (LdA 3 y g λa9=>Bs P 106 1 #[(0,a9)] g λb0 b1=>Ap P #[106,106] 106 #[(.slice none 0 0),b0] b1 λb2 b3=>KS [c]<|J15 b2 b3) (KS [c]<|J15 (.slice none 0 0) g)) (KS [c]<|J15 (.slice none 0 0) f)))
theorem Tz135 (h:Vz135 prog a0 w R):Cl prog 135 #[a0] w R:=
 tz 50 [(.tmp 2)] (s z (s (s z (i (s z z) z)) (s z (s z (j [3] [0] (s z (s z (i (s z (s z (i z z))) z))) (s (s z (s z (i z z))) (s z z))))))) [a0] func135 h
def Vz136:VT1:=λP c w R=>
 Bv .eql c (.string ⟨#[]⟩) (R (.tuple #[(.pointer none),(I 1)]) w) (Cl P 146 #[c] w λf e=>Ex f 0 λk=>Ex f 1 λg=>Bv .neq g (I 0) (R (.tuple #[(.pointer none),g]) e) (Bd P 218 #[(0,c),(1,k)] e λm=>New m 218 e λp q=>R (.tuple #[p,(I 0)]) q))
theorem Tz136 (h:Vz136 prog a0 w R):Cl prog 136 #[a0] w R:=
 tz 20 [(.tmp 2),(.tmp 3)] (s z (s (s z (i (s z z) z)) (s z (s (s z (i (s z z) z)) (s z z))))) [a0] func136 h
def Vz137:VT1:=λP c w R=>
 Dr w λe=>Bn P 218 true c (.pointer none) λf=>Vif f (Nc c<|Fo 3 c λg=>Ld g e λk=>Lnl k λm=>Nc c<|Fo 0 c λp=>Ld p e λq=>Lns q λt=>Bp .eql m t λu=>R u e) (R (.bool false) e)
theorem Tz137 (h:Vz137 prog a0 w R):Cl prog 137 #[a0] w R:=
 tz 18 [(.tmp 2)] (s z (s (r (.staged [0,1,3,7,15,31,63,127,7,263,775,1799,3847,8191,16383,32767])) z)) [a0] func137 h
def Vz138:VT2:=λP c e w R=>
 VJoin 1 (λ_ v m=>Vif v (R (I 0) m) (Nc c<|Fo 1 c λy=>Ld y m λC=>Cl P 147 #[C,e] m λg k=>VJoin 0 (λ_ D=>VLoop 1 [g] D λ_ E f t=>VJoin 1 (λ_ F u=>Vif F (Cl P 150 #[c] u λb3 G=>Bp .add f (I 1) λJ=>KS [c,e]<|E J G) (R f u)) (λJ10=>Nc c<|Fo 1 c λL=>Ld L t λM=>Cl P 148 #[M] t λN p=>Vif N (Bp .lss f e λO=>Vif O (Cl P 137 #[c] p λQ S=>Up .not Q λU=>KS [c,e,f]<|J10 U S) (KS [c,e,f]<|J10 (.bool false) p)) (KS [c,e,f]<|J10 (.bool false) p))) (λJ17=>VJoin 1 (λ_ W q=>Vif W (Nc c<|Fo 1 c λY=>Ld Y q λZ=>Cl P 149 #[Z] q λa0 a1=>Nc c<|Fo 2 c λa2=>St a2 a0 a1 λa3=>KS [c,e,g]<|J17 a3) (KS [c,e,g]<|J17 q)) (λJ23=>Nc c<|Fo 2 c λa4=>Ld a4 k λa5=>Be P .eql 69 (.tmp 21) (.const (.slice none 0 0)) a5 (.slice none 0 0) k λa6=>Vif a6 (Nc c<|Fo 1 c λa7=>Ld a7 k λa8=>Cl P 148 #[a8] k λa9 b0=>KS [c,e,g]<|J23 a9 b0) (KS [c,e,g]<|J23 (.bool false) k))))) (λJ30=>Bn P 218 false c (.pointer none) λb1=>Vif b1 (KS [c,e]<|J30 (.bool true) w) (Bp .lss e (I 1) λb2=>KS [c,e]<|J30 b2 w))
theorem Tz138 (h:Vz138 prog a0 a1 w R):Cl prog 138 #[a0,a1] w R:=
 tz 58 [(.tmp 4)] (s z (s (j [11] [0,1] z (i (s z z) z)) (s z (j [] [0,1,5] (j [29] [0,1,5] z (i z z)) (s (b (l [5] [0,1] (s (j [52] [0,1,5] z (i z z)) (b (s z z))))) (s z z)))))) [a0,a1] func138 h
def Vz139:VT1:=λP c w R=>
 Nc c<|Fo 7 c λu=>Ld u w λv=>Bp .add v (I 1) λy=>Nc c<|Fo 7 c λC=>St C y w λD=>Dr D λe=>Nc c<|Fo 7 c λE=>Ld E e λF=>Nc c<|Fo 5 c λG=>Ld G e λJ=>Ias 3 J (I 0) λL=>Fo 0 L λM=>Ld M e λN=>Lns N λO=>Bp .lss F O λQ=>Vif Q (R (.tuple #[]) e) (Nc c<|Fo 6 c λS=>Ld S e λU=>Cl P 151 #[U] e λk W=>Ex k 0 λY=>Ex k 1 λZ=>Dr W λf=>Nc c<|Fo 8 c λa0=>Ld a0 f λa1=>Nc c<|Fo 5 c λa2=>Ld a2 f λa3=>Ias 3 a3 (I 0) λa4=>Fo 1 a4 λa5=>Ld a5 f λa6=>Cl P 152 #[a1,Y,Z,a6] f λc3 a7=>Dr a7 λg=>Nc c<|Fo 9 c λm=>Ld m g λp=>Nc c<|Fo 8 c λa8=>Ld a8 g λa9=>Cl P 54 #[a9] g λb0 q=>Rk (λw K=>Ld m w λb1=>K b1) p q<|Bp .add p b0 λb2=>Nc c<|Fo 9 c λb3=>St b3 b2 q λt=>Nc c<|Fo 5 c λb4=>Ld b4 t λb5=>Ssl 3 b5 (some (I 1)) none λb6=>Nc c<|Fo 5 c λb7=>St b7 b6 t λb8=>Nc c<|Fo 6 c λb9=>St b9 (.pointer none) b8 λc0=>Nc c<|Fo 7 c λc1=>St c1 (I 0) c0 λc2=>R (.tuple #[]) c2)
theorem Tz139 (h:Vz139 prog a0 w R):Cl prog 139 #[a0] w R:=
 tz 72 [] (s z (s (s (r (.staged [0,1,3,7,0,16,48,112,240,496,1008,2032,4095])) (i z z)) (s z (s (r (.staged [0,1,3,7,0,0,0,64,192,448,960,1984,4032,8191])) (s (r (.staged [0,1,3,7,0,16,48,112,240,511,1023,2047,4095])) (s z (s z z))))))) [a0] func139 h
def Vz140:VT1:=λP c w R=>
 VJoin 2 (λ_ Q S m=>Nc c<|Fo 1 c λU=>Ld U m λW=>Sst W (some (I 1)) none λY=>Nc c<|Fo 1 c λZ=>St Z Y m λp=>Vif S (Dr p λf=>Nc c<|Fo 5 c λq=>Ld q f λt=>LdA 3 Q f λa0=>Bs P 106 1 #[(0,a0)] f λa1 u=>Rk (λw K=>Ld q w λa2=>K a2) t u<|Ap P #[106,106] 106 #[t,a1] u λa3 a4=>Nc c<|Fo 5 c λa5=>St a5 a3 a4 λa6=>Cl P 131 #[c] a6 λc3 a7=>R (.tuple #[]) a7) (Cl P 131 #[c] p λc4 a8=>R (.tuple #[]) a8)) (λJ17=>Dr w λe=>(Nc c<|Fo 3 c λv=>Ld v e λy=>Nc c<|Fo 1 c λC=>Ld C e λD=>Ixs D (I 0) λa9=>Cl P 153 #[y,a9] e λE b0=>Ex E 0 λb1=>Ex E 1 λb2=>New (zeroP P 209) 209 b0 λF g=>Rk (λw K=>Ld C w λb3=>K b3) D g<|Rk (λw K=>Ld v w λb4=>K b4) y g<|StA 3 F b1 g λb5=>KS [c]<|J17 F b2 b5)/\(Nc c<|Fo 3 c λG=>Ld G e λJ=>Nc c<|Fo 1 c λL=>Ld L e λM=>Ixs M (I 0) λb6=>New (zeroP P 209) 209 e λN k=>Rk (λw K=>Ld L w λb7=>K b7) M k<|Rk (λw K=>Ld G w λb8=>K b8) J k<|Cl P 153 #[J,b6] k λO b9=>Ex O 0 λc0=>Ex O 1 λc1=>StA 3 N c0 b9 λc2=>KS [c]<|J17 N c1 c2))
theorem Tz140 (h:Vz140 prog a0 w R):Cl prog 140 #[a0] w R:=
 tz 38 [] (j [2,3] [0] (r (.two [0,1,3,7,0,16,48,112,240,511,1023,2047,2047,0,12287,32767] 9 13 [0,1,2,3,4,5,6,7,8,9,10,11,12,13,14,15] [0,1,2,3,4,5,6,7,8,13,9,10,11,12,14,15])) (s z (s (s z (i (r (.staged [0,0,2,6,14,0,32,126,255,511,1023])) z)) z))) [a0] func140 h
def Vz141:VT1:=λP c w R=>
 VJoin 1 (λ_ k f=>Vif k (R (I 7) f) (Cl P 154 #[c,(.int .u64 25779555029136)] f λL m=>Dr m λe=>Nc c<|Fo 0 c λp=>Ld p e λq=>Nc c<|Fo 1 c λt=>Ld t e λu=>Cl P 72 #[q,u,(I 32)] e λM g=>Nc c<|Fo 0 c λv=>Ld v g λy=>Cl P 155 #[y] g λN C=>Nc c<|Fo 2 c λD=>St D (.bool true) C λE=>R (I 0) E)) (λJ14=>Bn P 142 false c (.pointer none) λF=>Vif F (KS [c]<|J14 (.bool true) w) (Nc c<|Fo 2 c λG=>Ld G w λJ=>KS [c]<|J14 J w))
theorem Tz141 (h:Vz141 prog a0 w R):Cl prog 141 #[a0] w R:=
 tz 30 [(.tmp 2)] (s z (s (j [10] [0] z (i (s z z) z)) (s z (s (r (.staged [0,1,3,7,0,16,48,112,255])) (s z (s z (s z z))))))) [a0] func141 h
def Vz142:VT1:=λP f w R=>
 New (zeroP P 82) 82 w λc e=>Bn P 171 false f (.pointer none) λm=>Vif m (Bd P 82 #[] e λp=>StA 2 c p e λg=>LdA 2 c g λq=>R q g) (Nc f<|Fo 0 f λt=>LdA 2 t e λu=>StA 2 c u e λk=>LdA 2 c k λv=>R v k)
theorem Tz142 (h:Vz142 prog a0 w R):Cl prog 142 #[a0] w R:=
 tz 10 [(.cell 2 82)] (s z (s (s z (i (s z z) z)) (s z z))) [a0] func142 h
def Vz143:VT1:=λP c w R=>
 Bn P 171 false c (.pointer none) λe=>Vif e (R (.string ⟨#[]⟩) w) (Cl P 156 #[c] w λf g=>R f g)
theorem Tz143 (h:Vz143 prog a0 w R):Cl prog 143 #[a0] w R:=
 tz 7 [(.tmp 2)] (s z (s (s z (i (s z z) z)) (s z z))) [a0] func143 h
def Vz144:VT3:=λP c u v w R=>
 New u 82 w λk y=>New (zeroP P 209) 209 y λe C=>New (zeroP P 209) 209 C λf D=>VJoin 1 (λ_ E F=>Dr F λm=>Nc c<|Fo 0 c λG=>LdA 2 k m λJ=>Cl P 157 #[G,J] m λa5 p=>LdA 3 f p λL=>StA 3 e L p λq=>LdA 3 e q λM=>R (.tuple #[M,E]) q) (λJ11=>Dr D λg=>Nc c<|Fo 0 c λN=>Fo 0 N λO=>Ld O g λQ=>Lnl Q λS=>Bp .add S v λU=>Nc c<|Fo 3 c λW=>Ld W g λY=>Bp .gtr U Y λZ=>Vif Z (Nc c<|Fo 0 c λa0=>Cl P 145 #[a0] g λt a1=>Ex t 0 λa2=>Ex t 1 λa3=>StA 3 f a2 a1 λa4=>KS [c,k,e,f]<|J11 a3 a4) (KS [c,k,e,f]<|J11 (.bool false) g))
theorem Tz144 (h:Vz144 prog a0 a1 a2 w R):Cl prog 144 #[a0,a1,a2] w R:=
 tz 37 [(.cell 6 209),(.tmp 7)] (s z (s z (s z (j [9] [0,4,6,8] (s (r (.staged [0,1,3,7,15,31,0,127,0,256,768,1792,4095])) (i z z)) (s (r (.staged [0,1,3,0,15])) (s z z)))))) [a0,a1,a2] func144 h
def Vz145:VT1:=λP c w R=>
 New (zeroP P 209) 209 w λq F=>Nc c<|Fo 0 c λZ=>Ld Z F λa0=>Lnl a0 λa1=>Bv .eql a1 (I 0) (Bd P 209 #[] F λa2=>StA 3 q a2 F λM=>LdA 3 q M λa3=>R (.tuple #[a3,(.bool false)]) M) (VJoin 1 (λ_ a4 a5=>Nc c<|Fo 0 c λa6=>St a6 (.slice none 0 0) a5 λa7=>Nc c<|Fo 2 c λa8=>St a8 (I 0) a7 λN=>Nc c<|Fo 1 c λa9=>Ld a9 N λb0=>Cl P 159 #[b0] N λb8 O=>LdA 3 a4 O λb1=>StA 3 q b1 O λQ=>LdA 3 q Q λb2=>R (.tuple #[b2,(.bool true)]) Q) (λJ16=>Dr F λt=>Nc c<|Fo 0 c λv=>Ld v t λe=>Cv P 84 9 e t λf=>Nc c<|Fo 1 c λJ=>Ld J t λG=>Nc c<|Fo 2 c λy=>Ld y t λg=>(Cl P 158 #[G] t λS C=>Rk (λw K=>Ld y w λk=>K k) g C<|Rk (λw K=>Cv P 84 9 e w λm=>K m) f C<|Rk (λw K=>Ld v w λp=>K p) e C<|Bd P 209 #[(0,f),(1,S),(2,g)] C λU=>New (zeroP P 209) 209 C λW u=>Rk (λw K=>Bd P 209 #[(0,f),(1,S),(2,g)] w λb3=>K b3) U u<|Rk (λw K=>Ld y w λk=>K k) g u<|Rk (λw K=>Ld J w λL=>K L) G u<|Rk (λw K=>Cv P 84 9 e w λm=>K m) f u<|Rk (λw K=>Ld v w λp=>K p) e u<|StA 3 W U u λb4=>KS [c,q]<|J16 W b4)/\(New (zeroP P 209) 209 t λY D=>Rk (λw K=>Ld y w λk=>K k) g D<|Rk (λw K=>Ld J w λL=>K L) G D<|Rk (λw K=>Cv P 84 9 e w λm=>K m) f D<|Rk (λw K=>Ld v w λp=>K p) e D<|Cl P 158 #[G] D λb5 E=>Rk (λw K=>Ld y w λk=>K k) g E<|Rk (λw K=>Cv P 84 9 e w λm=>K m) f E<|Rk (λw K=>Ld v w λp=>K p) e E<|Bd P 209 #[(0,f),(1,b5),(2,g)] E λb6=>StA 3 Y b6 E λb7=>KS [c,q]<|J16 Y b7)))
theorem Tz145 (h:Vz145 prog a0 w R):Cl prog 145 #[a0] w R:=
 tz 39 [(.cell 2 209),(.tmp 3)] (s z (s (s z (i (s z z) z)) (j [4] [0,2] (r (.tree [0,1,3,7,15,0,32,96,224,480,0,1024,3072,7168,16383,0,65535] (.op 0 (.op 1 (.op 2 (.op 3 (.op 4 (.op 5 (.op 6 (.op 7 (.op 8 (.op 10 (.op 11 (.op 12 (.op 13 (.fk (.op 9 (.op 14 (.op 15 (.op 16 .dn)))) (.op 15 (.op 9 (.op 14 (.op 16 .dn)))))))))))))))))))) (s z (s z (s z (s z z))))))) [a0] func145 h
def Vz146:VT1:=λP f w R=>
 Lns f λc=>Bv .gtr c (I 900000) (R (.tuple #[(.pointer none),(I 2)]) w) (VJoin 1 (λ_ e q=>Nc e<|Fo 1 e λO=>Ld O q λQ=>Lnl Q λt=>VLoop 1 [(I 0)] q λ_ S k m=>Bv .lss k t (Nc e<|Fo 1 e λU=>Ld U m λW=>Ias 1 W k λY=>St Y k m λZ=>Bp .add k (I 1) λa0=>KS [c,e,t]<|S a0 Z) (Bd P 229 #[(0,(I 0)),(2,c)] m λa1=>Bs P 227 1 #[(0,a1)] m λa2 a3=>Nc e<|Fo 5 e λa4=>St a4 a2 a3 λa5=>R (.tuple #[e,(I 0)]) a5)) (λJ17=>Dr w λp=>Bp .lss c (I 2) λg=>(Ms P 69 c c p λu v=>(Ms P 69 c c v λa6 a7=>Ms P 69 c c a7 λa8 y=>Bd P 231 #[(0,f),(1,u),(2,a6),(3,a8),(13,g)] y λa9=>New a9 231 y λb0 b1=>KS [c]<|J17 b0 b1)/\(Ms P 69 c c v λb2 b3=>Ms P 69 c c b3 λb4 C=>Bd P 231 #[(0,f),(1,u),(2,b4),(3,b2),(13,g)] C λb5=>New b5 231 C λb6 b7=>KS [c]<|J17 b6 b7))/\((Ms P 69 c c p λD E=>(Ms P 69 c c E λb8 b9=>Ms P 69 c c b9 λc0 F=>Bd P 231 #[(0,f),(1,b8),(2,D),(3,c0),(13,g)] F λc1=>New c1 231 F λc2 c3=>KS [c]<|J17 c2 c3)/\(Ms P 69 c c E λc4 c5=>Ms P 69 c c c5 λc6 G=>Bd P 231 #[(0,f),(1,c6),(2,D),(3,c4),(13,g)] G λc7=>New c7 231 G λc8 c9=>KS [c]<|J17 c8 c9))/\(Ms P 69 c c p λJ L=>(Ms P 69 c c L λd0 d1=>Ms P 69 c c d1 λd2 M=>Bd P 231 #[(0,f),(1,d0),(2,d2),(3,J),(13,g)] M λd3=>New d3 231 M λd4 d5=>KS [c]<|J17 d4 d5)/\(Ms P 69 c c L λd6 d7=>Ms P 69 c c d7 λd8 N=>Bd P 231 #[(0,f),(1,d8),(2,d6),(3,J),(13,g)] N λd9=>New d9 231 N λe0 e1=>KS [c]<|J17 e0 e1)))))
theorem Tz146 (h:Vz146 prog a0 w R):Cl prog 146 #[a0] w R:=
 tz 45 [(.tmp 2),(.tmp 3)] (s z (s z (s (s z (i (s z z) z)) (j [5] [4] (r (.tree [0,0,2,0,8,0,32,0,128,511,1023,2047] (.op 0 (.op 1 (.op 3 (.op 5 (.op 7 (.op 8 (.fk (.op 2 (.fk (.op 4 (.op 6 (.op 9 (.op 10 (.op 11 .dn))))) (.op 6 (.op 4 (.op 9 (.op 10 (.op 11 .dn))))))) (.fk (.op 4 (.fk (.op 2 (.op 6 (.op 9 (.op 10 (.op 11 .dn))))) (.op 6 (.op 2 (.op 9 (.op 10 (.op 11 .dn))))))) (.op 6 (.fk (.op 2 (.op 4 (.op 9 (.op 10 (.op 11 .dn))))) (.op 4 (.op 2 (.op 9 (.op 10 (.op 11 .dn))))))))))))))))) (s (s z (b (l [27] [4,5,26] (s z (s (i z z) (s (b (s z z)) z)))))) (s z (s z z))))))) [a0] func146 h
def Vz147:VT2:=λP c f w R=>
 Bn P 231 false c (.pointer none) λm=>Vif m (R (I 0) w) (Nc c<|Fo 14 c λp=>Ld p w λe=>VLoop 0 [] w λ_ q g=>VJoin 1 (λ_ t k=>Vif t (Cl P 160 #[c] k λN u=>KS [c,f,e]<|q u) (Nc c<|Fo 14 c λv=>Ld v k λy=>Bp .sub y e λC=>R C k)) (λJ10=>Nc c<|Fo 15 c λD=>Ld D g λE=>Up .not E λF=>Vif F (Nc c<|Fo 14 c λG=>Ld G g λJ=>Bp .sub J e λL=>Bp .lss L f λM=>KS [c,f,e]<|J10 M g) (KS [c,f,e]<|J10 (.bool false) g)))
theorem Tz147 (h:Vz147 prog a0 a1 w R):Cl prog 147 #[a0,a1] w R:=
 tz 35 [(.tmp 4)] (s z (s (s z (i (s z z) z)) (s z (s (b (l [] [0,1,5] (s (j [26] [0,1,5] z (i z z)) (b z)))) (s z z))))) [a0,a1] func147 h
def Vz148:VT1:=λP c w R=>
 Bn P 231 true c (.pointer none) λe=>Vif e (Nc c<|Fo 15 c λf=>Ld f w λg=>R g w) (R (.bool false) w)
theorem Tz148 (h:Vz148 prog a0 w R):Cl prog 148 #[a0] w R:=
 tz 11 [(.tmp 2)] (s z (s z z)) [a0] func148 h
def Vz149:VT1:=λP c w R=>
 Cl P 148 #[c] w λf e=>Up .not f λg=>Vif g (R (.slice none 0 0) e) (Nc c<|Fo 1 c λk=>Ld k e λm=>Cl P 161 #[m] e λp q=>R p q)
theorem Tz149 (h:Vz149 prog a0 w R):Cl prog 149 #[a0] w R:=
 tz 11 [(.tmp 2)] (s z (s (s z (i (s z z) z)) (s z z))) [a0] func149 h
def Vz150:VT1:=λP c w R=>
 Nc c<|Fo 3 c λu=>Ld u w λv=>Lnl v λp=>Nc c<|Fo 2 c λy=>Ld y w λC=>Ias 1 C p λD=>Ld D w λe=>VJoin 0 (λ_ E=>Dr E λf=>Nc c<|Fo 3 c λg=>Ld g f λk=>Nc c<|Fo 0 c λF=>Ld F f λG=>Cl P 162 #[G,e] f λJ q=>Rk (λw K=>Ld g w λm=>K m) k q<|Bs P 84 1 #[(0,J)] q λL t=>Rk (λw K=>Ld g w λm=>K m) k t<|Ap P #[84,84] 84 #[k,L] t λM N=>Nc c<|Fo 3 c λO=>St O M N λQ=>R (.tuple #[]) Q) (λJ18=>Bv .eql e (I 0) (Nc c<|Fo 4 c λS=>St S p w λU=>KS [c,e]<|J18 U) (KS [c,e]<|J18 w))
theorem Tz150 (h:Vz150 prog a0 w R):Cl prog 150 #[a0] w R:=
 tz 37 [] (s z (s z (j [] [0,3] (s z (i z z)) (r (.staged [0,0,2,6,14,0,32,96,224,0,992,2016,4094,8191,16383,32767]))))) [a0] func150 h
def Vz151:VT1:=λP c w R=>
 Cl P 137 #[c] w λg f=>Up .not g λk=>Vif k (R (.tuple #[(.string ⟨#[]⟩),(I 0)]) f) (Dr f λe=>Nc c<|Fo 3 c λm=>Ld m e λp=>Cv P 84 9 p e λq=>Nc c<|Fo 4 c λt=>Ld t e λu=>R (.tuple #[q,u]) e)
theorem Tz151 (h:Vz151 prog a0 w R):Cl prog 151 #[a0] w R:=
 tz 16 [(.tmp 2),(.tmp 3)] (s z (s (s z (i (s z z) z)) (s (r (.staged [0,1,3,7,15,0,32,96,224,31,1023])) z))) [a0] func151 h
def Vz152:VT4:=λP c e f g w R=>
 VJoin 1 (λ_ t k=>Vif t (R (I 7) k) (VJoin 1 (λ_ u m=>Vif u (R (I 1) m) (Cl P 154 #[c,(.int .u64 54156738319193)] m λW p=>Nc c<|Fo 1 c λv=>Ld v p λy=>Cl P 163 #[y,g] p λC D=>Nc c<|Fo 1 c λE=>St E C D λq=>Nc c<|Fo 0 c λF=>Ld F q λG=>Cl P 164 #[G,e,f,g] q λJ L=>R J L)) (λJ11=>Lns e λM=>Bv .gtr M (I 900000) (KS [c,e,f,g]<|J11 (.bool true) k) (Bv .lss f (I 0) (KS [c,e,f,g]<|J11 (.bool true) k) (Lns e λN=>Bp .geq f N λO=>KS [c,e,f,g]<|J11 O k))))) (λJ17=>Bn P 142 false c (.pointer none) λQ=>Vif Q (KS [c,e,f,g]<|J17 (.bool true) w) (Nc c<|Fo 2 c λS=>Ld S w λU=>KS [c,e,f,g]<|J17 U w))
theorem Tz152 (h:Vz152 prog a0 a1 a2 a3 w R):Cl prog 152 #[a0,a1,a2,a3] w R:=
 tz 51 [(.tmp 8)] (s z (s (b (j [9] [0,1,2,3] z (i (s z z) (j [18] [0,1,2,3] z (i (s z z) z))))) (s z (s z (s z z))))) [a0,a1,a2,a3] func152 h
def Vz153:VT2:=λP c p w R=>
 New (zeroP P 209) 209 w λe k=>Bn P 138 false c (.pointer none) λD=>Vif D (Bd P 209 #[] k λE=>StA 3 e E k λq=>LdA 3 e q λF=>R (.tuple #[F,(.bool false)]) q) (Nc c<|Fo 4 c λG=>Ld G k λJ=>Cl P 142 #[J] k λL M=>New (zeroP P 82) 82 M λf N=>StA 2 f L N λt=>Nc c<|Fo 4 c λO=>Ld O t λQ=>Cl P 165 #[Q,p] t λm g=>Bv .eql m (.string ⟨#[]⟩) (Bd P 209 #[] g λS=>StA 3 e S g λu=>LdA 3 e u λU=>R (.tuple #[U,(.bool false)]) u) (VJoin 0 (λ_ v=>LdA 2 f v λW=>Lns m λY=>Cl P 144 #[c,W,Y] v λy Z=>Ex y 0 λa0=>Ex y 1 λa1=>StA 3 e a0 Z λC=>LdA 3 e C λa2=>R (.tuple #[a2,a1]) C) (λJ21=>Fo 0 f λa3=>Ld a3 g λa4=>Bv .eql a4 p (Fo 1 f λa5=>Ld a5 g λa6=>Bp .add a6 (I 1) λa7=>Fo 1 f λa8=>St a8 a7 g λa9=>KS [c,e,f,m]<|J21 a9) (KS [c,e,f,m]<|J21 g))))
theorem Tz153 (h:Vz153 prog a0 a1 w R):Cl prog 153 #[a0,a1] w R:=
 tz 40 [(.cell 4 209),(.tmp 5)] (s z (s (s z (i (s z z) z)) (s z (s z (s (s z (i (s z z) z)) (j [] [0,4,6,7] (s z (i z z)) (s z z))))))) [a0,a1] func153 h
def Vz154:VT2:=λP c e w R=>
 Nc c<|Fo 0 c λg=>Ld g w λk=>Bp .shr e (.int .u64 24) λm=>Ci .u32 m λp=>Cl P 72 #[k,p,(I 24)] w λC f=>Nc c<|Fo 0 c λq=>Ld q f λt=>Bp .and e (.int .u64 16777215) λu=>Ci .u32 u λv=>Cl P 72 #[t,v,(I 24)] f λD y=>R (.tuple #[]) y
theorem Tz154 (h:Vz154 prog a0 a1 w R):Cl prog 154 #[a0,a1] w R:=
 tz 20 [] (s z z) [a0,a1] func154 h
def Vz155:VT1:=λP c w R=>
 VLoop 0 [] w λ_ f e=>Bn P 173 true c (.pointer none) λg=>Vif g (Nc c<|Fo 2 c λk=>Ld k e λm=>Bp .rem m (I 8) λp=>Bp .neq p (I 0) λq=>Vif q (Cl P 88 #[c,(.int .u8 0)] e λu t=>KS [c]<|f t) (R (.tuple #[]) e)) (R (.tuple #[]) e)
theorem Tz155 (h:Vz155 prog a0 w R):Cl prog 155 #[a0] w R:=
 tz 14 [] (b (l [] [0] (s (s z (i z z)) (b z)))) [a0] func155 h
def Vz156:VT1:=λP c w R=>
 Nc c<|Fo 0 c λg=>LdA 2 g w λk=>Cl P 166 #[k] w λe f=>Ex e 0 λm=>Ex e 1 λu=>Bd P 82 #[] f λp=>Nc c<|Fo 0 c λq=>StA 2 q p f λt=>R m t
theorem Tz156 (h:Vz156 prog a0 w R):Cl prog 156 #[a0] w R:=
 tz 18 [(.tmp 2)] (s z (s z (s z (s z z)))) [a0] func156 h
def Vz157:VT2:=λP c y w R=>
 New y 82 w λe k=>LdA 2 e k λC=>Cl P 166 #[C] k λm p=>Ex m 0 λD=>Ex m 1 λa7=>Nc c<|Fo 0 c λE=>Ld E p λF=>Ap P #[84,9] 84 #[F,D] p λG J=>Nc c<|Fo 0 c λL=>St L G J λM=>Dr M λf=>Nc c<|Fo 2 c λN=>Ld N f λO=>Fo 1 e λQ=>Ld Q f λS=>Bp .add O S λU=>Nc c<|Fo 2 c λW=>St W U f λq=>Fo 1 e λY=>Ld Y q λt=>VLoop 1 [(I 0)] q λ_ Z u v=>Bp .lss u t λa0=>Vif a0 (Dr v λg=>Nc c<|Fo 1 c λa1=>Ld a1 g λa2=>Fo 0 e λa3=>Ld a3 g λa4=>Cl P 167 #[a2,a4] g λa8 a5=>Bp .add u (I 1) λa6=>KS [c,e,t]<|Z a6 a5) (R (.tuple #[]) v)
theorem Tz157 (h:Vz157 prog a0 a1 w R):Cl prog 157 #[a0,a1] w R:=
 tz 41 [] (s z (s z (s z (s (r (.staged [0,1,3,7,0,16,63,127,255,511])) (s z (b (l [31] [0,3,30] (s z (s (i z z) (s (b (r (.staged [0,1,3,7,0,16,63]))) z)))))))))) [a0,a1] func157 h
def Vz158:VT1:=λP c w R=>
 Bn P 169 false c (.pointer none) λe=>Vif e (R (.int .u32 0) w) (Nc c<|Fo 256 c λf=>Ld f w λg=>Up .xor g λk=>R k w)
theorem Tz158 (h:Vz158 prog a0 w R):Cl prog 158 #[a0] w R:=
 tz 10 [(.tmp 2)] (s z (s (s z (i (s z z) z)) (s z z))) [a0] func158 h
def Vz159:VT1:=λP c w R=>
 Bn P 169 true c (.pointer none) λe=>Vif e (Nc c<|Fo 256 c λf=>St f (.int .u32 4294967295) w λg=>R (.tuple #[]) g) (R (.tuple #[]) w)
theorem Tz159 (h:Vz159 prog a0 w R):Cl prog 159 #[a0] w R:=
 tz 7 [] (s z (i z z)) [a0] func159 h
def Vz160:VT1:=λP c w R=>
 Cl P 168 #[c] w λa7 k=>VJoin 0 (λ_ g=>Nc c<|Fo 14 c λm=>Ld m g λp=>Bp .add p (I 1) λq=>Nc c<|Fo 14 c λt=>St t q g λu=>R (.tuple #[]) u) (λJ6=>VJoin 1 (λ_ v e=>Vif v (Cl P 169 #[c] e λa8 y=>KS [c]<|J6 y) (Nc c<|Fo 6 c λC=>Fo 2 C λD=>Ld D e λE=>Bp .gtr E (I 0) λF=>Vif F (Cl P 170 #[c] e λa9 G=>KS [c]<|J6 G) (Nc c<|Fo 5 c λJ=>Ld J e λL=>Lnl L λM=>Bv .gtr M (I 0) (Cl P 171 #[c] e λb0 N=>KS [c]<|J6 N) (Cl P 172 #[c] e λb1 O=>KS [c]<|J6 O)))) (λJ20=>Dr k λf=>Nc c<|Fo 6 c λQ=>Fo 2 Q λS=>Ld S f λU=>Bv .gtr U (I 0) (Nc c<|Fo 9 c λW=>Ld W f λY=>Nc c<|Fo 6 c λZ=>Fo 1 Z λa0=>Ld a0 f λa1=>Nc c<|Fo 6 c λa2=>Fo 0 a2 λa3=>Ld a3 f λa4=>Bp .sub a1 a4 λa5=>Bp .lss Y a5 λa6=>KS [c]<|J20 a6 f) (KS [c]<|J20 (.bool false) f)))
theorem Tz160 (h:Vz160 prog a0 w R):Cl prog 160 #[a0] w R:=
 tz 58 [] (s z (j [] [0] (b (j [6] [0] (r (.staged [0,1,3,7,15,31,63,127,255,511,1023,127,2175,6271,14463,30847,127,65663,196735,458879,983167,2095231,4194303,8388607,16777215])) (i z (s z (i z (s z (i z z))))))) z)) [a0] func160 h
def Vz161:VT1:=λP c w R=>
 Be P .eql 69 (.tmp 3) (.const (.slice none 0 0)) c (.slice none 0 0) w λe=>Vif e (R (.slice none 0 0) w) (Bs P 69 0 #[] w λf g=>Ap P #[69,69] 69 #[f,c] g λk m=>R k m)
theorem Tz161 (h:Vz161 prog a0 w R):Cl prog 161 #[a0] w R:=
 tz 8 [(.tmp 2)] (s z (s (s z (i (s z z) z)) (s z z))) [a0] func161 h
def Vz162:VT2:=λP c e w R=>
 Bv .eql e (I 0) (Lns c λf=>Bp .sub f (I 1) λg=>Ixs c g λk=>R k w) (Bp .sub e (I 1) λm=>Ixs c m λp=>R p w)
theorem Tz162 (h:Vz162 prog a0 a1 w R):Cl prog 162 #[a0,a1] w R:=
 tz 16 [(.tmp 4)] (s z (s (s z (i (s z z) z)) (s z z))) [a0,a1] func162 h
def Vz163:VT2:=λP c e w R=>
 Bp .shl c (.int .u64 1) λf=>Bp .shr c (.int .u64 31) λg=>Bp .xor f g λk=>Bp .xor k e λm=>R m w
theorem Tz163 (h:Vz163 prog a0 a1 w R):Cl prog 163 #[a0,a1] w R:=
 tz 12 [(.tmp 4)] (s z (s z z)) [a0,a1] func163 h
def Vz164:VT4:=λP c e f g w R=>
 Bn P 173 false c (.pointer none) λC=>Vif C (R (I 7) w) (VJoin 1 (λ_ D m=>Vif D (R (I 1) m) (Cl P 173 #[e] m λk E=>Cl P 174 #[e,k] E λp F=>Ex p 0 λG=>Ex p 1 λa7=>Lns k λJ=>Cl P 175 #[G,J] F λq L=>Ex q 0 λt=>Ex q 1 λa8=>Lns k λM=>Bp .add M (I 2) λN=>Cl P 176 #[t,N] L λu v=>Ex u 0 λa9=>Ex u 1 λy=>Bp .neq y (I 0) λO=>Vif O (R y v) (Cl P 72 #[c,g,(I 32)] v λb0 Q=>Cl P 72 #[c,(.int .u32 0),(I 1)] Q λb1 S=>Ci .u32 f λU=>Cl P 72 #[c,U,(I 24)] S λb2 W=>Cl P 177 #[c,k] W λb3 Y=>Lns k λZ=>Bp .add Z (I 2) λa0=>Cl P 178 #[c,t,a0] Y λa1 a2=>R a1 a2))) (λJ25=>Bp .eql e (.string ⟨#[]⟩) λa3=>Vif a3 (KS [c,e,f,g]<|J25 (.bool true) w) (Lns e λa4=>Bv .gtr a4 (I 900000) (KS [c,e,f,g]<|J25 (.bool true) w) (Bv .lss f (I 0) (KS [c,e,f,g]<|J25 (.bool true) w) (Lns e λa5=>Bp .geq f a5 λa6=>KS [c,e,f,g]<|J25 a6 w)))))
theorem Tz164 (h:Vz164 prog a0 a1 a2 a3 w R):Cl prog 164 #[a0,a1,a2,a3] w R:=
 tz 81 [(.tmp 8)] (s z (s (b (s z (i (s z z) (j [19] [0,1,2,3] z (i (s z z) z))))) (s z (s z (s z (s (s z (s z (i (s z z) z))) (s z (s z (s z (s z (s z z))))))))))) [a0,a1,a2,a3] func164 h
def Vz165:VT2:=λP c e w R=>
 Bn P 171 false c (.pointer none) λp=>Vif p (R (.string ⟨#[]⟩) w) (VJoin 1 (λ_ g q=>Nc c<|Fo 0 c λt=>Fo 0 t λu=>St u e q λk=>Nc c<|Fo 0 c λv=>Fo 1 v λy=>Ld y k λC=>Bp .add C (I 1) λD=>Nc c<|Fo 0 c λE=>Fo 1 E λF=>St F D k λf=>Nc c<|Fo 0 c λG=>Fo 1 G λJ=>Ld J f λL=>Bp .eql L (I 255) λM=>Vif M (Cl P 156 #[c] f λN O=>Bp .add g N λQ=>R Q O) (R g f)) (λJ17=>VJoin 1 (λ_ S m=>Vif S (Cl P 156 #[c] m λU W=>KS [c,e]<|J17 U W) (KS [c,e]<|J17 (.string ⟨#[]⟩) m)) (λJ20=>Nc c<|Fo 0 c λY=>Fo 1 Y λZ=>Ld Z w λa0=>Bp .gtr a0 (I 0) λa1=>Vif a1 (Nc c<|Fo 0 c λa2=>Fo 0 a2 λa3=>Ld a3 w λa4=>Bp .neq a4 e λa5=>KE [c,e,(.string ⟨#[]⟩)] [c,e,(.string ⟨#[]⟩)]<|J20 a5 w) (KE [c,e,(.string ⟨#[]⟩)] [c,e,(.string ⟨#[]⟩)]<|J20 (.bool false) w))))
theorem Tz165 (h:Vz165 prog a0 a1 w R):Cl prog 165 #[a0,a1] w R:=
 tz 50 [(.tmp 4)] (s z (s (s z (i (s z z) z)) (s z (j [5] [0,1] (j [22] [0,1,5] z (i z z)) (s z (s z (s (s z (i z z)) (s z z)))))))) [a0,a1] func165 h
def Vz166:VT1:=λP g w R=>
 New g 82 w λc e=>VJoin 1 (λ_ k f=>Vif k (R (.tuple #[(.string ⟨#[]⟩),(I 1)]) f) (LdA 2 c f λm=>Cl P 179 #[m] f λp q=>R (.tuple #[p,(I 0)]) q)) (λJ5=>Fo 1 c λt=>Ld t e λu=>Bv .lss u (I 1) (KS [c]<|J5 (.bool true) e) (Fo 1 c λv=>Ld v e λy=>Bp .gtr y (I 255) λC=>KS [c]<|J5 C e))
theorem Tz166 (h:Vz166 prog a0 w R):Cl prog 166 #[a0] w R:=
 tz 14 [(.tmp 2),(.tmp 3)] (s z (s (j [11] [1] z (i (s z z) z)) (s z z))) [a0] func166 h
def Vz167:VT2:=λP c f w R=>
 Bn P 169 true c (.pointer none) λg=>Vif g (Dr w λe=>Nc c<|Fo 0 c λk=>Nc c<|Fo 256 c λm=>Ld m e λp=>Cl P 180 #[k,p,f] e λq t=>Nc c<|Fo 256 c λu=>St u q t λv=>R (.tuple #[]) v) (R (.tuple #[]) w)
theorem Tz167 (h:Vz167 prog a0 a1 w R):Cl prog 167 #[a0,a1] w R:=
 tz 18 [] (s z (i (r (.staged [0,0,2,6,0,16,48,112,0,510,1023,2047,4095])) z)) [a0,a1] func167 h
def Vz168:VT1:=λP c w R=>
 Nc c<|Fo 5 c λm=>Ld m w λp=>Lnl p λq=>Bp .sub q (I 1) λe=>VJoin 1 (λ_ t f=>Vif t (R (.tuple #[]) f) (Nc c<|Fo 5 c λu=>Ld u f λv=>Ias 3 v e λy=>LdA 3 y f λC=>Nc c<|Fo 6 c λD=>StA 3 D C f λg=>Nc c<|Fo 5 c λE=>Ld E g λF=>Ssl 3 F none (some e) λG=>Nc c<|Fo 5 c λJ=>St J G g λL=>Nc c<|Fo 9 c λM=>St M (I 0) L λN=>Nc c<|Fo 10 c λO=>St O (I 0) N λk=>Nc c<|Fo 6 c λQ=>Fo 1 Q λS=>Ld S k λU=>Nc c<|Fo 11 c λW=>St W U k λY=>R (.tuple #[]) Y)) (λJ21=>Bp .lss e (I 0) λZ=>Vif Z (KS [c,e]<|J21 (.bool true) w) (Nc c<|Fo 6 c λa0=>Fo 2 a0 λa1=>Ld a1 w λa2=>Bv .gtr a2 (I 0) (KS [c,e]<|J21 (.bool true) w) (Nc c<|Fo 5 c λa3=>Ld a3 w λa4=>Ias 3 a4 e λa5=>Fo 1 a5 λa6=>Ld a6 w λa7=>Bp .eql a7 (I 0) λa8=>KS [c,e]<|J21 a8 w)))
theorem Tz168 (h:Vz168 prog a0 w R):Cl prog 168 #[a0] w R:=
 tz 63 [] (s z (s (j [29] [0,2] z (i z z)) (s z (s z (s z (s z z)))))) [a0] func168 h
def Vz169:VT1:=λP c w R=>
 Dr w λe=>Nc c<|Fo 3 c λg=>Ld g e λk=>Nc c<|Fo 9 c λm=>Ld m e λp=>Nc c<|Fo 1 c λq=>Ld q e λt=>Nc c<|Fo 6 c λu=>Fo 0 u λv=>Ld v e λy=>Nc c<|Fo 9 c λC=>Ld C e λD=>Bp .add y D λE=>Ias 1 t E λF=>Ld F e λG=>Ias 1 k p λJ=>St J G e λf=>Nc c<|Fo 9 c λL=>Ld L f λM=>Bp .add M (I 1) λN=>Nc c<|Fo 9 c λO=>St O N f λQ=>R (.tuple #[]) Q
theorem Tz169 (h:Vz169 prog a0 w R):Cl prog 169 #[a0] w R:=
 tz 34 [] (s (r (.staged [0,1,3,7,0,16,48,112,0,256,768,1792,0,4096,12288,28672,61440,0,131072,393216,917504,2093056,4194048,8388352,16777215,33554431])) z) [a0] func169 h
def Vz170:VT1:=λP c w R=>
 Nc c<|Fo 6 c λy=>LdA 3 y w λC=>New (zeroP P 229) 229 w λf D=>StA 3 f C D λE=>Dr E λk=>Fo 0 f λF=>Ld F k λG=>Nc c<|Fo 10 c λJ=>Ld J k λL=>Bp .add G L λM=>Nc c<|Fo 11 c λN=>Ld N k λO=>Bp .add M O λQ=>Fo 1 f λS=>Ld S k λU=>Bp .sub Q U λg=>VJoin 0 (λ_ q=>Fo 2 f λW=>Ld W q λY=>Bp .sub Y (I 1) λZ=>Bp .eql g Z λa0=>Vif a0 (Bd P 229 #[] q λa1=>Nc c<|Fo 6 c λa2=>StA 3 a2 a1 q λa3=>R (.tuple #[]) a3) (R (.tuple #[]) q)) (λJ25=>VJoin 1 (λ_ a4 t=>Vif a4 (Dr t λm=>Nc c<|Fo 1 c λa5=>Ld a5 m λa6=>Nc c<|Fo 3 c λa7=>Ld a7 m λa8=>Nc c<|Fo 10 c λa9=>Ld a9 m λb0=>Ias 1 a8 b0 λb1=>Ld b1 m λb2=>Ias 1 a6 g λb3=>St b3 b2 m λu=>Nc c<|Fo 10 c λb4=>Ld b4 u λb5=>Bp .add b5 (I 1) λb6=>Nc c<|Fo 10 c λb7=>St b7 b6 u λb8=>KS [c,f,g]<|J25 b8) (Dr t λp=>Nc c<|Fo 1 c λb9=>Ld b9 p λc0=>Nc c<|Fo 1 c λc1=>Ld c1 p λc2=>Nc c<|Fo 11 c λc3=>Ld c3 p λc4=>Ias 1 c2 c4 λc5=>Ld c5 p λc6=>Ias 1 c0 g λc7=>St c7 c6 p λv=>Nc c<|Fo 11 c λc8=>Ld c8 v λc9=>Bp .add c9 (I 1) λd0=>Nc c<|Fo 11 c λd1=>St d1 d0 v λd2=>KS [c,f,g]<|J25 d2)) (λJ61=>Dr k λe=>Nc c<|Fo 11 c λd3=>Ld d3 e λd4=>Fo 2 f λd5=>Ld d5 e λd6=>Bp .eql d4 d6 λd7=>Vif d7 (KS [c,f,g]<|J61 (.bool true) e) (Nc c<|Fo 10 c λd8=>Ld d8 e λd9=>Nc c<|Fo 9 c λe0=>Ld e0 e λe1=>Bv .lss d9 e1 (Nc c<|Fo 3 c λe2=>Ld e2 e λe3=>Nc c<|Fo 10 c λe4=>Ld e4 e λe5=>Ias 1 e3 e5 λe6=>Ld e6 e λe7=>Nc c<|Fo 1 c λe8=>Ld e8 e λe9=>Nc c<|Fo 11 c λf0=>Ld f0 e λf1=>Ias 1 e9 f1 λf2=>Ld f2 e λf3=>Cl P 181 #[c,e7,f3] e λf4 f5=>Up .not f4 λf6=>KS [c,f,g]<|J61 f6 f5) (KS [c,f,g]<|J61 (.bool false) e))))
theorem Tz170 (h:Vz170 prog a0 w R):Cl prog 170 #[a0] w R:=
 tz 121 [] (s z (s (r (.staged [0,1,0,4,12,28,63,0,128,384,896,2047,0,4096,16383,32767])) (j [] [0,2,3] (j [65] [0,2,3] (r (.staged [0,1,3,7,0,16,63,127,255,511,1023,2047,255,4351,12543,28927,65535,131071,262143,262143,786431,1835007,3932159,262143,8650751,25427967,58982399,133955583,268173311,262143,537133055,1610874879,3758358527,262143,8590196735,25770065919,60129804287,136902344703,274341298175,549755813887,1099511627775,2199023255551,4398046511103])) (i (s (r (.staged [0,1,3,7,0,0,32,96,224,0,512,1536,3584,8160,16352,32767,65535])) z) (s (r (.staged [0,1,3,7,0,0,32,96,224,0,512,1536,3584,8160,16352,32767,65535])) z))) (s z (i z z))))) [a0] func170 h
def Vz171:VT1:=λP c w R=>
 Dr w λm=>Nc c<|Fo 5 c λu=>Ld u m λv=>Nc c<|Fo 5 c λy=>Ld y m λp=>Lnl p λC=>Bp .sub C (I 1) λL=>Ias 3 v L λD=>LdA 3 D m λE=>New (zeroP P 229) 229 m λe k=>Rk (λw K=>LdA 3 D w λM=>K M) E k<|Rk (λw K=>Lnl p λN=>K N) C k<|Rk (λw K=>Ld y w λO=>K O) p k<|Rk (λw K=>Ld u w λQ=>K Q) v k<|StA 3 e E k λS=>Dr S λq=>Nc c<|Fo 5 c λU=>Ld U q λW=>Nc c<|Fo 5 c λY=>Ld Y q λZ=>Lnl Z λa0=>Bp .sub a0 (I 1) λa1=>Ssl 3 W none (some a1) λa2=>Nc c<|Fo 5 c λa3=>St a3 a2 q λg=>Fo 2 e λa4=>Ld a4 g λa5=>Fo 0 e λa6=>Ld a6 g λa7=>Bp .sub a5 a7 λa8=>Bp .lss a8 (I 2) λa9=>Vif a9 (R (.tuple #[]) g) (Fo 0 e λb0=>Ld b0 g λb1=>Fo 2 e λb2=>Ld b2 g λb3=>Bp .add b1 b3 λb4=>Bp .quo b4 (I 2) λt=>Dr g λf=>Nc c<|Fo 5 c λF=>Ld F f λG=>Fo 0 e λb5=>Ld b5 f λb6=>Fo 2 e λb7=>Ld b7 f λb8=>Bd P 229 #[(0,b6),(1,t),(2,b8)] f λb9=>Fo 2 e λc0=>Ld c0 f λc1=>Bd P 229 #[(0,t),(2,c1)] f λc2=>Fo 0 e λc3=>Ld c3 f λc4=>Bd P 229 #[(0,c4),(2,t)] f λc5=>Bs P 227 3 #[(0,b9),(1,c2),(2,c5)] f λc6 J=>Rk (λw K=>Ld F w λc7=>K c7) G J<|Ap P #[227,227] 227 #[G,c6] J λc8 c9=>Nc c<|Fo 5 c λd0=>St d0 c8 c9 λd1=>R (.tuple #[]) d1)
theorem Tz171 (h:Vz171 prog a0 w R):Cl prog 171 #[a0] w R:=
 tz 65 [] (s (r (.staged [0,1,3,7,0,16,48,112,240,496,1023,2047,0,8191])) (s (r (.staged [0,0,2,6,14,0,32,96,224,480,992,2046,4095,8191,16383])) (s (s z (i z z)) (s z (r (.staged [0,0,2,6,14,0,32,0,0,256,992,0,0,4096,14336,0,32768,0,229376,524256,1048574,2097151,4194303,8388607])))))) [a0] func171 h
def Vz172:VT1:=λP c w R=>
 Nc c<|Fo 12 c λq=>Ld q w λe=>VJoin 0 (λ_ t=>Dr t λf=>Nc c<|Fo 3 c λu=>Ld u f λv=>Nc c<|Fo 1 c λy=>Ld y f λC=>Ias 1 C e λD=>Ld D f λE=>Nc c<|Fo 13 c λF=>Ld F f λG=>Ias 1 v E λJ=>St J G f λp=>Nc c<|Fo 12 c λL=>Ld L p λM=>Bp .add M (I 1) λN=>Nc c<|Fo 12 c λO=>St O N p λQ=>Dr Q λk=>Nc c<|Fo 12 c λS=>Ld S k λU=>Nc c<|Fo 1 c λW=>Ld W k λY=>Lnl Y λZ=>Bp .eql U Z λa0=>Vif a0 (Cl P 182 #[c] k λb9 a1=>R (.tuple #[]) a1) (R (.tuple #[]) k)) (λJ30=>Bv .eql e (I 0) (Nc c<|Fo 13 c λa2=>St a2 (I 0) w λa3=>KS [c,e]<|J30 a3) (Dr w λg=>Nc c<|Fo 1 c λa4=>Ld a4 g λa5=>Ias 1 a5 e λa6=>Ld a6 g λa7=>Nc c<|Fo 1 c λa8=>Ld a8 g λa9=>Bp .sub e (I 1) λb0=>Ias 1 a9 b0 λb1=>Ld b1 g λb2=>Cl P 181 #[c,a7,b2] g λb3 m=>Vif b3 (Nc c<|Fo 13 c λb4=>Ld b4 m λb5=>Bp .add b5 (I 1) λb6=>Nc c<|Fo 13 c λb7=>St b7 b6 m λb8=>KS [c,e]<|J30 b8) (KS [c,e]<|J30 m)))
theorem Tz172 (h:Vz172 prog a0 w R):Cl prog 172 #[a0] w R:=
 tz 73 [] (s z (j [] [0,2] (b (s z (i z (s (r (.staged [0,0,2,6,14,0,62,126,0,256,768,1792,0,4096,16128,32512,65535,131071])) (i z z))))) (s (r (.staged [0,1,3,7,0,16,48,112,0,496,1008,0,2048,6144,14336,32767,65535])) (s z (s (r (.staged [0,1,3,7,0,16,48,112,240,511])) (i z z)))))) [a0] func172 h
def Vz173:VT1:=λP c w R=>
 New (zeroP P 245) 245 w λe m=>Lns c λk=>VLoop 1 [(I 0)] m λ_ p f g=>Bv .lss f k (Ixs c f λq=>Iaa 256 1 e q λt=>St t (.bool true) g λu=>Bp .add f (I 1) λv=>KS [c,e,k]<|p v u) (LdA 256 e g λy=>Cl P 183 #[y] g λC D=>R C D)
theorem Tz173 (h:Vz173 prog a0 w R):Cl prog 173 #[a0] w R:=
 tz 17 [(.tmp 2)] (s z (s z (s (s z (b (l [7] [0,3,6] (s z (s (i z z) (s (b (s z z)) z)))))) (s z z)))) [a0] func173 h
def Vz174:VT2:=λP f D w R=>
 Cl P 184 #[D] w λg k=>Ex g 0 λm=>Ex g 1 λp=>Bv .neq p (I 0) (R (.tuple #[(.slice none 0 0),p]) k) (Lns f λq=>Ms P 69 q q k λc E=>Lnl c λt=>VLoop 1 [(I 0)] E λ_ F e u=>Bv .lss e t (Ixs f e λG=>Cl P 185 #[m,G] u λv y=>Ex v 0 λJ=>Ex v 1 λC=>Bv .neq C (I 0) (R (.tuple #[(.slice none 0 0),C]) y) (Ias 1 c e λL=>St L J y λM=>Bp .add e (I 1) λN=>KS [f,m,c,t]<|F N M)) (R (.tuple #[c,(I 0)]) u))
theorem Tz174 (h:Vz174 prog a0 a1 w R):Cl prog 174 #[a0,a1] w R:=
 tz 45 [(.tmp 4),(.tmp 5)] (s z (s z (s (s z (i (s z z) z)) (s z (s (s z (b (l [25] [0,6,8,24] (s z (s (i z z) (s (b (s z (s z (s (s z (i (s z z) z)) z)))) z)))))) (s z z)))))) [a0,a1] func174 h
def Vz175:VT2:=λP e c w R=>
 Cl P 186 #[c] w λy u=>Up .not y λC=>Vif C (R (.tuple #[(.slice none 0 0),(I 1)]) u) (Lnl e λk=>VLoop 3 [(.slice none 0 0),(I 0),(I 0)] u λ_ v m p f q=>Bv .lss f k (Ias 1 e f λD=>Ld D q λg=>VJoin 1 (λ_ E t=>Vif E (R (.tuple #[(.slice none 0 0),(I 1)]) t) (Bv .eql g (I 0) (Bp .add p (I 1) λF=>Bp .add f (I 1) λG=>KS [c,e,k]<|v m F G t) (Cl P 187 #[p] t λJ L=>Ap P #[69,69] 69 #[m,J] L λM N=>Bp .add g (I 1) λO=>Bs P 69 1 #[(0,O)] N λQ S=>Ap P #[69,69] 69 #[M,Q] S λU W=>Bp .add f (I 1) λY=>KS [c,e,k]<|v U (I 0) Y W))) (λJ21=>Bp .lss g (I 0) λZ=>Vif Z (KS [c,m,p,g,e,k,f]<|J21 (.bool true) q) (Bp .geq g c λa0=>KS [c,m,p,g,e,k,f]<|J21 a0 q))) (Cl P 187 #[p] q λa1 a2=>Ap P #[69,69] 69 #[m,a1] a2 λa3 a4=>Bp .add c (I 1) λa5=>Bs P 69 1 #[(0,a5)] a4 λa6 a7=>Ap P #[69,69] 69 #[a3,a6] a7 λa8 a9=>R (.tuple #[a8,(I 0)]) a9))
theorem Tz175 (h:Vz175 prog a0 a1 w R):Cl prog 175 #[a0,a1] w R:=
 tz 51 [(.tmp 4),(.tmp 5)] (s z (s (s z (i (s z z) z)) (s z (s z (s (s z (b (l [6,7,15] [1,13,14] (s z (s (i z z) (s (b (s z (s (b (j [19] [1,6,7,9,13,14,15] z (i (s z z) (s z (i (s z z) z))))) (s z (s z z))))) z)))))) (s z (s z z))))))) [a0,a1] func175 h
def Vz176:VT2:=λP g E w R=>
 Cl P 188 #[g,E] w λp F=>Ex p 0 λG=>Ex p 1 λq=>New (zeroP P 251) 251 F λc J=>StA 2 c G J λe=>Bv .neq q (I 0) (R (.tuple #[(I 0),q]) e) (Fo 1 c λL=>Ld L e λM=>Fo 0 c λN=>Ld N e λO=>Lnl O λQ=>Cl P 189 #[M,Q] e λt u=>Ex t 0 λS=>Ex t 1 λa8=>Fo 0 c λU=>Ld U u λk=>Lnl k λv=>VLoop 2 [S,(I 0)] u λ_ W y m f=>Bv .lss m v (Ias 1 k m λY=>Ld Y f λZ=>Cl P 190 #[Z] f λC a0=>Ex C 0 λa1=>Ex C 1 λa9=>Bp .add y a1 λa2=>Bp .add m (I 1) λa3=>KS [g,c,k,v]<|W a2 a3 a0) (LdA 2 c f λa4=>Cl P 191 #[g,a4] f λD a5=>Ex D 0 λa6=>Ex D 1 λb0=>Bp .add y a6 λa7=>R (.tuple #[a7,(I 0)]) a5))
theorem Tz176 (h:Vz176 prog a0 a1 w R):Cl prog 176 #[a0,a1] w R:=
 tz 59 [(.tmp 4),(.tmp 5)] (s z (s z (s (s z (i (s z z) z)) (s z (s (s z (b (l [8,37] [0,6,35,36] (s z (s (i z z) (s (b (s z (s z z))) z)))))) (s z (s z z))))))) [a0,a1] func176 h
def Vz177:VT2:=λP c u w R=>
 Bn P 173 false c (.pointer none) λG=>Vif G (R (I 7) w) (Cl P 192 #[u] w λJ v=>Up .not J λL=>Vif L (R (I 1) v) (Cl P 193 #[u] v λM N=>New (zeroP P 256) 256 N λe O=>StA 16 e M O λy=>LdA 16 e y λk=>VLoop 2 [(.int .u32 0),(I 0)] y λ_ C m f p=>Bv .lss f (I 16) (Ixa 16 1 false k f λQ=>Bv .neq Q (.int .u32 0) (Bp .sub (I 15) f λS=>Bp .shl (.int .u32 1) S λU=>Bp .or m U λW=>Bp .add f (I 1) λY=>KS [c,e,k]<|C W Y p) (Bp .add f (I 1) λZ=>KS [c,e,k]<|C m Z p)) (Cl P 72 #[c,m,(I 16)] p λa4 D=>LdA 16 e D λq=>VLoop 1 [(I 0)] D λ_ E g t=>Bp .lss g (I 16) λa0=>Vif a0 (Ixa 16 1 false q g λF=>Bv .neq F (.int .u32 0) (Cl P 72 #[c,F,(I 16)] t λa5 a1=>Bp .add g (I 1) λa2=>KS [c,q]<|E a2 a1) (Bp .add g (I 1) λa3=>KS [c,q]<|E a3 t)) (R (I 0) t))))
theorem Tz177 (h:Vz177 prog a0 a1 w R):Cl prog 177 #[a0,a1] w R:=
 tz 46 [(.tmp 4)] (s z (s (b (s z (i (s z z) (s z (i (s z z) z))))) (s z (s z (s (s z (b (l [6,21] [0,5,20] (s z (s (i z z) (s (b (s z (s z (i z z)))) z)))))) (s z (s (s z (b (l [37] [0,36] (s z (s (i z z) (s (b (s z (s z (i z z)))) z)))))) (s z z)))))))) [a0,a1] func177 h
def Vz178:VT3:=λP e g J w R=>
 Bn P 173 false e (.pointer none) λL=>Vif L (R (I 7) w) (Cl P 188 #[g,J] w λv M=>Ex v 0 λN=>Ex v 1 λy=>New (zeroP P 251) 251 M λc O=>StA 2 c N O λk=>Bv .neq y (I 0) (R y k) (Fo 1 c λQ=>Ld Q k λS=>Fo 0 c λU=>Ld U k λW=>Lnl W λY=>Cl P 194 #[e,S,Y] k λc3 C=>Fo 0 c λZ=>Ld Z C λp=>Lnl p λD=>VLoop 2 [(.slice none 0 0),(I 0)] C λ_ a0 q t u=>Bv .lss t D (Ias 1 p t λa1=>Ld a1 u λE=>Cl P 195 #[e,E] u λc4 a2=>Cl P 196 #[E] a2 λF a3=>Ex F 0 λa4=>Ex F 1 λc5=>Bs P 258 1 #[(0,a4)] a3 λa5 a6=>Ap P #[258,258] 258 #[q,a5] a6 λa7 a8=>Bp .add t (I 1) λa9=>KS [e,g,c,p,D]<|a0 a7 a9 a8) (Lnl g λG=>VLoop 1 [(I 0)] u λ_ b0 m f=>Bp .lss m G λb1=>Vif b1 (Ias 1 g m λb2=>Ld b2 f λb3=>Fo 1 c λb4=>Ld b4 f λb5=>Bp .quo m (I 50) λb6=>Ias 1 b5 b6 λb7=>Ld b7 f λb8=>Ias 1 q b8 λb9=>Ld b9 f λc0=>Cl P 197 #[c0,e,b3] f λc6 c1=>Bp .add m (I 1) λc2=>KS [e,c,q,g,G]<|b0 c2 c1) (R (I 0) f))))
theorem Tz178 (h:Vz178 prog a0 a1 a2 w R):Cl prog 178 #[a0,a1,a2] w R:=
 tz 74 [(.tmp 6)] (s z (s (s z (i (s z z) z)) (s z (s (s z (i (s z z) z)) (s z (s z (s (s z (b (l [9,37] [0,1,7,35,36] (s z (s (i z z) (s (b (s z (s z (s z z)))) z)))))) (s (s z (b (l [56] [0,7,9,54,55] (s z (s (i z z) (s (b (s z z)) z)))))) (s z z))))))))) [a0,a1,a2] func178 h
def Vz179:VT1:=λP F w R=>
 New F 82 w λc t=>Fo 0 c λG=>Ld G t λJ=>Bs P 84 1 #[(0,J)] t λL M=>Cw P 84 9 L M λf e=>Fo 1 c λN=>Ld N e λO=>Bv .lss O (I 4) (Fo 1 c λQ=>Ld Q e λS=>Cl P 198 #[f,S] e λU W=>R U W) (Dr e λg=>Fo 1 c λk=>Ld k g λm=>Bp .sub m (I 4) λY=>Ci .u8 Y λu=>(Cl P 198 #[f,(I 4)] g λZ v=>Rk (λw K=>Ld k w λp=>K p) m v<|Bs P 84 1 #[(0,u)] v λa0 y=>Cv P 84 9 a0 y λa1=>Bp .add Z a1 λa2=>R a2 y)/\(Bs P 84 1 #[(0,u)] g λC D=>Cv P 84 9 C D λE=>Cl P 198 #[f,(I 4)] D λa3 q=>Rk (λw K=>Cv P 84 9 C w λa4=>K a4) E q<|Rk (λw K=>Ld k w λp=>K p) m q<|Bp .add a3 E λa5=>R a5 q))
theorem Tz179 (h:Vz179 prog a0 w R):Cl prog 179 #[a0] w R:=
 tz 24 [(.tmp 2)] (s z (s z (s (s z (i (s z z) z)) (s (r (.tree [0,1,0,4,12,28,60,124,255,511] (.op 0 (.op 2 (.op 3 (.op 4 (.op 5 (.fk (.op 1 (.op 6 (.op 7 (.op 8 (.op 9 .dn))))) (.op 6 (.op 7 (.op 1 (.op 8 (.op 9 .dn))))))))))))) z)))) [a0] func179 h
def Vz180:VT3:=λP c e f w R=>
 Bp .shl e (.int .u64 8) λg=>Bp .shr e (.int .u64 24) λk=>Ci .u8 k λm=>Bp .xor m f λp=>Nc c<|Iaa 256 1 c p λq=>Ld q w λt=>Bp .xor g t λu=>R u w
theorem Tz180 (h:Vz180 prog a0 a1 a2 w R):Cl prog 180 #[a0,a1,a2] w R:=
 tz 19 [(.tmp 6)] (s z (s z z)) [a0,a1,a2] func180 h
def Vz181:VT3:=λP g k m w R=>
 Cl P 199 #[g,k] w λp q=>Cl P 199 #[g,m] q λt u=>New (zeroP P 264) 264 u λe v=>New (zeroP P 264) 264 v λf y=>StA 2 e p y λC=>StA 2 f t C λc=>Iaa 2 1 e (I 0) λD=>Ld D c λE=>Iaa 2 1 f (I 0) λF=>Ld F c λG=>Bv .gtr E G (R (.bool true) c) (Iaa 2 1 e (I 0) λJ=>Ld J c λL=>Iaa 2 1 f (I 0) λM=>Ld M c λN=>Bv .eql L N (Iaa 2 1 e (I 1) λO=>Ld O c λQ=>Iaa 2 1 f (I 1) λS=>Ld S c λU=>Bp .gtr Q U λW=>R W c) (R (.bool false) c))
theorem Tz181 (h:Vz181 prog a0 a1 a2 w R):Cl prog 181 #[a0,a1,a2] w R:=
 tz 34 [(.tmp 6)] (s z (s z (s z z))) [a0,a1,a2] func181 h
def Vz182:VT1:=λP c w R=>
 Nc c<|Fo 2 c λq=>Ld q w λt=>Nc c<|Fo 3 c λu=>Ld u w λv=>Nc c<|Fo 2 c λy=>St y v w λC=>Nc c<|Fo 3 c λD=>St D t C λE=>Nc c<|Fo 12 c λF=>St F (I 0) E λG=>VJoin 1 (λ_ J f=>Vif J (Nc c<|Fo 15 c λL=>St L (.bool true) f λM=>R (.tuple #[]) M) (Nc c<|Fo 4 c λN=>Ld N f λO=>Bp .mul (I 2) O λQ=>Bmax P #[3,3] 3 #[(I 1),Q] f λS=>Nc c<|Fo 4 c λU=>St U S f λW=>Dr W λg=>Nc c<|Fo 5 c λk=>Ld k g λm=>Nc c<|Fo 1 c λY=>Ld Y g λZ=>Lnl Z λa0=>Bd P 229 #[(0,(I 0)),(2,a0)] g λa1=>Bs P 227 1 #[(0,a1)] g λa2 p=>Rk (λw K=>Ld k w λa3=>K a3) m p<|Ap P #[227,227] 227 #[m,a2] p λa4 a5=>Nc c<|Fo 5 c λa6=>St a6 a4 a5 λa7=>R (.tuple #[]) a7)) (λJ28=>Dr G λe=>Nc c<|Fo 13 c λa8=>Ld a8 e λa9=>Nc c<|Fo 1 c λb0=>Ld b0 e λb1=>Lnl b1 λb2=>Bp .sub b2 (I 1) λb3=>Bp .eql a9 b3 λb4=>Vif b4 (KS [c]<|J28 (.bool true) e) (Nc c<|Fo 4 c λb5=>Ld b5 e λb6=>Nc c<|Fo 1 c λb7=>Ld b7 e λb8=>Lnl b8 λb9=>Bp .geq b6 b9 λc0=>KS [c]<|J28 c0 e))
theorem Tz182 (h:Vz182 prog a0 w R):Cl prog 182 #[a0] w R:=
 tz 71 [] (s z (s z (s z (s z (s (j [43] [0] (r (.staged [0,1,3,7,0,16,48,112,240,496,1023,2047,4095,8191,16383,32767,4095,69631,200703,462847,987135,2097151,4194303])) (i (s z z) z)) (s z (r (.staged [0,0,2,6,14,0,32,96,224,480,992,2016,4094,8191,16383,32767])))))))) [a0] func182 h
def Vz183:VT1:=λP p w R=>
 New p 245 w λq k=>LdA 256 q k λe=>VLoop 2 [(.slice none 0 0),(I 0)] k λ_ m f c g=>Bv .lss c (I 256) (Ixa 256 1 false e c λt=>Vif t (Ci .u8 c λu=>Bs P 84 1 #[(0,u)] g λv y=>Ap P #[84,84] 84 #[f,v] y λC D=>Bp .add c (I 1) λE=>KS [e]<|m C E D) (Bp .add c (I 1) λF=>KS [e]<|m f F g)) (Cw P 84 9 f g λG J=>R G J)
theorem Tz183 (h:Vz183 prog a0 w R):Cl prog 183 #[a0] w R:=
 tz 20 [(.tmp 2)] (s z (s z (s (s z (b (l [3,7] [6] (s z (s (i z z) (s (b (s z (s z (i z z)))) z)))))) (s z z)))) [a0] func183 h
def Vz184:VT1:=λP c w R=>
 Cl P 192 #[c] w λg e=>Up .not g λk=>Vif k (R (.tuple #[(.pointer none),(I 1)]) e) (Cw P 9 84 c e λm f=>Bd P 267 #[(0,m)] f λp=>New p 267 f λq t=>R (.tuple #[q,(I 0)]) t)
theorem Tz184 (h:Vz184 prog a0 w R):Cl prog 184 #[a0] w R:=
 tz 11 [(.tmp 2),(.tmp 3)] (s z (s (s z (i (s z z) z)) (s z z))) [a0] func184 h
def Vz185:VT2:=λP c g w R=>
 Bn P 267 false c (.pointer none) λk=>Vif k (R (.tuple #[(I 0),(I 7)]) w) (Nc c<|Fo 0 c λm=>Ld m w λp=>Cl P 200 #[p,g] w λe f=>Bv .lss e (I 0) (R (.tuple #[(I 0),(I 6)]) f) (Cl P 201 #[c,e] f λt q=>R (.tuple #[e,(I 0)]) q))
theorem Tz185 (h:Vz185 prog a0 a1 w R):Cl prog 185 #[a0,a1] w R:=
 tz 21 [(.tmp 4),(.tmp 5)] (s z (s (s z (i (s z z) z)) (s z (s (s z (i (s z z) z)) (s z (s z z)))))) [a0,a1] func185 h
def Vz186:VT1:=λP c w R=>
 Bv .geq c (I 1) (Bp .leq c (I 256) λe=>R e w) (R (.bool false) w)
theorem Tz186 (h:Vz186 prog a0 w R):Cl prog 186 #[a0] w R:=
 tz 9 [(.tmp 2)] (s z (s z z)) [a0] func186 h
def Vz187:VT1:=λP k w R=>
 VLoop 2 [k,(.slice none 0 0)] w λ_ m c e f=>Bv .gtr c (I 0) (VJoin 1 (λ_ g p=>Bs P 69 1 #[(0,g)] p λq t=>Ap P #[69,69] 69 #[e,q] t λu v=>Bp .sub c g λy=>Bp .sub y (I 1) λC=>Bp .quo C (I 2) λD=>KS []<|m D u v) (λJ11=>Bp .rem c (I 2) λE=>Bp .eql E (I 1) λF=>Vif F (KS [c,e]<|J11 (I 0) f) (KS [c,e]<|J11 (I 1) f))) (R e f)
theorem Tz187 (h:Vz187 prog a0 w R):Cl prog 187 #[a0] w R:=
 tz 20 [(.tmp 2)] (s z (s z (s (b (l [0,3] [] (s (s z (i z z)) (b (s z (j [4] [0,3] (s z (i z z)) (s z z))))))) (s z z)))) [a0] func187 h
def Vz188:VT2:=λP c f w R=>
 New (zeroP P 251) 251 w λe k=>VJoin 1 (λ_ t g=>Vif t (Bd P 251 #[] g λu=>StA 2 e u g λm=>LdA 2 e m λv=>R (.tuple #[v,(I 1)]) m) (Cl P 203 #[c,f] g λp y=>Ex p 0 λC=>Ex p 1 λD=>StA 2 e C y λq=>LdA 2 e q λE=>R (.tuple #[E,D]) q)) (λJ9=>Lnl c λF=>Bv .eql F (I 0) (KS [c,f,e]<|J9 (.bool true) k) (Bp .sub f (I 1) λG=>Cl P 202 #[c,G] k λJ L=>Lnl c λM=>Bp .sub M (I 1) λN=>Bp .neq J N λO=>KS [c,f,e]<|J9 O L))
theorem Tz188 (h:Vz188 prog a0 a1 w R):Cl prog 188 #[a0,a1] w R:=
 tz 25 [(.cell 4 251),(.tmp 5)] (s z (s (j [18] [0,1,4] z (i (s z z) z)) (s z z))) [a0,a1] func188 h
def Vz189:VT2:=λP g q w R=>
 Cl P 204 #[g,q] w λt k=>Up .not t λu=>Vif u (R (.tuple #[(I 0),(I 1)]) k) (Cl P 205 #[g] k λc v=>Lnl c λm=>VLoop 2 [(I 18),(I 0)] v λ_ y p e f=>Bv .lss e m (Ias 1 c e λC=>Ld C f λD=>Bp .add D (I 1) λE=>Bp .add p E λF=>Bp .add e (I 1) λG=>KS [c,m]<|y F G f) (R (.tuple #[p,(I 0)]) f))
theorem Tz189 (h:Vz189 prog a0 a1 w R):Cl prog 189 #[a0,a1] w R:=
 tz 26 [(.tmp 4),(.tmp 5)] (s z (s (s z (i (s z z) z)) (s z (s (s z (b (l [6,16] [14,15] (s z (s (i z z) (s (b (s z z)) z)))))) (s z z))))) [a0,a1] func189 h
def Vz190:VT1:=λP e w R=>
 Cl P 206 #[e] w λm f=>Up .not m λp=>Vif p (R (.tuple #[(I 0),(I 1)]) f) (New (zeroP P 3) 3 f λc q=>St c (I 0) q λg=>Mf P (.func 208) #[] #[c] g λt=>Cl P 207 #[e,t] g λv k=>Ld c k λu=>R (.tuple #[u,(I 0)]) k)
theorem Tz190 (h:Vz190 prog a0 w R):Cl prog 190 #[a0] w R:=
 tz 12 [(.tmp 2),(.tmp 3)] (s z (s (s z (i (s z z) z)) (s z (s z (s z z))))) [a0] func190 h
def Vz191:VT2:=λP f M w R=>
 New M 251 w λe N=>Dr N λC=>Fo 1 e λD=>Ld D C λu=>Lnl u λE=>Lnl f λO=>Cl P 209 #[O] C λQ g=>Rk (λw K=>Lnl u λS=>K S) E g<|Rk (λw K=>Ld D w λU=>K U) u g<|Bv .neq E Q (R (.tuple #[(I 0),(I 1)]) g) (Fo 1 e λW=>Ld W g λk=>Lnl k λq=>VLoop 2 [(I 0),(I 0)] g λ_ Y t c m=>Bv .lss c q (Ias 1 k c λZ=>Ld Z m λp=>VJoin 1 (λ_ a0 F=>Vif a0 (R (.tuple #[(I 0),(I 1)]) F) (Cl P 210 #[f,c] F λG v=>Ex G 0 λa1=>Ex G 1 λb5=>Fo 0 e λa2=>Ld a2 v λa3=>Ias 1 a3 p λa4=>Ld a4 v λa5=>Cl P 211 #[a1,a5] v λJ y=>Ex J 0 λa6=>Ex J 1 λL=>Bv .neq L (I 0) (R (.tuple #[(I 0),L]) y) (Bp .add t a6 λa7=>Bmin P #[3,3] 3 #[a7,(I 1099511627776)] y λa8=>Bp .add c (I 1) λa9=>KS [f,e,k,q]<|Y a8 a9 y))) (λJ35=>Bp .lss p (I 0) λb0=>Vif b0 (KS [f,e,t,c,p,k,q,c]<|J35 (.bool true) m) (Fo 0 e λb1=>Ld b1 m λb2=>Lnl b2 λb3=>Bp .geq p b3 λb4=>KS [f,e,t,c,p,k,q,c]<|J35 b4 m))) (R (.tuple #[t,(I 0)]) m))
theorem Tz191 (h:Vz191 prog a0 a1 w R):Cl prog 191 #[a0,a1] w R:=
 tz 62 [(.tmp 4),(.tmp 5)] (s z (s (s (r (.staged [0,1,3,0,8,24,63])) (i (s z z) z)) (s z (s (s z (b (l [6,23] [0,3,21,22] (s z (s (i z z) (s (b (s z (s (j [36] [0,3,6,7,8,21,22,23] z (i (s z z) z)) (s z (s z (s (s z (i (s z z) z)) z)))))) z)))))) (s z z))))) [a0,a1] func191 h
def Vz192:VT1:=λP c w R=>
 Lns c λf=>VLoop 1 [(I 0)] w λ_ p e g=>Bv .lss e f (VJoin 1 (λ_ q k=>Vif q (R (.bool false) k) (Bp .add e (I 1) λt=>KS [c,f]<|p t k)) (λJ7=>Dr g λm=>Bp .gtr e (I 0) λu=>Vif u (Ixs c e λv=>Bp .sub e (I 1) λy=>Ixs c y λC=>Bp .leq v C λD=>KS [c,f,e]<|J7 D m) (KS [c,f,e]<|J7 (.bool false) m))) (Bp .neq c (.string ⟨#[]⟩) λE=>R E g)
theorem Tz192 (h:Vz192 prog a0 w R):Cl prog 192 #[a0] w R:=
 tz 24 [(.tmp 2)] (s z (s (s z (b (l [6] [0,5] (s z (s (i z z) (s (b (s z (j [20] [0,5,6] (r (.staged [0,1,3,7,7,31,7,7,135,455,1023,2047])) (i (s z z) z)))) z)))))) (s z z))) [a0] func192 h
def Vz193:VT1:=λP f w R=>
 New (zeroP P 256) 256 w λg u=>New (zeroP P 256) 256 u λc v=>Lns f λm=>VLoop 1 [(I 0)] v λ_ y k e=>Bv .lss k m (Ixs f k λp=>Bp .quo p (.int .u8 16) λq=>Iaa 16 1 c q λC=>Ld C e λD=>Bp .rem p (.int .u8 16) λE=>Bp .sub (.int .u8 15) E λF=>Bp .shl (.int .u32 1) F λG=>Bp .or D G λJ=>Iaa 16 1 c q λL=>St L J e λM=>Bp .add k (I 1) λN=>KS [f,g,c,m]<|y N M) (LdA 16 c e λO=>StA 16 g O e λt=>LdA 16 g t λQ=>R Q t)
theorem Tz193 (h:Vz193 prog a0 w R):Cl prog 193 #[a0] w R:=
 tz 26 [(.cell 2 256)] (s z (s z (s (s z (b (l [8] [0,2,3,7] (s z (s (i z z) (s (b (s z (s z z))) z)))))) (s z z)))) [a0] func193 h
def Vz194:VT3:=λP c e m w R=>
 Bn P 173 false c (.pointer none) λu=>Vif u (R (I 7) w) (Cl P 204 #[e,m] w λv p=>Up .not v λy=>Vif y (R (I 1) p) (Ci .u32 m λC=>Cl P 72 #[c,C,(I 3)] p λY D=>Lnl e λE=>Ci .u32 E λF=>Cl P 72 #[c,F,(I 15)] D λZ G=>Cl P 205 #[e] G λf J=>Lnl f λq=>VLoop 1 [(I 0)] J λ_ L g k=>Bv .lss g q (Ias 1 f g λM=>Ld M k λt=>Bp .add t (I 1) λN=>Bp .shl (.int .u32 1) N λO=>Bp .sub O (.int .u32 2) λQ=>Bp .add t (I 1) λS=>Cl P 72 #[c,Q,S] k λa0 U=>Bp .add g (I 1) λW=>KS [c,f,q]<|L W U) (R (I 0) k)))
theorem Tz194 (h:Vz194 prog a0 a1 a2 w R):Cl prog 194 #[a0,a1,a2] w R:=
 tz 42 [(.tmp 6)] (s z (s (b (s z (i (s z z) (s z (i (s z z) z))))) (s z (s z (s (s z (b (l [29] [0,27,28] (s z (s (i z z) (s (b (s z z)) z)))))) (s z z)))))) [a0,a1,a2] func194 h
def Vz195:VT2:=λP k f w R=>
 New k 139 w λg c=>Ld g c λm=>Bn P 173 false m (.pointer none) λp=>Vif p (R (I 7) c) (Cl P 206 #[f] c λq e=>Up .not q λt=>Vif t (R (I 1) e) (Mf P (.func 212) #[] #[g] e λu=>Cl P 207 #[f,u] e λy v=>R (I 0) v))
theorem Tz195 (h:Vz195 prog a0 a1 w R):Cl prog 195 #[a0,a1] w R:=
 tz 15 [(.tmp 4)] (s z (s (b (s z (i (s z z) (s z (i (s z z) z))))) (s z (s z z)))) [a0,a1] func195 h
def Vz196:VT1:=λP c w R=>
 VJoin 1 (λ_ N y=>Vif N (R (.tuple #[(.pointer none),(I 1)]) y) (Cl P 213 #[c] y λO C=>Up .not O λQ=>Vif Q (R (.tuple #[(.pointer none),(I 22)]) C) (VJoin 1 (λ_ e S=>VLoop 2 [(I 0),(I 1)] S λ_ U W f D=>Bv .leq f (I 20) (Bp .mul W (I 2) λE=>Nc e<|Fo 3 e λY=>Iaa 21 1 Y f λZ=>St Z E D λa0=>Dr a0 λF=>Nc e<|Fo 2 e λa1=>Ld a1 F λa2=>Lnl a2 λa3=>Nc e<|Fo 24 e λa4=>Iaa 22 1 a4 f λa5=>St a5 a3 F λa6=>Lnl c λp=>VLoop 2 [E,(I 0)] a6 λ_ G m g k=>Bp .lss g p λa7=>Vif a7 (Ias 1 c g λa8=>Ld a8 k λa9=>Bv .eql a9 f (Nc e<|Fo 1 e λb0=>Ld b0 k λb1=>Ci .u32 m λb2=>Ias 1 b1 g λb3=>St b3 b2 k λJ=>Nc e<|Fo 2 e λb4=>Ld b4 J λb5=>Bs P 69 1 #[(0,g)] J λb6 b7=>Ap P #[69,69] 69 #[b5,b6] b7 λb8 b9=>Nc e<|Fo 2 e λc0=>St c0 b8 b9 λc1=>Bp .add m (I 1) λc2=>Bp .add g (I 1) λc3=>KS [c,e,f,c,p]<|G c2 c3 c1) (Bp .add g (I 1) λc4=>KS [c,e,f,c,p]<|G m c4 k)) (Bp .add f (I 1) λc5=>KS [c,e]<|U m c5 k)) (Dr D λL=>Nc e<|Fo 2 e λc6=>Ld c6 L λc7=>Lnl c7 λc8=>Nc e<|Fo 24 e λc9=>Iaa 22 1 c9 (I 21) λd0=>St d0 c8 L λd1=>R (.tuple #[e,(I 0)]) d1)) (λJ47=>Dr C λq=>(Cl P 161 #[c] q λd2 d3=>Lnl c λt=>Rk (λw K=>Lnl c λd4=>K d4) t q<|Ms P 59 t t d3 λd5 M=>Bd P 278 #[(0,d2),(1,d5)] M λd6=>New d6 278 M λd7 d8=>KS [c]<|J47 d7 d8)/\(Lnl c λu=>Ms P 59 u u q λd9 e0=>Cl P 161 #[c] e0 λe1 v=>Rk (λw K=>Lnl c λe2=>K e2) u v<|Bd P 278 #[(0,e1),(1,d9)] v λe3=>New e3 278 v λe4 e5=>KS [c]<|J47 e4 e5))))) (λJ63=>Lnl c λe6=>Bp .lss e6 (I 3) λe7=>Vif e7 (KS [c]<|J63 (.bool true) w) (Lnl c λe8=>Bp .gtr e8 (I 258) λe9=>KS [c]<|J63 e9 w))
theorem Tz196 (h:Vz196 prog a0 w R):Cl prog 196 #[a0] w R:=
 tz 92 [(.tmp 2),(.tmp 3)] (s z (s (b (j [9] [0] z (i (s z z) (s z (i (s z z) z))))) (j [4] [0] (r (.two [0,1,0,4,12,31,63,127] 1 4 [0,1,2,3,4,5,6,7] [0,2,3,4,1,5,6,7])) (s z (s (s z (b (l [5,6] [0,4] (s (s z (i z z)) (s (b (s z (s z (s (r (.staged [0,0,0,4,12,28,60,1,129,511,1023])) (s z (b (l [5,53] [0,4,6,51,52] (s z (s (i z z) (s (b (s z (s z (i (s z (s z z)) z)))) z)))))))))) z))))) (s (r (.staged [0,0,2,6,14,30,1,65,255,511])) (s z z))))))) [a0] func196 h
def Vz197:VT3:=λP k e m w R=>
 Bn P 173 false e (.pointer none) λp=>Vif p (R (I 7) w) (Cl P 214 #[k,m] w λc f=>Ex c 0 λq=>Ex c 1 λt=>Ex c 2 λg=>Bv .neq g (I 0) (R g f) (Cl P 72 #[e,q,t] f λu v=>R u v))
theorem Tz197 (h:Vz197 prog a0 a1 a2 w R):Cl prog 197 #[a0,a1,a2] w R:=
 tz 26 [(.tmp 6)] (s z (s (s z (i (s z z) z)) (s z (s (s z (i (s z z) z)) (s z z))))) [a0,a1,a2] func197 h
def Vz199:VT2:=λP c k w R=>
 New (zeroP P 264) 264 w λg f=>Nc c<|Fo 4 c λq=>Ld q f λt=>Bv .eql t (I 0) (Nc c<|Fo 0 c λu=>Ld u f λv=>Ixs v k λy=>Ci .i64 y λC=>Bd P 264 #[(0,C),(1,(I 0))] f λD=>StA 2 g D f λm=>LdA 2 g m λE=>R E m) (Dr f λe=>Nc c<|Fo 2 c λF=>Ld F e λG=>Ias 1 G k λJ=>Ld J e λL=>Nc c<|Fo 2 c λM=>Ld M e λN=>Nc c<|Fo 4 c λO=>Ld O e λQ=>Bp .add k Q λS=>Nc c<|Fo 0 c λU=>Ld U e λW=>Lns W λY=>Bp .rem S Y λZ=>Ias 1 N Z λa0=>Ld a0 e λa1=>Bd P 264 #[(0,L),(1,a1)] e λa2=>StA 2 g a2 e λp=>LdA 2 g p λa3=>R a3 p)
theorem Tz199 (h:Vz199 prog a0 a1 w R):Cl prog 199 #[a0,a1] w R:=
 tz 44 [(.cell 4 264)] (s z (s (s z (i (s z z) z)) (s (r (.staged [0,1,3,7,0,31,63,0,128,384,896,0,0,4096,12288,28672,63488,0,131072,393216,917504,1966080,4192256,8388480,16777088,33554431,67108863])) z))) [a0,a1] func199 h
def Vz200:VT2:=λP c e w R=>
 Cx P 221 #[c,e] w λf g=>R f g
theorem Tz200 (h:Vz200 prog a0 a1 w R):Cl prog 200 #[a0,a1] w R:=
 tz 8 [(.tmp 4)] (s z (s z z)) [a0,a1] func200 h
def Vz201:VT2:=λP c e w R=>
 Nc c<|Fo 0 c λm=>Ld m w λp=>Ias 1 p e λq=>Ld q w λg=>Dr w λf=>Nc c<|Fo 0 c λt=>Ld t f λu=>Bp .add e (I 1) λv=>Ssl 1 u (some (I 1)) (some v) λy=>Nc c<|Fo 0 c λC=>Ld C f λD=>Ssl 1 D none (some e) λE=>Cp P #[84,84] 3 #[y,E] f λM k=>Nc c<|Fo 0 c λF=>Ld F k λG=>Ias 1 G (I 0) λJ=>St J g k λL=>R g L
theorem Tz201 (h:Vz201 prog a0 a1 w R):Cl prog 201 #[a0,a1] w R:=
 tz 34 [(.tmp 4)] (s z (s z (s (r (.staged [0,1,3,7,0,16,63,0,128,384,896,0,3968,8191])) (s z (s z z))))) [a0,a1] func201 h
def Vz202:VT2:=λP f g w R=>
 Lnl f λk=>VLoop 1 [(I 0)] w λ_ m c e=>Bv .lss c k (Ias 1 f c λp=>Ld p e λq=>Bv .eql g q (R c e) (Bp .add c (I 1) λt=>KS [f,g,k]<|m t e)) (R (I (-1)) e)
theorem Tz202 (h:Vz202 prog a0 a1 w R):Cl prog 202 #[a0,a1] w R:=
 tz 19 [(.tmp 4)] (s z (s (s z (b (l [8] [0,1,7] (s z (s (i z z) (s (b (s z (s z (i (s z z) z)))) z)))))) (s z z))) [a0,a1] func202 h
def Vz203:VT2:=λP e f w R=>
 New (zeroP P 251) 251 w λc L=>Cl P 222 #[e,f] L λt u=>Ex t 0 λm=>Ex t 1 λM=>VJoin 1 (λ_ N p=>Vif N (Bd P 251 #[] p λO=>StA 2 c O p λv=>LdA 2 c v λQ=>R (.tuple #[Q,(I 1)]) v) (Lnl e λS=>Cl P 209 #[S] p λU q=>Bv .gtr U (I 32767) (Bd P 251 #[] q λW=>StA 2 c W q λy=>LdA 2 c y λY=>R (.tuple #[Y,(I 2)]) y) (Cl P 223 #[e] q λC Z=>Lnl e λa0=>Cl P 224 #[m,a0] Z λa1 D=>Bd P 251 #[(0,a1)] D λa2=>New (zeroP P 251) 251 D λg a3=>StA 2 g a2 a3 λa4=>VLoop 1 [(I 0)] a4 λ_ a5 E k=>Bv .lss E (I 4) (Fo 0 g λa6=>Ld a6 k λa7=>Cl P 225 #[C,a7,f] k λF G=>Ex F 0 λa8=>Ex F 1 λa9=>Bd P 251 #[(0,a9),(1,a8)] G λb0=>StA 2 g b0 G λb1=>Bp .add E (I 1) λb2=>KS [f,c,C,g]<|a5 b2 b1) (LdA 2 g k λb3=>StA 2 c b3 k λJ=>LdA 2 c J λb4=>R (.tuple #[b4,(I 0)]) J)))) (λJ30=>Bp .neq M (I 0) λb5=>Vif b5 (KS [e,f,c,m]<|J30 (.bool true) u) (Lnl e λb6=>Bp .eql b6 (I 0) λb7=>KS [e,f,c,m]<|J30 b7 u))
theorem Tz203 (h:Vz203 prog a0 a1 w R):Cl prog 203 #[a0,a1] w R:=
 tz 55 [(.cell 4 251),(.tmp 5)] (s z (s z (s (b (j [18] [0,1,4,6] z (i (s z z) (s z (i (s z z) z))))) (s z (s z (s (s z (b (l [40] [1,4,8,9] (s z (s (i z z) (s (b (s z z)) z)))))) (s z z))))))) [a0,a1] func203 h
def Vz204:VT2:=λP c m w R=>
 New m 3 w λe k=>VJoin 1 (λ_ p f=>Vif p (R (.bool false) f) (Mf P (.func 228) #[] #[e] f λq=>Cl P 227 #[c,q] f λt u=>Up .not t λv=>R v u)) (λJ6=>Ld e k λy=>Cl P 226 #[y] k λC g=>Up .not C λD=>Vif D (KS [c,e]<|J6 (.bool true) g) (Lnl c λE=>Bv .eql E (I 0) (KS [c,e]<|J6 (.bool true) g) (Lnl c λF=>Bp .gtr F (I 32767) λG=>KS [c,e]<|J6 G g)))
theorem Tz204 (h:Vz204 prog a0 a1 w R):Cl prog 204 #[a0,a1] w R:=
 tz 22 [(.tmp 4)] (s z (s (j [17] [0,3] z (i (s z z) z)) (s z z))) [a0,a1] func204 h
def Vz205:VT1:=λP c w R=>
 Cl P 229 #[] w λq t=>New (zeroP P 296) 296 t λf u=>StA 6 f q u λv=>Lnl c λm=>Ms P 69 m m v λg y=>Lnl c λp=>VLoop 1 [(I 0)] y λ_ C e k=>Bv .lss e p (Ias 1 c e λD=>Ld D k λE=>Cl P 230 #[f,E] k λF G=>Ias 1 g e λJ=>St J F G λL=>Bp .add e (I 1) λM=>KS [f,g,c,p]<|C M L) (R g k)
theorem Tz205 (h:Vz205 prog a0 w R):Cl prog 205 #[a0] w R:=
 tz 25 [(.tmp 2)] (s z (s z (s z (s (s z (b (l [13] [3,4,11,12] (s z (s (i z z) (s (b (s z z)) z)))))) (s z z))))) [a0] func205 h
def Vz206:VT1:=λP c w R=>
 Lnl c λf=>Cl P 231 #[f] w λg e=>Vif g (Cl P 227 #[c,(.func (.func 232) #[] #[])] e λk m=>Up .not k λp=>R p m) (R (.bool false) e)
theorem Tz206 (h:Vz206 prog a0 w R):Cl prog 206 #[a0] w R:=
 tz 11 [(.tmp 2)] (s z (s z z)) [a0] func206 h
def Vz207:VT2:=λP e c w R=>
 Ias 1 e (I 0) λy=>Ld y w λt=>Inv P (do let d <-Deferred.ofValue c #[t,(I 5)];invoke d.target d.args) w λW C=>Lnl e λg=>VLoop 2 [t,(I 0)] C λ_ D E f m=>Bv .lss f g (Ias 1 e f λF=>Ld F m λk=>VLoop 1 [E] m λ_ G p u=>Bv .lss p k (Inv P (do let d <-Deferred.ofValue c #[(I 2),(I 2)];invoke d.target d.args) u λY J=>Bp .add p (I 1) λL=>KS [c,k,e,g,f]<|G L J) (VLoop 1 [p] u λ_ M q v=>Bp .gtr q k λN=>Vif N (Inv P (do let d <-Deferred.ofValue c #[(I 3),(I 2)];invoke d.target d.args) v λZ O=>Bp .sub q (I 1) λQ=>KS [c,k,e,g,f]<|M Q O) (Inv P (do let d <-Deferred.ofValue c #[(I 0),(I 1)];invoke d.target d.args) v λa0 S=>Bp .add f (I 1) λU=>KS [c,e,g]<|D q U S))) (R (.tuple #[]) m)
theorem Tz207 (h:Vz207 prog a0 a1 w R):Cl prog 207 #[a0,a1] w R:=
 tz 36 [] (s z (s z (s z (b (l [4,15] [1,13,14] (s z (s (i z z) (s (b (s z (s (b (l [4] [1,6,13,14,15] (s (s z (i z z)) (s (b z) z)))) (s (b (l [4] [1,6,13,14,15] (s (s z (i z z)) (s (b z) z)))) z)))) z)))))))) [a0,a1] func207 h
def Vz208:VT3:=λP m e c w R=>
 Ld c w λf=>Bp .add f e λg=>St c g w λk=>R (.tuple #[]) k
theorem Tz208 (h:Vz208 prog a0 a1 a2 w R):Cl prog 208 #[a0,a1,a2] w R:=
 tz 8 [] z [a0,a1,a2] func208 h
def Vz209:VT1:=λP c w R=>
 Bv .leq c (I 0) (R (I 0) w) (Bp .sub c (I 1) λe=>Bp .quo e (I 50) λf=>Bp .add f (I 1) λg=>R g w)
theorem Tz209 (h:Vz209 prog a0 w R):Cl prog 209 #[a0] w R:=
 tz 9 [(.tmp 2)] (s z (s (s z (i (s z z) z)) (s z z))) [a0] func209 h
def Vz210:VT2:=λP e c w R=>
 VJoin 1 (λ_ g f=>Vif g (R (.tuple #[(.slice none 0 0),(I 1)]) f) (Cl P 234 #[e,c,(I 50)] f λk m=>R (.tuple #[k,(I 0)]) m)) (λJ3=>Bv .lss c (I 0) (KS [e,c]<|J3 (.bool true) w) (Lnl e λp=>Cl P 209 #[p] w λq t=>Bp .geq c q λu=>KS [e,c]<|J3 u t))
theorem Tz210 (h:Vz210 prog a0 a1 w R):Cl prog 210 #[a0,a1] w R:=
 tz 18 [(.tmp 4),(.tmp 5)] (s z (s (j [14] [0,1] z (i (s z z) z)) (s z z))) [a0,a1] func210 h
def Vz211:VT2:=λP e c w R=>
 Cl P 235 #[c] w λu t=>Up .not u λv=>Vif v (R (.tuple #[(I 0),(I 1)]) t) (Lnl e λk=>VLoop 2 [(I 0),(I 0)] t λ_ y m f p=>Bv .lss f k (Ias 1 e f λC=>Ld C p λg=>VJoin 1 (λ_ D q=>Vif D (R (.tuple #[(I 0),(I 1)]) q) (Ias 1 c g λE=>Ld E q λF=>Cl P 236 #[m,F] q λG J=>Bp .add f (I 1) λL=>KS [c,e,k]<|y G L J)) (λJ15=>Bp .lss g (I 0) λM=>Vif M (KS [c,m,g,e,k,f]<|J15 (.bool true) p) (Lnl c λN=>Bp .geq g N λO=>KS [c,m,g,e,k,f]<|J15 O p))) (R (.tuple #[m,(I 0)]) p))
theorem Tz211 (h:Vz211 prog a0 a1 w R):Cl prog 211 #[a0,a1] w R:=
 tz 34 [(.tmp 4),(.tmp 5)] (s z (s (s z (i (s z z) z)) (s z (s (s z (b (l [6,14] [1,12,13] (s z (s (i z z) (s (b (s z (s (j [25] [1,6,8,12,13,14] z (i (s z z) z)) z))) z)))))) (s z z))))) [a0,a1] func211 h
def Vz212:VT3:=λP c e f w R=>
 Ld f w λg=>Ci .u32 c λk=>Cl P 72 #[g,k,e] w λp m=>R (.tuple #[]) m
theorem Tz212 (h:Vz212 prog a0 a1 a2 w R):Cl prog 212 #[a0,a1,a2] w R:=
 tz 10 [] z [a0,a1,a2] func212 h
def Vz213:VT1:=λP e w R=>
 Cl P 237 #[e] w λf c=>Ex f 0 λg=>Ex f 1 λk=>Bv .eql k (I 0) (Bv .eql g (I 1048576) (Cl P 238 #[e,(I 0)] c λm p=>Up .not m λq=>R q p) (R (.bool false) c)) (R (.bool false) c)
theorem Tz213 (h:Vz213 prog a0 w R):Cl prog 213 #[a0] w R:=
 tz 21 [(.tmp 2)] (s z (s z (s z z))) [a0] func213 h
def Vz214:VT2:=λP c e w R=>
 Bn P 278 false c (.pointer none) λk=>Vif k (R (.tuple #[(.int .u32 0),(I 0),(I 7)]) w) (VJoin 1 (λ_ m g=>Vif m (R (.tuple #[(.int .u32 0),(I 0),(I 1)]) g) (Dr g λf=>Nc c<|Fo 1 c λp=>Ld p f λq=>Ias 1 q e λt=>Ld t f λu=>Nc c<|Fo 0 c λv=>Ld v f λy=>Ias 1 y e λC=>Ld C f λD=>R (.tuple #[u,D,(I 0)]) f)) (λJ15=>Bv .lss e (I 0) (KS [c,e]<|J15 (.bool true) w) (Nc c<|Fo 0 c λE=>Ld E w λF=>Lnl F λG=>Bp .geq e G λJ=>KS [c,e]<|J15 J w)))
theorem Tz214 (h:Vz214 prog a0 a1 w R):Cl prog 214 #[a0,a1] w R:=
 tz 36 [(.tmp 4),(.tmp 5),(.tmp 6)] (s z (s (b (s z (i (s z z) (j [10] [0,1] z (i (s z z) z))))) (s (r (.staged [0,1,3,7,0,31,63,0,128,384,896,0,3968,8064,127,32767,65535])) z))) [a0,a1] func214 h
def Vz222:VT2:=λP e c w R=>
 VJoin 1 (λ_ u t=>Vif u (R (.tuple #[(.slice none 0 0),(I 1)]) t) (Ms P 69 c c t λf v=>Lnl e λm=>VLoop 1 [(I 0)] v λ_ y k p=>Bv .lss k m (Ias 1 e k λC=>Ld C p λg=>VJoin 1 (λ_ D q=>Vif D (R (.tuple #[(.slice none 0 0),(I 1)]) q) (Ias 1 f g λE=>Ld E q λF=>Bp .add F (I 1) λG=>Ias 1 f g λJ=>St J G q λL=>Bp .add k (I 1) λM=>KS [c,f,e,m]<|y M L)) (λJ15=>Bp .lss g (I 0) λN=>Vif N (KS [c,f,g,e,m,k]<|J15 (.bool true) p) (Bp .geq g c λO=>KS [c,f,g,e,m,k]<|J15 O p))) (R (.tuple #[f,(I 0)]) p))) (λJ18=>Bp .lss c (I 3) λQ=>Vif Q (KS [e,c]<|J18 (.bool true) w) (Bp .gtr c (I 258) λS=>KS [e,c]<|J18 S w))
theorem Tz222 (h:Vz222 prog a0 a1 w R):Cl prog 222 #[a0,a1] w R:=
 tz 38 [(.tmp 4),(.tmp 5)] (s z (s (j [14] [0,1] z (i (s z z) z)) (s z (s (s z (b (l [19] [1,6,17,18] (s z (s (i z z) (s (b (s z (s (j [29] [1,6,8,17,18,19] z (i (s z z) z)) z))) z)))))) (s z z))))) [a0,a1] func222 h
def Vz223:VT1:=λP c w R=>
 Lnl c λp=>Cl P 209 #[p] w λf q=>VLoop 2 [(.slice none 0 0),(I 0)] q λ_ t g e k=>Bv .lss e f (Cl P 210 #[c,e] k λm u=>Ex m 0 λv=>Ex m 1 λG=>Bs P 157 1 #[(0,v)] u λy C=>Ap P #[157,157] 157 #[g,y] C λD E=>Bp .add e (I 1) λF=>KS [c,f]<|t D F E) (R g k)
theorem Tz223 (h:Vz223 prog a0 w R):Cl prog 223 #[a0] w R:=
 tz 25 [(.tmp 2)] (s z (s z (s (s z (b (l [3,10] [0,9] (s z (s (i z z) (s (b (s z (s z z))) z)))))) (s z z)))) [a0] func223 h
def Vz224:VT2:=λP f g w R=>
 Cl P 244 #[g] w λk L=>Ms P 157 k k L λc M=>Lnl c λE=>VLoop 1 [(I 0)] M λ_ N u F=>Bv .lss u E (Lnl f λG=>Ms P 69 G G F λO Q=>Ias 1 c u λS=>St S O Q λU=>Bp .add u (I 1) λW=>KS [f,g,k,c,E]<|N W U) (Lnl f λq=>VLoop 2 [(I 0),(I 0)] F λ_ Y t e v=>Bp .lss e q λZ=>Vif Z (Ias 1 f e λa0=>Ld a0 v λy=>Bp .mul t k λa1=>Bp .quo a1 g λC=>Lnl c λD=>VLoop 1 [(I 0)] v λ_ J m p=>Bp .lss m D λa2=>Vif a2 (Bv .neq m C (Ias 1 c m λa3=>Ld a3 p λa4=>Ias 1 a4 e λa5=>St a5 (I 15) p λa6=>Bp .add m (I 1) λa7=>KS [g,k,c,t,e,y,C,f,q,e,D]<|J a7 a6) (Bp .add m (I 1) λa8=>KS [g,k,c,t,e,y,C,f,q,e,D]<|J a8 p)) (Bp .add t y λa9=>Bp .sub g (I 1) λb0=>Bmin P #[3,3] 3 #[a9,b0] p λb1=>Bp .add e (I 1) λb2=>KS [g,k,c,f,q]<|Y b1 b2 p)) (R c v))
theorem Tz224 (h:Vz224 prog a0 a1 w R):Cl prog 224 #[a0,a1] w R:=
 tz 64 [(.tmp 4)] (s z (s z (s z (s (s z (b (l [19] [0,1,5,6,18] (s z (s (i z z) (s (b (s z z)) z)))))) (s z (s (s z (b (l [8,31] [1,5,6,29,30] (s z (s (i z z) (s (b (s z (s z (s (s z (b (l [43] [1,5,6,8,9,10,11,29,30,31,42] (s z (s (i z z) (s (b (s z (s z (i z z)))) z)))))) z)))) z)))))) (s z z))))))) [a0,a1] func224 h
def Vz225:VT3:=λP f g e w R=>
 Lnl g λy=>Ms P 157 y y w λc Q=>Lnl c λC=>VLoop 1 [(I 0)] Q λ_ S k D=>Bv .lss k C (Ms P 69 e e D λU W=>Ias 1 c k λY=>St Y U W λZ=>Bp .add k (I 1) λa0=>KS [f,g,e,(.slice none 0 0),c,C]<|S a0 Z) (Lnl f λE=>VLoop 2 [(.slice none 0 0),(I 0)] D λ_ a1 m p q=>Bp .lss p E λa2=>Vif a2 (Ias 1 f p λa3=>Ld a3 q λF=>Cl P 245 #[F,g] q λt a4=>Bs P 69 1 #[(0,t)] a4 λa5 a6=>Ap P #[69,69] 69 #[m,a5] a6 λa7 a8=>Cl P 222 #[F,e] a8 λG J=>Ex G 0 λa9=>Ex G 1 λc8=>Ias 1 c t λb0=>Ld b0 J λb1=>Cl P 246 #[b1,a9] J λL b2=>Ex L 0 λb3=>Ex L 1 λc9=>Ias 1 c t λb4=>St b4 b3 b2 λb5=>Bp .add p (I 1) λb6=>KS [g,e,c,f,E]<|a1 a7 b6 b5) (Lnl c λM=>VLoop 2 [(.slice none 0 0),(I 0)] q λ_ b7 N u v=>Bp .lss u M λb8=>Vif b8 (Ias 1 c u λb9=>Ld b9 v λc0=>Cl P 247 #[c0] v λO c1=>Ex O 0 λc2=>Ex O 1 λd0=>Bs P 157 1 #[(0,c2)] c1 λc3 c4=>Ap P #[157,157] 157 #[N,c3] c4 λc5 c6=>Bp .add u (I 1) λc7=>KS [m,c,M]<|b7 c5 c7 c6) (R (.tuple #[m,N]) v)))
theorem Tz225 (h:Vz225 prog a0 a1 a2 w R):Cl prog 225 #[a0,a1,a2] w R:=
 tz 88 [(.tmp 6),(.tmp 7)] (s z (s z (s z (s (s z (b (l [28] [0,1,2,8,9,27] (s z (s (i z z) (s (b (s z z)) z)))))) (s (s z (b (l [8,39] [1,2,9,37,38] (s z (s (i z z) (s (b (s z (s z (s z (s z (s z z)))))) z)))))) (s z (s (s z (b (l [18,72] [8,70,71] (s z (s (i z z) (s (b (s z (s z z))) z)))))) (s z z)))))))) [a0,a1,a2] func225 h
def Vz226:VT1:=λP c w R=>
 Bv .geq c (I 2) (Bp .leq c (I 6) λe=>R e w) (R (.bool false) w)
theorem Tz226 (h:Vz226 prog a0 w R):Cl prog 226 #[a0] w R:=
 tz 9 [(.tmp 2)] (s z (s z z)) [a0] func226 h
def Vz227:VT2:=λP c e w R=>
 Cl P 248 #[c,e] w λf g=>Bp .geq f (I 0) λk=>R k g
theorem Tz227 (h:Vz227 prog a0 a1 w R):Cl prog 227 #[a0,a1] w R:=
 tz 9 [(.tmp 4)] (s z (s z z)) [a0,a1] func227 h
def Vz228:VT2:=λP c e w R=>
 Bv .lss c (I 0) (R (.bool true) w) (Ld e w λf=>Bp .geq c f λg=>R g w)
theorem Tz228 (h:Vz228 prog a0 a1 w R):Cl prog 228 #[a0,a1] w R:=
 tz 11 [(.tmp 3)] (s z (s z z)) [a0,a1] func228 h
def Vz229:VT0:=λP w R=>
 New (zeroP P 296) 296 w λe m=>New (zeroP P 296) 296 m λf p=>VLoop 1 [(I 0)] p λ_ q c g=>Bv .lss c (I 6) (Iaa 6 1 f c λt=>St t c g λu=>Bp .add c (I 1) λv=>KS [e,f]<|q v u) (LdA 6 f g λy=>StA 6 e y g λk=>LdA 6 e k λC=>R C k)
theorem Tz229 (h:Vz229 prog w R):Cl prog 229 #[] w R:=
 tz 11 [(.cell 0 296)] (s z (s z (s (s z (b (l [3] [0,1] (s z (s (i z z) (s (b (s z z)) z)))))) (s z z)))) [] func229 h
def Vz230:VT2:=λP c g w R=>
 VLoop 1 [(I 0)] w λ_ k e f=>Nc c<|Iaa 6 1 c e λm=>Ld m f λp=>Bv .neq p g (Bp .add e (I 1) λq=>KS [c,g]<|k q f) (Cl P 249 #[c,e] f λu t=>R e t)
theorem Tz230 (h:Vz230 prog a0 a1 w R):Cl prog 230 #[a0,a1] w R:=
 tz 19 [(.tmp 4)] (s z (s z (s (b (l [5] [0,1] (s (s z (i z z)) (b z)))) (s z (s z z))))) [a0,a1] func230 h
def Vz231:VT1:=λP c w R=>
 Bv .geq c (I 3) (Bp .leq c (I 258) λe=>R e w) (R (.bool false) w)
theorem Tz231 (h:Vz231 prog a0 w R):Cl prog 231 #[a0] w R:=
 tz 9 [(.tmp 2)] (s z (s z z)) [a0] func231 h
def Vz232:VT1:=λP c w R=>
 Cl P 233 #[c] w λe f=>Up .not e λg=>R g f
theorem Tz232 (h:Vz232 prog a0 w R):Cl prog 232 #[a0] w R:=
 tz 6 [(.tmp 2)] (s z (s z z)) [a0] func232 h
def Vz233:VT1:=λP c w R=>
 Bv .geq c (I 1) (Bp .leq c (I 20) λe=>R e w) (R (.bool false) w)
theorem Tz233 (h:Vz233 prog a0 w R):Cl prog 233 #[a0] w R:=
 tz 9 [(.tmp 2)] (s z (s z z)) [a0] func233 h
def Vz234:VT3:=λP c e f w R=>
 Bp .mul e f λg=>Lnl c λk=>Bp .add e (I 1) λm=>Bp .mul m f λp=>Bmin P #[3,3] 3 #[k,p] w λq=>Ssl 1 c (some g) (some q) λt=>Cl P 161 #[t] w λu v=>R u v
theorem Tz234 (h:Vz234 prog a0 a1 a2 w R):Cl prog 234 #[a0,a1,a2] w R:=
 tz 20 [(.tmp 6)] (s z (s z z)) [a0,a1,a2] func234 h
def Vz235:VT1:=λP c w R=>
 Cl P 227 #[c,(.func (.func 250) #[] #[])] w λe f=>Up .not e λg=>R g f
theorem Tz235 (h:Vz235 prog a0 w R):Cl prog 235 #[a0] w R:=
 tz 6 [(.tmp 2)] (s z (s z z)) [a0] func235 h
def Vz236:VT2:=λP c e w R=>
 Bp .add c e λf=>Bmin P #[3,3] 3 #[f,(I 1099511627776)] w λg=>R g w
theorem Tz236 (h:Vz236 prog a0 a1 w R):Cl prog 236 #[a0,a1] w R:=
 tz 9 [(.tmp 4)] (s z (s z z)) [a0,a1] func236 h
def Vz237:VT1:=λP c w R=>
 VJoin 1 (λ_ p g=>Vif p (R (.tuple #[(I 0),(I 1)]) g) (Lnl c λk=>VLoop 2 [(I 0),(I 0)] g λ_ q m e f=>Bv .lss e k (Ias 1 c e λt=>Ld t f λu=>Bp .sub (I 20) u λv=>Bp .shl (I 1) v λy=>Bp .add m y λC=>Bp .add e (I 1) λD=>KS [c,k]<|q C D f) (R (.tuple #[m,(I 0)]) f))) (λJ13=>Lnl c λE=>Bp .gtr E (I 258) λF=>Vif F (KS [c]<|J13 (.bool true) w) (Cl P 252 #[c,(I 0),(I 20)] w λG J=>Up .not G λL=>KS [c]<|J13 L J))
theorem Tz237 (h:Vz237 prog a0 w R):Cl prog 237 #[a0] w R:=
 tz 28 [(.tmp 2),(.tmp 3)] (s z (s (j [14] [0] z (i (s z z) z)) (s z (s (s z (b (l [4,17] [15,16] (s z (s (i z z) (s (b (s z z)) z)))))) (s z z))))) [a0] func237 h
def Vz238:VT2:=λP c e w R=>
 Cl P 202 #[c,e] w λf g=>Bp .geq f (I 0) λk=>R k g
theorem Tz238 (h:Vz238 prog a0 a1 w R):Cl prog 238 #[a0,a1] w R:=
 tz 9 [(.tmp 4)] (s z (s z z)) [a0,a1] func238 h
def Vz244:VT1:=λP e w R=>
 LdA 4 (.pointer (some ⟨1,0,none⟩)) w λf=>VLoop 2 [(I 2),(I 0)] w λ_ m g c k=>Bv .lss c (I 4) (Ixa 4 1 false f c λp=>Bv .geq e p (Bp .add g (I 1) λq=>Bp .add c (I 1) λt=>KS [e,f]<|m q t k) (Bp .add c (I 1) λu=>KS [e,f]<|m g u k)) (R g k)
theorem Tz244 (h:Vz244 prog a0 w R):Cl prog 244 #[a0] w R:=
 tz 17 [(.tmp 2)] (s z (s z (s (s z (b (l [3,7] [0,6] (s z (s (i z z) (s (b (s z (s z (i z z)))) z)))))) (s z z)))) [a0] func244 h
def Vz245:VT2:=λP f e w R=>
 Lnl e λg=>VLoop 3 [(I 0),(I 1099511627776),(I 0)] w λ_ m p q c k=>Bv .lss c g (Ias 1 e c λy=>Ld y k λC=>Cl P 211 #[f,C] k λt u=>Ex t 0 λv=>Ex t 1 λF=>Bv .lss v q (Bp .add c (I 1) λD=>KS [f,e,g]<|m c v D u) (Bp .add c (I 1) λE=>KS [f,e,g]<|m p q E u)) (R p k)
theorem Tz245 (h:Vz245 prog a0 a1 w R):Cl prog 245 #[a0,a1] w R:=
 tz 31 [(.tmp 4)] (s z (s z (s (s z (b (l [5,6,13] [0,11,12] (s z (s (i z z) (s (b (s z (s z (s z (i z z))))) z)))))) (s z z)))) [a0,a1] func245 h
def Vz246:VT2:=λP c e w R=>
 VJoin 1 (λ_ v m=>Vif v (R (.tuple #[(.slice none 0 0),(I 1)]) m) (Lnl c λp=>Ms P 69 p p m λg y=>Lnl g λq=>VLoop 1 [(I 0)] y λ_ C f t=>Bv .lss f q (Dr t λk=>Ias 1 c f λD=>Ld D k λE=>Ias 1 e f λF=>Ld F k λG=>Cl P 236 #[E,G] k λJ L=>Ias 1 g f λM=>St M J L λN=>Bp .add f (I 1) λO=>KS [c,e,g,q]<|C O N) (R (.tuple #[g,(I 0)]) t))) (λJ17=>Lnl c λQ=>Lnl e λS=>Bp .neq Q S λU=>Vif U (KS [c,e]<|J17 (.bool true) w) (Cl P 235 #[c] w λW u=>Up .not W λY=>Vif Y (KS [c,e]<|J17 (.bool true) u) (Cl P 235 #[e] u λZ a0=>Up .not Z λa1=>KS [c,e]<|J17 a1 a0)))
theorem Tz246 (h:Vz246 prog a0 a1 w R):Cl prog 246 #[a0,a1] w R:=
 tz 45 [(.tmp 4),(.tmp 5)] (s z (s (j [22] [0,1] z (i (s z z) z)) (s z (s (s z (b (l [28] [0,1,6,27] (s z (s (i z z) (s (b (s z (r (.staged [0,0,0,0,12,28,0,0,192,448,1020,2047,4095])))) z)))))) (s z z))))) [a0,a1] func246 h
def Vz247:VT1:=λP c w R=>
 VJoin 1 (λ_ v k=>Vif v (R (.tuple #[(.slice none 0 0),(I 1)]) k) (Lnl c λm=>Ms P 69 m m k λg y=>Lnl c λp=>VLoop 1 [(I 0)] y λ_ C e f=>Bv .lss e p (Ias 1 c e λD=>Ld D f λE=>Bmax P #[3,3] 3 #[E,(I 1)] f λF=>Ias 1 g e λG=>St G F f λJ=>Bp .add e (I 1) λL=>KS [g,c,p]<|C L J) (VLoop 1 [g] f λ_ M q N=>Cl P 255 #[q] N λt O=>Cl P 256 #[t] O λQ u=>Bp .leq Q (I 20) λS=>Vif S (Cl P 161 #[t] u λU W=>R (.tuple #[U,(I 0)]) W) (Cl P 257 #[q] u λY Z=>KS []<|M Y Z)))) (λJ20=>Lnl c λa0=>Bv .lss a0 (I 3) (KS [c]<|J20 (.bool true) w) (Lnl c λa1=>Bv .gtr a1 (I 258) (KS [c]<|J20 (.bool true) w) (Cl P 252 #[c,(I 0),(I 1099511627776)] w λa2 a3=>Up .not a2 λa4=>KS [c]<|J20 a4 a3)))
theorem Tz247 (h:Vz247 prog a0 w R):Cl prog 247 #[a0] w R:=
 tz 46 [(.tmp 2),(.tmp 3)] (s z (s (j [20] [0] z (i (s z z) z)) (s z (s (s z (b (l [26] [4,24,25] (s z (s (i z z) (s (b (s z z)) z)))))) (b (l [4] [] (b (s z (s (s z (i (s z z) z)) z))))))))) [a0] func247 h
def Vz248:VT2:=λP e g w R=>
 Lnl e λk=>VLoop 1 [(I 0)] w λ_ p c f=>Bv .lss c k (Ias 1 e c λq=>Ld q f λt=>Inv P (do let d <-Deferred.ofValue g #[t];invoke d.target d.args) f λu m=>Vif u (R c m) (Bp .add c (I 1) λv=>KS [e,g,k]<|p v m)) (R (I (-1)) f)
theorem Tz248 (h:Vz248 prog a0 a1 w R):Cl prog 248 #[a0,a1] w R:=
 tz 19 [(.tmp 4)] (s z (s (s z (b (l [8] [0,1,7] (s z (s (i z z) (s (b (s z (s z (i (s z z) z)))) z)))))) (s z z))) [a0,a1] func248 h
def Vz249:VT2:=λP c g w R=>
 Nc c<|Iaa 6 1 c g λp=>Ld p w λf=>VLoop 1 [g] w λ_ q e k=>Bv .gtr e (I 0) (Dr k λm=>Bp .sub e (I 1) λt=>Nc c<|Iaa 6 1 c t λu=>Ld u m λv=>Nc c<|Iaa 6 1 c e λy=>St y v m λC=>Bp .sub e (I 1) λD=>KS [c,f]<|q D C) (Nc c<|Iaa 6 1 c (I 0) λE=>St E f k λF=>R f F)
theorem Tz249 (h:Vz249 prog a0 a1 w R):Cl prog 249 #[a0,a1] w R:=
 tz 32 [(.tmp 4)] (s z (s z (s (s z (b (l [6] [0,5] (s (s z (i z z)) (s (b (r (.staged [0,0,0,0,8,4,60,124,1,511,1023]))) z))))) (s z (s z z))))) [a0,a1] func249 h
def Vz250:VT1:=λP c w R=>
 Cl P 251 #[c] w λe f=>Up .not e λg=>R g f
theorem Tz250 (h:Vz250 prog a0 w R):Cl prog 250 #[a0] w R:=
 tz 6 [(.tmp 2)] (s z (s z z)) [a0] func250 h
def Vz251:VT1:=λP c w R=>
 Bv .geq c (I 0) (Bp .leq c (I 1099511627776) λe=>R e w) (R (.bool false) w)
theorem Tz251 (h:Vz251 prog a0 w R):Cl prog 251 #[a0] w R:=
 tz 9 [(.tmp 2)] (s z (s z z)) [a0] func251 h
def Vz252:VT3:=λP e f g w R=>
 New f 3 w λk m=>New g 3 m λp c=>Mf P (.func 258) #[] #[k,p] c λq=>Cl P 227 #[e,q] c λt u=>Up .not t λv=>R v u
theorem Tz252 (h:Vz252 prog a0 a1 a2 w R):Cl prog 252 #[a0,a1,a2] w R:=
 tz 11 [(.tmp 6)] (s z (s z z)) [a0,a1,a2] func252 h
def Vz255:VT1:=λP e w R=>
 Cl P 259 #[e] w λc u=>Lnl e λv=>Bp .sub v (I 1) λp=>VLoop 1 [(I 0)] u λ_ y q m=>Bp .lss q p λC=>Vif C (Cl P 260 #[c] m λD E=>Cl P 260 #[c] E λF G=>Cl P 261 #[c,D,F] G λb0 J=>Bp .add q (I 1) λL=>KS [e,c,p]<|y L J) (Nc c<|Fo 0 c λM=>Ld M m λN=>Lnl N λt=>Ms P 69 t t m λf O=>Lnl f λQ=>Bp .sub Q (I 2) λS=>VLoop 1 [S] O λ_ U k g=>Bp .geq k (I 0) λW=>Vif W (Nc c<|Fo 1 c λY=>Ld Y g λZ=>Ias 1 Z k λa0=>Ld a0 g λa1=>Ias 1 f a1 λa2=>Ld a2 g λa3=>Bp .add a3 (I 1) λa4=>Ias 1 f k λa5=>St a5 a4 g λa6=>Bp .sub k (I 1) λa7=>KS [e,c,f]<|U a7 a6) (Lnl e λa8=>Ssl 1 f none (some a8) λa9=>R a9 g))
theorem Tz255 (h:Vz255 prog a0 w R):Cl prog 255 #[a0] w R:=
 tz 53 [(.tmp 2)] (s z (s z (s (s z (b (l [12] [0,3,11] (s z (s (i z z) (s (b (s z z)) z)))))) (s z (s (s z (b (l [6] [0,3,5] (s (s z (i z z)) (s (b z) z))))) (s z z)))))) [a0] func255 h
def Vz256:VT1:=λP e w R=>
 Lnl e λg=>VLoop 2 [(I 0),(I 0)] w λ_ m k f c=>Bv .lss f g (Ias 1 e f λp=>Ld p c λq=>Bmax P #[3,3] 3 #[k,q] c λt=>Bp .add f (I 1) λu=>KS [e,g]<|m t u c) (R k c)
theorem Tz256 (h:Vz256 prog a0 w R):Cl prog 256 #[a0] w R:=
 tz 17 [(.tmp 2)] (s z (s z (s (s z (b (l [3,8] [6,7] (s z (s (i z z) (s (b (s z z)) z)))))) (s z z)))) [a0] func256 h
def Vz257:VT1:=λP c w R=>
 Lnl c λk=>Ms P 69 k k w λg p=>Lnl c λm=>VLoop 1 [(I 0)] p λ_ q e f=>Bv .lss e m (Ias 1 c e λt=>Ld t f λu=>Bmax P #[3,3] 3 #[u,(I 0)] f λv=>Bp .quo v (I 2) λy=>Bp .add y (I 1) λC=>Ias 1 g e λD=>St D C f λE=>Bp .add e (I 1) λF=>KS [g,c,m]<|q F E) (R g f)
theorem Tz257 (h:Vz257 prog a0 w R):Cl prog 257 #[a0] w R:=
 tz 25 [(.tmp 2)] (s z (s z (s (s z (b (l [11] [3,9,10] (s z (s (i z z) (s (b (s z z)) z)))))) (s z z)))) [a0] func257 h
def Vz258:VT3:=λP c e f w R=>
 Ld e w λg=>Bv .lss c g (R (.bool true) w) (Ld f w λk=>Bp .gtr c k λm=>R m w)
theorem Tz258 (h:Vz258 prog a0 a1 a2 w R):Cl prog 258 #[a0,a1,a2] w R:=
 tz 13 [(.tmp 4)] (s z (s z z)) [a0,a1,a2] func258 h
def Vz259:VT1:=λP y w R=>
 New y 69 w λe C=>Dr C λg=>Ld e g λD=>Cl P 161 #[D] g λE k=>Ld e k λm=>Rk (λw K=>Ld e w λF=>K F) m g<|Lnl m λq=>Rk (λw K=>Lnl m λG=>K G) q g<|Bd P 316 #[(0,E),(3,q)] k λJ=>New J 316 k λc t=>Ld e t λL=>Lnl L λu=>VLoop 1 [(I 0)] t λ_ M p f=>Bv .lss p u (Nc c<|Fo 2 c λN=>Ld N f λO=>Bs P 69 1 #[(0,p)] f λQ S=>Ap P #[69,69] 69 #[O,Q] S λU W=>Nc c<|Fo 2 c λY=>St Y U W λv=>Nc c<|Fo 1 c λZ=>Ld Z v λa0=>Bs P 69 1 #[(0,(I (-1)))] v λa1 a2=>Ap P #[69,69] 69 #[a0,a1] a2 λa3 a4=>Nc c<|Fo 1 c λa5=>St a5 a3 a4 λa6=>Bp .add p (I 1) λa7=>KS [e,c,u]<|M a7 a6) (Nc c<|Fo 2 c λa8=>Ld a8 f λa9=>Mf P (.func 263) #[] #[e] f λb0=>Cl P 262 #[a9,b0] f λb2 b1=>R c b1)
theorem Tz259 (h:Vz259 prog a0 w R):Cl prog 259 #[a0] w R:=
 tz 43 [(.tmp 2)] (s z (s (r (.staged [0,1,0,4,15,31,63])) (s (s z (b (l [13] [1,3,12] (s z (s (i z z) (s (b (s z (s z z))) z)))))) (s z (s z z))))) [a0] func259 h
def Vz260:VT1:=λP c w R=>
 VJoin 1 (λ_ k f=>Vif k (Nc c<|Fo 2 c λm=>Ld m f λp=>Ias 1 p (I 0) λq=>Ld q f λt=>Nc c<|Fo 2 c λu=>Ld u f λv=>Ssl 1 v (some (I 1)) none λy=>Nc c<|Fo 2 c λC=>St C y f λD=>R t D) (Nc c<|Fo 3 c λE=>Ld E f λF=>Bp .add F (I 1) λG=>Nc c<|Fo 3 c λJ=>St J G f λg=>Nc c<|Fo 3 c λL=>Ld L g λM=>Bp .sub M (I 1) λN=>R N g)) (λJ17=>Dr w λe=>Nc c<|Fo 3 c λO=>Ld O e λQ=>Nc c<|Fo 0 c λS=>Ld S e λU=>Lnl U λW=>Bp .eql Q W λY=>Vif Y (KS [c]<|J17 (.bool true) e) (Nc c<|Fo 2 c λZ=>Ld Z e λa0=>Lnl a0 λa1=>Bv .gtr a1 (I 0) (Nc c<|Fo 0 c λa2=>Ld a2 e λa3=>Nc c<|Fo 2 c λa4=>Ld a4 e λa5=>Ias 1 a5 (I 0) λa6=>Ld a6 e λa7=>Ias 1 a3 a7 λa8=>Ld a8 e λa9=>Nc c<|Fo 0 c λb0=>Ld b0 e λb1=>Nc c<|Fo 3 c λb2=>Ld b2 e λb3=>Ias 1 b1 b3 λb4=>Ld b4 e λb5=>Bp .leq a9 b5 λb6=>KS [c]<|J17 b6 e) (KS [c]<|J17 (.bool false) e)))
theorem Tz260 (h:Vz260 prog a0 w R):Cl prog 260 #[a0] w R:=
 tz 74 [(.tmp 2)] (s z (s (j [46] [0] (r (.staged [0,1,3,7,0,16,48,112,240,511,1023,2047,4095,8191,16383,32767,65535,131071,262143,524287,1048575,2097151,262143,4456447,12845055,29622271,63176703,130285567,268435455,536870911,262143,1074003967,3221487615,7516454911,262143,17180131327,51539869695,120259346431,273804427263,548682334207,1099511627775,2199023255551,4398046511103])) (i (s z (s z (s z z))) z)) (s z (s z z)))) [a0] func260 h
def Vz261:VT3:=λP c k m w R=>
 Dr w λf=>Nc c<|Fo 1 c λv=>Ld v f λy=>Nc c<|Fo 0 c λC=>Ld C f λD=>Lnl D λE=>Ias 1 y k λF=>St F E f λG=>Dr G λg=>Nc c<|Fo 1 c λJ=>Ld J g λL=>Nc c<|Fo 0 c λM=>Ld M g λN=>Lnl N λO=>Ias 1 L m λQ=>St Q O g λS=>Dr S λe=>Nc c<|Fo 0 c λp=>Ld p e λq=>Nc c<|Fo 0 c λU=>Ld U e λW=>Ias 1 W k λY=>Ld Y e λZ=>Nc c<|Fo 0 c λa0=>Ld a0 e λa1=>Ias 1 a1 m λa2=>Ld a2 e λa3=>Bp .add Z a3 λa4=>Bs P 69 1 #[(0,a4)] e λa5 t=>Rk (λw K=>Ld p w λa6=>K a6) q t<|Ap P #[69,69] 69 #[q,a5] t λa7 a8=>Nc c<|Fo 0 c λa9=>St a9 a7 a8 λu=>Nc c<|Fo 1 c λb0=>Ld b0 u λb1=>Bs P 69 1 #[(0,(I (-1)))] u λb2 b3=>Ap P #[69,69] 69 #[b1,b2] b3 λb4 b5=>Nc c<|Fo 1 c λb6=>St b6 b4 b5 λb7=>R (.tuple #[]) b7
theorem Tz261 (h:Vz261 prog a0 a1 a2 w R):Cl prog 261 #[a0,a1,a2] w R:=
 tz 61 [] (s (r (.staged [0,1,3,7,0,0,32,96,224,480,1023,2047])) (s (r (.staged [0,1,3,7,0,0,32,96,224,480,1023,2047])) (s (r (.staged [0,0,2,6,14,0,32,96,224,0,992,2016,0,4096,12288,28672,0,126976,258048,524256,1048544,2097150,4194303,8388607,16777215])) z))) [a0,a1,a2] func261 h
def Vz262:VT2:=λP c e w R=>
 Lnl c λf=>Cl P 265 #[c,f,e] w λk g=>R (.tuple #[]) g
theorem Tz262 (h:Vz262 prog a0 a1 w R):Cl prog 262 #[a0,a1] w R:=
 tz 9 [] z [a0,a1] func262 h
def Vz263:VT3:=λP f g e w R=>
 Dr w λc=>Ld e c λk=>Ias 1 k f λm=>Ld m c λp=>Ld e c λq=>Ias 1 q g λt=>Ld t c λu=>Cl P 264 #[p,u] c λv y=>R v y
theorem Tz263 (h:Vz263 prog a0 a1 a2 w R):Cl prog 263 #[a0,a1,a2] w R:=
 tz 15 [(.tmp 5)] (s z (s (r (.staged [0,0,3,7,0,0,48,112,255,511])) z)) [a0,a1,a2] func263 h
def Vz264:VT2:=λP e f w R=>
 Cl P 266 #[e] w λk m=>Cl P 266 #[f] m λg c=>Vif k (Vif g (R (I 0) c) (R (I (-1)) c)) (Vif g (R (I 1) c) (Bv .lss e f (R (I (-1)) c) (Bv .gtr e f (R (I 1) c) (R (I 0) c))))
theorem Tz264 (h:Vz264 prog a0 a1 w R):Cl prog 264 #[a0,a1] w R:=
 tz 20 [(.tmp 4)] (s z (s z (s z (s (s z (i (s (s z (i (s z z) z)) (s z z)) z)) (s (s z (i (s z z) z)) (s (s z (i (s z z) z)) (s (s z (i (s z z) z)) (s z z)))))))) [a0,a1] func264 h
def Vz265:VT3:=λP e c f w R=>
 VLoop 2 [(I 0),(I 20)] w λ_ D t k u=>Bv .leq k c (Cl P 267 #[e,t,k,f] u λa1 E=>Bp .add k (I 20) λF=>KS [e,c,f,(I 20)]<|D k F E) (Cl P 267 #[e,t,c,f] u λa2 G=>VLoop 1 [(I 20)] G λ_ v g y=>Bp .lss g c λJ=>Vif J (Bp .mul (I 2) g λL=>VLoop 2 [(I 0),L] y λ_ M m p q=>Bp .leq p c λN=>Vif N (Bp .add m g λO=>Cl P 268 #[e,m,O,p,f] q λa3 Q=>Bp .mul (I 2) g λS=>Bp .add p S λU=>KS [e,c,f,g]<|M p U Q) (Bp .add m g λC=>Bp .lss C c λW=>Vif W (Cl P 268 #[e,m,C,c,f] q λa4 Y=>Bp .mul g (I 2) λZ=>KS [e,c,f]<|v Z Y) (Bp .mul g (I 2) λa0=>KS [e,c,f]<|v a0 q))) (R (.tuple #[]) y))
theorem Tz265 (h:Vz265 prog a0 a1 a2 w R):Cl prog 265 #[a0,a1,a2] w R:=
 tz 63 [] (s z (s z (s (b (l [7,8] [0,1,2,6] (s (s z (i z z)) (b (s z (s z z)))))) (s z (b (l [6] [0,1,2] (s (s z (i z z)) (b (s z (s (b (l [7,8] [0,1,2,6] (s (s z (i z z)) (b (s z (s z z)))))) (s (s z (s z (i z z))) z))))))))))) [a0,a1,a2] func265 h
def Vz266:VT1:=λP c w R=>
 Bp .neq c c λe=>R e w
theorem Tz266 (h:Vz266 prog a0 w R):Cl prog 266 #[a0] w R:=
 tz 6 [(.tmp 2)] (s z (s z z)) [a0] func266 h
def Vz267:VT4:=λP c f k m w R=>
 Bp .add f (I 1) λv=>VLoop 1 [v] w λ_ y g t=>Bp .lss g k λC=>Vif C (VLoop 1 [g] t λ_ D e E=>VJoin 1 (λ_ F u=>Vif F (Dr u λq=>Bp .sub e (I 1) λG=>Bp .sub e (I 1) λJ=>Ias 1 c J λL=>Ld L q λM=>Ias 1 c e λN=>Ld N q λO=>Ias 1 c e λQ=>St Q M q λS=>Ias 1 c G λU=>St U O S λW=>Bp .sub e (I 1) λY=>KS [c,f,k,m,g]<|D Y W) (Bp .add g (I 1) λZ=>KS [c,f,k,m]<|y Z u)) (λJ20=>Dr E λp=>Bp .gtr e f λa0=>Vif a0 (Ias 1 c e λa1=>Ld a1 p λa2=>Bp .sub e (I 1) λa3=>Ias 1 c a3 λa4=>Ld a4 p λa5=>Inv P (do let d <-Deferred.ofValue m #[a2,a5];invoke d.target d.args) p λa6 a7=>Bp .lss a6 (I 0) λa8=>KS [c,f,k,m,g,e]<|J20 a8 a7) (KS [c,f,k,m,g,e]<|J20 (.bool false) p))) (R (.tuple #[]) t)
theorem Tz267 (h:Vz267 prog a0 a1 a2 a3 w R):Cl prog 267 #[a0,a1,a2,a3] w R:=
 tz 53 [] (s z (b (l [8] [0,1,2,3] (s (s z (i z z)) (s (b (s z (b (l [9] [0,1,2,3,8] (s (j [34] [0,1,2,3,8,9] (r (.staged [0,0,3,7,15,15,15,111,239,15,15,1039,3599,7695,16383,32767,65535])) (i z z)) (s (b (r (.staged [0,0,0,0,8,0,0,64,224,480,0,0,3072,7168,16355,32739,65535,131071]))) z)))))) z))))) [a0,a1,a2,a3] func267 h
def Vz268:VT5:=λP c g k m e w R=>
 Bp .sub k g λb3=>Bp .eql b3 (I 1) λb4=>Vif b4 (VLoop 2 [k,m] w λ_ Y y E Z=>Bv .lss y E (Bp .add y E λb5=>Ci .u64 b5 λb6=>Bp .shr b6 (.int .u64 1) λb7=>Ci .i64 b7 λF=>Dr Z λG=>Ias 1 c F λb8=>Ld b8 G λb9=>Ias 1 c g λc0=>Ld c0 G λc1=>Inv P (do let d <-Deferred.ofValue e #[b9,c1];invoke d.target d.args) G λc2 a0=>Bp .lss c2 (I 0) λc3=>Vif c3 (Bp .add F (I 1) λc4=>KS [c,g,e]<|Y c4 E a0) (KS [c,g,e]<|Y y F a0)) (VLoop 1 [g] Z λ_ c5 u a1=>Bp .sub y (I 1) λc6=>Bp .lss u c6 λc7=>Vif c7 (Dr a1 λJ=>Bp .add u (I 1) λc8=>Bp .add u (I 1) λc9=>Ias 1 c c9 λd0=>Ld d0 J λd1=>Ias 1 c u λd2=>Ld d2 J λd3=>Ias 1 c u λd4=>St d4 d1 J λd5=>Ias 1 c c8 λd6=>St d6 d3 d5 λd7=>Bp .add u (I 1) λd8=>KS [c,y]<|c5 d8 d7) (R (.tuple #[]) a1))) (Bp .sub m k λd9=>Bp .eql d9 (I 1) λe0=>Vif e0 (VLoop 2 [g,k] w λ_ a2 C L a3=>Bv .lss C L (Bp .add C L λe1=>Ci .u64 e1 λe2=>Bp .shr e2 (.int .u64 1) λe3=>Ci .i64 e3 λM=>Dr a3 λN=>Ias 1 c k λe4=>Ld e4 N λe5=>Ias 1 c M λe6=>Ld e6 N λe7=>Inv P (do let d <-Deferred.ofValue e #[e5,e7];invoke d.target d.args) N λe8 a4=>Bp .lss e8 (I 0) λe9=>Up .not e9 λf0=>Vif f0 (Bp .add M (I 1) λf1=>KS [c,k,e]<|a2 f1 L a4) (KS [c,k,e]<|a2 C M a4)) (VLoop 1 [k] a3 λ_ f2 v a5=>Bp .gtr v C λf3=>Vif f3 (Dr a5 λO=>Bp .sub v (I 1) λf4=>Bp .sub v (I 1) λf5=>Ias 1 c f5 λf6=>Ld f6 O λf7=>Ias 1 c v λf8=>Ld f8 O λf9=>Ias 1 c v λg0=>St g0 f7 O λg1=>Ias 1 c f4 λg2=>St g2 f9 g1 λg3=>Bp .sub v (I 1) λg4=>KS [c,C]<|f2 g4 g3) (R (.tuple #[]) a5))) (Bp .add g m λg5=>Ci .u64 g5 λg6=>Bp .shr g6 (.int .u64 1) λg7=>Ci .i64 g7 λf=>Bp .add f k λt=>VJoin 2 (λ_ g8 g9 h0=>Bp .sub t (I 1) λQ=>VLoop 2 [g8,g9] h0 λ_ a6 p S U=>Bp .lss p S λh1=>Vif h1 (Bp .add p S λh2=>Ci .u64 h2 λh3=>Bp .shr h3 (.int .u64 1) λh4=>Ci .i64 h4 λD=>Dr U λW=>Bp .sub Q D λh5=>Ias 1 c h5 λh6=>Ld h6 W λh7=>Ias 1 c D λh8=>Ld h8 W λh9=>Inv P (do let d <-Deferred.ofValue e #[h7,h9];invoke d.target d.args) W λi0 a7=>Bp .lss i0 (I 0) λi1=>Up .not i1 λi2=>Vif i2 (Bp .add D (I 1) λi3=>KS [c,g,k,m,e,f,t,Q]<|a6 i3 S a7) (KS [c,g,k,m,e,f,t,Q]<|a6 p D a7)) (Bp .sub t p λq=>VJoin 0 (λ_ a8=>VJoin 0 (λ_ a9=>VJoin 1 (λ_ i4 b0=>Vif i4 (Cl P 268 #[c,f,q,m,e] b0 λj8 i5=>R (.tuple #[]) i5) (R (.tuple #[]) b0)) (λJ99=>Bp .lss f q λi6=>Vif i6 (Bp .lss q m λi7=>KS [c,m,e,f,q]<|J99 i7 a9) (KS [c,m,e,f,q]<|J99 (.bool false) a9))) (λJ102=>VJoin 1 (λ_ i8 b1=>Vif i8 (Cl P 268 #[c,g,p,f,e] b1 λj9 i9=>KS [c,m,e,f,q]<|J102 i9) (KS [c,m,e,f,q]<|J102 b1)) (λJ105=>Bp .lss g p λj0=>Vif j0 (Bp .lss p f λj1=>KS [c,g,m,e,f,p,q]<|J105 j1 a8) (KS [c,g,m,e,f,p,q]<|J105 (.bool false) a8)))) (λJ108=>VJoin 1 (λ_ j2 b2=>Vif j2 (Cl P 269 #[c,p,k,q,e] b2 λk0 j3=>KS [c,g,m,e,f,p,q]<|J108 j3) (KS [c,g,m,e,f,p,q]<|J108 b2)) (λJ111=>Bp .lss p k λj4=>Vif j4 (Bp .lss k q λj5=>KS [c,g,k,m,e,f,p,q]<|J111 j5 U) (KS [c,g,k,m,e,f,p,q]<|J111 (.bool false) U))))) (λJ114=>Bp .gtr k f λj6=>Vif j6 (Bp .sub t m λj7=>KS [c,g,k,m,e,f,t]<|J114 j7 f w) (KS [c,g,k,m,e,f,t]<|J114 g k w))))
theorem Tz268 (h:Vz268 prog a0 a1 a2 a3 a4 w R):Cl prog 268 #[a0,a1,a2,a3,a4] w R:=
 tz 220 [] (s (s z (i (s z (s z (s (b (l [10,11] [0,1,4] (s (s z (i z z)) (b (s z (s (r (.staged [0,0,0,6,14,0,0,96,224,511,1023])) (i z z))))))) (s (s z (b (l [13] [0,10] (s (s z (i z z)) (s (b (r (.staged [0,0,0,0,8,0,0,64,224,480,0,0,3072,7168,16355,32739,65535,131071]))) z))))) z)))) z)) (s (s z (i (s z (s z (s (b (l [14,15] [0,2,4] (s (s z (i z z)) (b (s z (s (r (.staged [0,0,0,6,14,0,0,96,224,511,1023,2047])) (i z z))))))) (s (s z (b (l [17] [0,14] (s (s z (i z z)) (s (b (r (.staged [0,0,0,0,8,0,0,64,224,480,0,0,3072,7168,16355,32739,65535,131071]))) z))))) z)))) z)) (s z (s z (s z (j [20,21] [0,1,2,3,4,18,19] (s z (i (s z z) (s z z))) (s z (s (b (l [20,21] [0,1,2,3,4,18,19,22] (s (s z (i z z)) (b (s z (s (r (.staged [0,0,0,0,12,30,62,0,0,384,896,2047,4095,8191])) (i z z))))))) (s z (j [] [0,1,3,4,18,20,24] (j [185] [0,1,2,3,4,18,20,24] z (i z z)) (j [] [0,3,4,18,24] (j [199] [0,1,3,4,18,20,24] z (i z z)) (j [213] [0,3,4,18,24] z (i z z))))))))))))) [a0,a1,a2,a3,a4] func268 h
def Vz269:VT5:=λP g q e t k w R=>
 Bp .sub e q λu=>Bp .sub t e λv=>VLoop 2 [u,v] w λ_ p c f m=>Bp .neq c f λy=>Vif y (Bv .gtr c f (Bp .sub e c λC=>Cl P 270 #[g,C,e,f,k] m λQ D=>Bp .sub c f λE=>KS [g,e,k]<|p E f D) (Bp .sub e c λF=>Bp .add e f λG=>Bp .sub G c λJ=>Cl P 270 #[g,F,J,c,k] m λS L=>Bp .sub f c λM=>KS [g,e,k]<|p c M L)) (Bp .sub e c λN=>Cl P 270 #[g,N,e,c,k] m λU O=>R (.tuple #[]) O)
theorem Tz269 (h:Vz269 prog a0 a1 a2 a3 a4 w R):Cl prog 269 #[a0,a1,a2,a3,a4] w R:=
 tz 58 [] (s z (s z (s (b (l [10,11] [0,2,4] (s (s z (i z z)) (b (s z (i (s z z) (s z z))))))) z))) [a0,a1,a2,a3,a4] func269 h
def Vz270:VT5:=λP e f g m O w R=>
 VLoop 1 [(I 0)] w λ_ q c p=>Bv .lss c m (Dr p λk=>Bp .add f c λt=>Bp .add g c λu=>Bp .add g c λv=>Ias 1 e v λy=>Ld y k λC=>Bp .add f c λD=>Ias 1 e D λE=>Ld E k λF=>Ias 1 e t λG=>St G C k λJ=>Ias 1 e u λL=>St L F J λM=>Bp .add c (I 1) λN=>KS [e,f,g,m]<|q N M) (R (.tuple #[]) p)
theorem Tz270 (h:Vz270 prog a0 a1 a2 a3 a4 w R):Cl prog 270 #[a0,a1,a2,a3,a4] w R:=
 tz 38 [] (s z (b (l [10] [0,1,2,3] (s (s z (i z z)) (s (b (r (.staged [0,0,0,6,0,0,0,96,0,0,0,1536,3840,7936,0,0,0,98304,245760,507904,1048335,2096911,4194303,8388607]))) z))))) [a0,a1,a2,a3,a4] func270 h
def Vz271:VT1:=λP c w R=>
 Bn P 118 true c (.pointer none) λe=>Vif e (Nc c<|Fo 8 c λf=>Ld f w λg=>R g w) (R (.bool false) w)
theorem Tz271 (h:Vz271 prog a0 w R):Cl prog 271 #[a0] w R:=
 tz 11 [(.tmp 2)] (s z (s z z)) [a0] func271 h
def Vz272:VT1:=λP c w R=>
 VJoin 1 (λ_ f e=>Vif f (R (I 7) e) (Nc c<|Fo 2 c λg=>St g (.bool true) e λk=>Nc c<|Fo 6 c λm=>St m (.bool false) k λp=>R (I 0) p)) (λJ4=>Bn P 118 false c (.pointer none) λq=>Vif q (KS [c]<|J4 (.bool true) w) (Nc c<|Fo 2 c λt=>Ld t w λu=>KS [c]<|J4 u w))
theorem Tz272 (h:Vz272 prog a0 w R):Cl prog 272 #[a0] w R:=
 tz 17 [(.tmp 2)] (s z (s (j [10] [0] z (i (s z z) z)) (s z (s z (s z z))))) [a0] func272 h
def Vz273:VT1:=λP c w R=>
 Bn P 118 false c (.pointer none) λe=>Vif e (R (I 0) w) (Nc c<|Fo 9 c λf=>Ld f w λg=>R g w)
theorem Tz273 (h:Vz273 prog a0 w R):Cl prog 273 #[a0] w R:=
 tz 9 [(.tmp 2)] (s z (s (s z (i (s z z) z)) (s z z))) [a0] func273 h
def Vz274:VT2:=λP c e w R=>
 VJoin 1 (λ_ y m=>Vif y (R (I 0) m) (Dr m λk=>Lns e λp=>Nc c<|Fo 0 c λq=>Ld q k λt=>Nc c<|Fo 3 c λC=>Ld C k λD=>Cl P 282 #[D] k λE f=>Rk (λw K=>Ld q w λF=>K F) t f<|Rk (λw K=>Lns e λG=>K G) p f<|Bp .sub t E λJ=>Bmin P #[3,3] 3 #[p,J] f λg=>Dr f λu=>Nc c<|Fo 3 c λL=>Ld L u λM=>Sst e none (some g) λN=>Cl P 283 #[M,N] u λa1 v=>Bp .gtr g (I 0) λO=>Vif O (Nc c<|Fo 6 c λQ=>St Q (.bool false) v λS=>R g S) (R g v))) (λJ22=>Bn P 118 false c (.pointer none) λU=>Vif U (KS [c,e]<|J22 (.bool true) w) (Nc c<|Fo 2 c λW=>Ld W w λY=>Vif Y (KS [c,e]<|J22 (.bool true) w) (Nc c<|Fo 8 c λZ=>Ld Z w λa0=>KS [c,e]<|J22 a0 w)))
theorem Tz274 (h:Vz274 prog a0 a1 w R):Cl prog 274 #[a0,a1] w R:=
 tz 47 [(.tmp 4)] (s z (s (j [19] [0,1] z (i (s z z) z)) (s (r (.staged [0,1,0,4,12,28,0,64,192,448,960,2044,4095,8191])) (s (r (.staged [0,1,3,7,0,0,48,127])) (s (s z (i z z)) (s z z)))))) [a0,a1] func274 h
def Vz276:VT2:=λP c f w R=>
 VLoop 1 [(I 0)] w λ_ k e m=>VJoin 1 (λ_ q g=>Vif q (Nc c<|Fo 5 c λt=>Ld t g λu=>Bn P 327 true u (.pointer none) λv=>Vif v (Cl P 281 #[c] g λY y=>Bp .add e (I 1) λC=>KS [c,f]<|k C y) (Cl P 284 #[c] g λD p=>Up .not D λE=>Vif E (KS [c,f]<|k e p) (Bp .add e (I 1) λF=>KS [c,f]<|k F p))) (Bn P 118 true c (.pointer none) λG=>Vif G (Nc c<|Fo 10 c λJ=>Ld J g λL=>Bp .add L e λM=>Nc c<|Fo 10 c λN=>St N M g λO=>R e O) (R e g))) (λJ17=>Bp .lss e f λQ=>Vif Q (Cl P 278 #[c] m λS U=>Up .not S λW=>KS [c,f,e]<|J17 W U) (KS [c,f,e]<|J17 (.bool false) m))
theorem Tz276 (h:Vz276 prog a0 a1 w R):Cl prog 276 #[a0,a1] w R:=
 tz 37 [(.tmp 4)] (s z (s z (s (b (l [5] [0,1] (s (j [13] [0,1,5] z (i z z)) (b (s (s z (i z (s z (i z z)))) z))))) (s (s z (i z z)) (s z z))))) [a0,a1] func276 h
def Vz278:VT1:=λP c w R=>
 VJoin 1 (λ_ g e=>Vif g (R (.bool true) e) (Nc c<|Fo 5 c λk=>Ld k e λm=>Bn P 327 true m (.pointer none) λp=>Vif p (Dr e λf=>Nc c<|Fo 7 c λq=>Ld q f λt=>Lnl t λu=>Nc c<|Fo 1 c λv=>Ld v f λy=>Bp .geq u y λC=>R C f) (Nc c<|Fo 6 c λD=>Ld D e λE=>R E e))) (λJ16=>Bn P 118 false c (.pointer none) λF=>Vif F (KS [c]<|J16 (.bool true) w) (Nc c<|Fo 8 c λG=>Ld G w λJ=>KS [c]<|J16 J w))
theorem Tz278 (h:Vz278 prog a0 w R):Cl prog 278 #[a0] w R:=
 tz 32 [(.tmp 2)] (s z (s (b (j [3] [0] z (i (s z z) (s z (i (s (r (.staged [0,1,3,7,15,0,32,96,224,511,1023])) z) z))))) (s z z))) [a0] func278 h
def Vz279:VT2:=λP c f w R=>
 VJoin 1 (λ_ m e=>Vif m (R (.string ⟨#[]⟩) e) (Nc c<|Fo 7 c λp=>Ld p e λq=>Lnl q λt=>Bmin P #[3,3] 3 #[f,t] e λg=>Nc c<|Fo 7 c λu=>Ld u e λv=>Ssl 1 v none (some g) λy=>Cw P 84 9 y e λC k=>Nc c<|Fo 7 c λD=>Ld D k λE=>Ssl 1 E (some g) none λF=>Nc c<|Fo 7 c λG=>St G F k λJ=>R C J)) (λJ14=>Bn P 118 false c (.pointer none) λL=>Vif L (KS [c,f]<|J14 (.bool true) w) (Bp .lss f (I 1) λM=>KS [c,f]<|J14 M w))
theorem Tz279 (h:Vz279 prog a0 a1 w R):Cl prog 279 #[a0,a1] w R:=
 tz 37 [(.tmp 4)] (s z (s (j [12] [0,1] z (i (s z z) z)) (s z (s z (s z (s z z)))))) [a0,a1] func279 h
def Vz280:VT1:=λP c w R=>
 Bn P 118 false c (.pointer none) λe=>Vif e (R (I 0) w) (Nc c<|Fo 7 c λf=>Ld f w λg=>Lnl g λk=>R k w)
theorem Tz280 (h:Vz280 prog a0 w R):Cl prog 280 #[a0] w R:=
 tz 10 [(.tmp 2)] (s z (s (s z (i (s z z) z)) (s z z))) [a0] func280 h
def Vz282:VT1:=λP c w R=>
 Bn P 150 false c (.pointer none) λe=>Vif e (R (I 0) w) (Nc c<|Fo 0 c λf=>Ld f w λg=>Lns g λk=>R k w)
theorem Tz282 (h:Vz282 prog a0 w R):Cl prog 282 #[a0] w R:=
 tz 10 [(.tmp 2)] (s z (s (s z (i (s z z) z)) (s z z))) [a0] func282 h
def Vz283:VT2:=λP c e w R=>
 Bn P 150 false c (.pointer none) λf=>Vif f (R (I 7) w) (Nc c<|Fo 0 c λg=>Ld g w λk=>Bp .add k e λm=>Nc c<|Fo 0 c λp=>St p m w λq=>R (I 0) q)
theorem Tz283 (h:Vz283 prog a0 a1 w R):Cl prog 283 #[a0,a1] w R:=
 tz 15 [(.tmp 4)] (s z (s (s z (i (s z z) z)) (s z (s z z)))) [a0,a1] func283 h
def Vz284:VT1:=λP c w R=>
 VJoin 1 (λ_ v q=>Vif v (Cl P 286 #[c,(I 0)] q λb6 y=>R (.bool true) y) (Dr q λg=>Nc c<|Fo 4 c λC=>Ld C g λD=>Nc c<|Fo 3 c λE=>Ld E g λF=>Cl P 290 #[D,F] g λt u=>Ex t 0 λk=>Ex t 1 λe=>Nc c<|Fo 3 c λG=>Ld G u λJ=>Cl P 291 #[J] u λb7 m=>VJoin 1 (λ_ L f=>Vif L (Nc c<|Fo 6 c λM=>St M (.bool true) f λN=>R (.bool false) N) (Bv .eql e (I 3) (Cl P 286 #[c,(I 24)] f λb8 O=>R (.bool true) O) (Bv .neq e (I 0) (Cl P 286 #[c,e] f λb9 Q=>R (.bool true) Q) (Bv .eql k (I 1) (Nc c<|Fo 4 c λS=>Ld S f λU=>Cl P 293 #[U] f λW Y=>Cl P 292 #[W] Y λZ a0=>Nc c<|Fo 5 c λa1=>St a1 Z a0 λa2=>R (.bool true) a2) (R (.bool true) f))))) (λJ27=>Bv .eql e (I 3) (Nc c<|Fo 2 c λa3=>Ld a3 m λa4=>Up .not a4 λa5=>KS [c,k,e]<|J27 a5 m) (KS [c,k,e]<|J27 (.bool false) m)))) (λJ32=>Nc c<|Fo 2 c λa6=>Ld a6 w λa7=>Vif a7 (Nc c<|Fo 4 c λa8=>Ld a8 w λa9=>Cl P 288 #[a9] w λb0 p=>Vif b0 (Nc c<|Fo 3 c λb1=>Ld b1 p λb2=>Cl P 289 #[b2] p λb3 b4=>Bp .eql b3 (I 0) λb5=>KS [c]<|J32 b5 b4) (KS [c]<|J32 (.bool false) p)) (KS [c]<|J32 (.bool false) w))
theorem Tz284 (h:Vz284 prog a0 w R):Cl prog 284 #[a0] w R:=
 tz 79 [(.tmp 2)] (s z (s (j [23] [0] z (i (s z (s z z)) z)) (s (r (.staged [0,1,3,7,0,16,48,112,255,511,1023,1023,2047,8191])) (s z (s (b (j [43] [0,3,4] z (i (s z (s z z)) (s z (i z (s z (i z (s z (i z z))))))))) (s z z)))))) [a0] func284 h
def Vz286:VT2:=λP c e w R=>
 Nc c<|Fo 8 c λf=>St f (.bool true) w λg=>Nc c<|Fo 9 c λk=>St k e g λm=>Nc c<|Fo 5 c λp=>St p (.pointer none) m λq=>R (.tuple #[]) q
theorem Tz286 (h:Vz286 prog a0 a1 w R):Cl prog 286 #[a0,a1] w R:=
 tz 14 [] (s z (s z z)) [a0,a1] func286 h
def Vz288:VT1:=λP c w R=>
 Bn P 148 true c (.pointer none) λe=>Vif e (Nc c<|Fo 9 c λf=>Ld f w λg=>Vif g (Nc c<|Fo 1 c λk=>Ld k w λm=>Bv .eql m (I 0) (Nc c<|Fo 2 c λp=>Ld p w λq=>Bv .eql q (I 0) (Nc c<|Fo 10 c λt=>Ld t w λu=>Bp .eql u (I 0) λv=>R v w) (R (.bool false) w)) (R (.bool false) w)) (R (.bool false) w)) (R (.bool false) w)
theorem Tz288 (h:Vz288 prog a0 w R):Cl prog 288 #[a0] w R:=
 tz 32 [(.tmp 2)] (s z (s z z)) [a0] func288 h
def Vz289:VT1:=λP c w R=>
 Bn P 150 false c (.pointer none) λm=>Vif m (R (I 0) w) (Dr w λe=>Cl P 299 #[c] e λp f=>Nc c<|Fo 2 c λg=>Ld g f λk=>Rk (λw K=>Ld g w λq=>K q) k e<|Bp .sub p k λt=>R t f)
theorem Tz289 (h:Vz289 prog a0 w R):Cl prog 289 #[a0] w R:=
 tz 12 [(.tmp 2)] (s z (s (s z (i (s z z) z)) (s (r (.staged [0,1,0,4,12,28,63,127])) z))) [a0] func289 h
def Vz290:VT2:=λP c e w R=>
 VJoin 1 (λ_ t f=>Vif t (R (.tuple #[(I 0),(I 7)]) f) (Nc c<|Fo 10 c λu=>Ld u f λv=>Bv .neq v (I 0) (Dr f λk=>Nc c<|Fo 10 c λy=>Ld y k λC=>R (.tuple #[(I 0),C]) k) (Cl P 300 #[c,e] f λm p=>Ex m 0 λq=>Ex m 1 λg=>Bv .neq g (I 3) (Nc c<|Fo 10 c λD=>St D g p λE=>R (.tuple #[q,g]) E) (R (.tuple #[q,g]) p)))) (λJ13=>Bn P 148 false c (.pointer none) λF=>Vif F (KS [c,e]<|J13 (.bool true) w) (Bn P 150 false e (.pointer none) λG=>KS [c,e]<|J13 G w))
theorem Tz290 (h:Vz290 prog a0 a1 w R):Cl prog 290 #[a0,a1] w R:=
 tz 39 [(.tmp 4),(.tmp 5)] (s z (s (b (j [8] [0,1] z (i (s z z) (s z (i (s (r (.staged [0,1,3,7,0,31])) z) z))))) (s z (s (s z (i z z)) (s z z))))) [a0,a1] func290 h
def Vz291:VT1:=λP c w R=>
 Bn P 150 false c (.pointer none) λk=>Vif k (R (I 0) w) (Dr w λe=>Nc c<|Fo 2 c λm=>Ld m e λp=>Bp .quo p (I 8) λq=>Nc c<|Fo 1 c λt=>Ld t e λu=>Bp .sub q u λf=>Nc c<|Fo 0 c λv=>Ld v e λy=>Sst y (some f) none λC=>Nc c<|Fo 0 c λD=>St D C e λg=>Nc c<|Fo 1 c λE=>Ld E g λF=>Bp .add F f λG=>Nc c<|Fo 1 c λJ=>St J G g λL=>R f L)
theorem Tz291 (h:Vz291 prog a0 w R):Cl prog 291 #[a0] w R:=
 tz 34 [(.tmp 2)] (s z (s (s z (i (s z z) z)) (s (r (.staged [0,1,3,7,15,0,32,96,224,511,1023])) (s z (s z (s z z)))))) [a0] func291 h
def Vz299:VT1:=λP c w R=>
 Dr w λe=>Nc c<|Fo 1 c λf=>Ld f e λg=>Nc c<|Fo 0 c λk=>Ld k e λm=>Lns m λp=>Bp .add g p λq=>Bp .mul (I 8) q λt=>R t e
theorem Tz299 (h:Vz299 prog a0 w R):Cl prog 299 #[a0] w R:=
 tz 14 [(.tmp 2)] (s z (s (r (.staged [0,1,3,7,0,16,48,112,240,511,1023,2047])) z)) [a0] func299 h
def Vz300:VT2:=λP c e w R=>
 Nc c<|Fo 1 c λm=>Ld m w λf=>Bv .eql f (I 0) (Cl P 306 #[c,e] w λp q=>R (.tuple #[(I 0),p]) q) (Bv .eql f (I 1) (Cl P 307 #[c,e] w λt u=>R (.tuple #[(I 0),t]) u) (Bv .eql f (I 2) (Cl P 308 #[c,e] w λg v=>Ex g 0 λy=>Ex g 1 λC=>R (.tuple #[y,C]) v) (Cl P 309 #[c,e] w λk D=>Ex k 0 λE=>Ex k 1 λF=>R (.tuple #[E,F]) D)))
theorem Tz300 (h:Vz300 prog a0 a1 w R):Cl prog 300 #[a0,a1] w R:=
 tz 32 [(.tmp 4),(.tmp 5)] (s z (s (s z (b (s z (i (s z z) (s z (i (s z z) (s z (i (s z z) z)))))))) (s z z))) [a0,a1] func300 h
def Vz306:VT2:=λP c p w R=>
 Cl P 311 #[p,(I 8)] w λg e=>Ex g 0 λf=>Ex g 1 λk=>Bv .neq k (I 0) (R k e) (Nc c<|Fo 2 c λq=>Ld q e λt=>Bv .lss t (I 3) (Nc c<|Fo 2 c λu=>Ld u e λv=>Ixs (.string ⟨#[66,90,104]⟩) v λy=>Ci .u32 y λC=>Bv .neq f C (R (I 20) e) (Nc c<|Fo 2 c λD=>Ld D e λE=>Bp .add E (I 1) λF=>Nc c<|Fo 2 c λG=>St G F e λJ=>R (I 0) J)) (VJoin 1 (λ_ L m=>Vif L (R (I 20) m) (Bp .sub f (.int .u32 48) λM=>Ci .i64 M λN=>Nc c<|Fo 3 c λO=>St O N m λQ=>Nc c<|Fo 2 c λS=>St S (I 0) Q λU=>Nc c<|Fo 8 c λW=>St W (.int .u32 0) U λY=>Nc c<|Fo 1 c λZ=>St Z (I 1) Y λa0=>R (I 0) a0)) (λJ24=>Bp .lss f (.int .u32 49) λa1=>Vif a1 (KS [c,f]<|J24 (.bool true) e) (Bp .gtr f (.int .u32 57) λa2=>KS [c,f]<|J24 a2 e))))
theorem Tz306 (h:Vz306 prog a0 a1 w R):Cl prog 306 #[a0,a1] w R:=
 tz 59 [(.tmp 4)] (s z (s z (s (b (s z (i (s z z) (s z (i (s (s z (i (s z z) z)) (s z (s z z))) (j [37] [0,5] z (i (s z z) z))))))) (s z (s z (s z (s z (s z z)))))))) [a0,a1] func306 h
def Vz307:VT2:=λP c e w R=>
 Cl P 289 #[e] w λu k=>Bv .lss u (I 48) (R (I 3) k) (Cl P 311 #[e,(I 24)] k λm v=>Ex m 0 λy=>Ex m 1 λa4=>Cl P 311 #[e,(I 24)] v λp f=>Ex p 0 λC=>Ex p 1 λa5=>Ci .u64 y λD=>Bp .shl D (.int .u64 24) λE=>Ci .u64 C λF=>Bp .or E F λq=>Bp .eql q (.int .u64 54156738319193) λG=>Vif G (Dr f λg=>Nc c<|Fo 3 c λJ=>Ld J g λL=>Nc c<|Fo 0 c λM=>Ld M g λN=>Bp .mul L N λO=>Cl P 312 #[O] g λt Q=>Ex t 0 λS=>Ex t 1 λU=>Nc c<|Fo 4 c λW=>St W S Q λY=>Nc c<|Fo 1 c λZ=>St Z (I 2) Y λa0=>R U a0) (Bp .eql q (.int .u64 25779555029136) λa1=>Vif a1 (Nc c<|Fo 1 c λa2=>St a2 (I 3) f λa3=>R (I 0) a3) (R (I 20) f)))
theorem Tz307 (h:Vz307 prog a0 a1 w R):Cl prog 307 #[a0,a1] w R:=
 tz 58 [(.tmp 4)] (s z (s (s z (i (s z z) z)) (s z (s z (s (s z (b (s z (i (s (r (.staged [0,1,3,7,0,16,48,112,255,511,1023,2047,2047,4095,16383])) (s z (s z (s z z)))) (s z (i (s z (s z z)) z)))))) (s z z)))))) [a0,a1] func307 h
def Vz309:VT2:=λP c f w R=>
 Cl P 311 #[f,(I 32)] w λg e=>Ex g 0 λm=>Ex g 1 λk=>Bv .neq k (I 0) (R (.tuple #[(I 0),k]) e) (Nc c<|Fo 8 c λp=>Ld p e λq=>Bv .neq m q (R (.tuple #[(I 0),(I 21)]) e) (Cl P 316 #[f] e λD t=>Nc c<|Fo 1 c λu=>St u (I 0) t λv=>Nc c<|Fo 9 c λy=>St y (.bool true) v λC=>R (.tuple #[(I 2),(I 0)]) C))
theorem Tz309 (h:Vz309 prog a0 a1 w R):Cl prog 309 #[a0,a1] w R:=
 tz 32 [(.tmp 4),(.tmp 5)] (s z (s z (s (b (s z (i (s z z) (s z (i (s z z) z))))) (s z (s z (s z (s z z))))))) [a0,a1] func309 h
def Vz311:VT2:=λP c e w R=>
 Bn P 150 false c (.pointer none) λt=>Vif t (R (.tuple #[(.int .u32 0),(I 7)]) w) (VJoin 1 (λ_ u g=>Vif u (R (.tuple #[(.int .u32 0),(I 1)]) g) (Cl P 289 #[c] g λv k=>Bv .lss v e (R (.tuple #[(.int .u32 0),(I 3)]) k) (VLoop 2 [(.int .u32 0),(I 0)] k λ_ y m p f=>Bv .lss p e (Bp .shl m (.int .u64 1) λC=>Nc c<|Fo 2 c λD=>Ld D f λE=>Cl P 317 #[c,E] f λF q=>Bp .or C F λG=>Nc c<|Fo 2 c λJ=>Ld J q λL=>Bp .add L (I 1) λM=>Nc c<|Fo 2 c λN=>St N M q λO=>Bp .add p (I 1) λQ=>KS [c,e]<|y G Q O) (R (.tuple #[m,(I 0)]) f)))) (λJ19=>Bp .lss e (I 0) λS=>Vif S (KS [c,e]<|J19 (.bool true) w) (Bp .gtr e (I 32) λU=>KS [c,e]<|J19 U w)))
theorem Tz311 (h:Vz311 prog a0 a1 w R):Cl prog 311 #[a0,a1] w R:=
 tz 43 [(.tmp 4),(.tmp 5)] (s z (s (b (s z (i (s z z) (j [10] [0,1] z (i (s z z) (s z (i (s z z) z))))))) (s z (s (s z (b (l [6,23] [0,22] (s z (s (i z z) (s (b (s z z)) z)))))) (s z z))))) [a0,a1] func311 h
def Vz316:VT1:=λP c w R=>
 VLoop 0 [] w λ_ g e=>VJoin 1 (λ_ k f=>Vif k (Nc c<|Fo 2 c λm=>Ld m f λp=>Bp .add p (I 1) λq=>Nc c<|Fo 2 c λt=>St t q f λu=>KS [c]<|g u) (R (.tuple #[]) f)) (λJ7=>Bn P 150 true c (.pointer none) λv=>Vif v (Nc c<|Fo 2 c λy=>Ld y e λC=>Bp .rem C (I 8) λD=>Bp .neq D (I 0) λE=>KS [c]<|J7 E e) (KS [c]<|J7 (.bool false) e))
theorem Tz316 (h:Vz316 prog a0 w R):Cl prog 316 #[a0] w R:=
 tz 19 [] (b (l [] [0] (s (j [11] [0] z (i z z)) (b z)))) [a0] func316 h
def Vz317:VT2:=λP c f w R=>
 Dr w λe=>Nc c<|Fo 0 c λg=>Ld g e λk=>Bp .quo f (I 8) λm=>Nc c<|Fo 1 c λp=>Ld p e λq=>Bp .sub m q λt=>Ixs k t λu=>Bp .rem f (I 8) λv=>Bp .sub (I 7) v λy=>Bp .shr u y λC=>Bp .and C (.int .u8 1) λD=>Ci .u32 D λE=>R E e
theorem Tz317 (h:Vz317 prog a0 a1 w R):Cl prog 317 #[a0,a1] w R:=
 tz 25 [(.tmp 4)] (s z (s (r (.staged [0,1,3,7,0,16,0,64,192,448,1008,2047,4095])) (s z z))) [a0,a1] func317 h
def Vz344:VT0:=λP w R=>
 Cl P 229 #[] w λe c=>Bd P 378 #[(2,e)] c λf=>New f 378 c λg k=>R g k
theorem Tz344 (h:Vz344 prog w R):Cl prog 344 #[] w R:=
 tz 4 [(.tmp 0)] (s z (s z z)) [] func344 h
def Vz359:VT1:=λP c w R=>
 Bn P 122 true c (.pointer none) λe=>Vif e (Nc c<|Fo 0 c λf=>Fo 0 f λg=>Ld g w λk=>Cl P 271 #[k] w λm p=>R m p) (R (.bool false) w)
theorem Tz359 (h:Vz359 prog a0 w R):Cl prog 359 #[a0] w R:=
 tz 13 [(.tmp 2)] (s z (s z z)) [a0] func359 h
def Vz360:VT1:=λP c w R=>
 Bn P 122 false c (.pointer none) λe=>Vif e (R (I 7) w) (Nc c<|Fo 0 c λf=>Fo 0 f λg=>Ld g w λk=>Cl P 272 #[k] w λm p=>R m p)
theorem Tz360 (h:Vz360 prog a0 w R):Cl prog 360 #[a0] w R:=
 tz 11 [(.tmp 2)] (s z (s (s z (i (s z z) z)) (s z z))) [a0] func360 h
def Vz361:VT1:=λP c w R=>
 Bn P 122 false c (.pointer none) λe=>Vif e (R (I 0) w) (Nc c<|Fo 0 c λf=>Fo 0 f λg=>Ld g w λk=>Cl P 273 #[k] w λm p=>R m p)
theorem Tz361 (h:Vz361 prog a0 w R):Cl prog 361 #[a0] w R:=
 tz 11 [(.tmp 2)] (s z (s (s z (i (s z z) z)) (s z z))) [a0] func361 h
def Vz362:VT2:=λP c e w R=>
 Bn P 122 false c (.pointer none) λf=>Vif f (R (I 0) w) (Nc c<|Fo 0 c λg=>Fo 0 g λk=>Ld k w λm=>Cl P 274 #[m,e] w λp q=>R p q)
theorem Tz362 (h:Vz362 prog a0 a1 w R):Cl prog 362 #[a0,a1] w R:=
 tz 14 [(.tmp 4)] (s z (s (s z (i (s z z) z)) (s z z))) [a0,a1] func362 h
def Vz364:VT2:=λP c e w R=>
 Bn P 122 false c (.pointer none) λv=>Vif v (R (I 0) w) (VLoop 1 [(I 0)] w λ_ p f q=>VJoin 1 (λ_ y k=>Vif y (Nc c<|Fo 0 c λC=>Fo 0 C λD=>Ld D k λE=>Bp .sub e f λF=>Cl P 276 #[E,F] k λG t=>Bp .add f G λg=>VJoin 1 (λ_ J u=>Vif J (Nc c<|Fo 0 c λL=>Cl P 370 #[L] u λa6 M=>KS [c,e]<|p g M) (KS [c,e]<|p g u)) (λJ14=>Nc c<|Fo 0 c λN=>Fo 0 N λO=>Ld O t λQ=>Cl P 280 #[Q] t λS m=>Bp .geq S (I 4096) λU=>Vif U (KS [c,e,g]<|J14 (.bool true) m) (Nc c<|Fo 0 c λW=>Fo 0 W λY=>Ld Y m λZ=>Cl P 271 #[Z] m λa0 a1=>KS [c,e,g]<|J14 a0 a1))) (Cl P 369 #[c] k λa7 a2=>R f a2)) (λJ25=>Bv .lss f e (Cl P 366 #[c] q λa3 a4=>Up .not a3 λa5=>KS [c,e,f]<|J25 a5 a4) (KS [c,e,f]<|J25 (.bool false) q)))
theorem Tz364 (h:Vz364 prog a0 a1 w R):Cl prog 364 #[a0,a1] w R:=
 tz 49 [(.tmp 4)] (s z (s (s z (i (s z z) z)) (s z (s (b (l [5] [0,1] (s (j [15] [0,1,5] z (i z z)) (b (s z (j [41] [0,1,5] z (i z z))))))) (s z (s z z)))))) [a0,a1] func364 h
def Vz366:VT1:=λP c w R=>
 Bn P 122 false c (.pointer none) λe=>Vif e (R (.bool true) w) (Nc c<|Fo 0 c λf=>Fo 0 f λg=>Ld g w λk=>Cl P 278 #[k] w λm p=>R m p)
theorem Tz366 (h:Vz366 prog a0 w R):Cl prog 366 #[a0] w R:=
 tz 13 [(.tmp 2)] (s z (s z z)) [a0] func366 h
def Vz367:VT2:=λP c f w R=>
 VJoin 1 (λ_ k e=>Vif k (R (.string ⟨#[]⟩) e) (Nc c<|Fo 2 c λm=>Ld m e λp=>Lns p λq=>Bmin P #[3,3] 3 #[f,q] e λg=>Nc c<|Fo 2 c λt=>Ld t e λu=>Sst u none (some g) λv=>Nc c<|Fo 2 c λy=>Ld y e λC=>Sst C (some g) none λD=>Nc c<|Fo 2 c λE=>St E D e λF=>R v F)) (λJ13=>Bn P 122 false c (.pointer none) λG=>Vif G (KS [c,f]<|J13 (.bool true) w) (Bp .lss f (I 1) λJ=>KS [c,f]<|J13 J w))
theorem Tz367 (h:Vz367 prog a0 a1 w R):Cl prog 367 #[a0,a1] w R:=
 tz 36 [(.tmp 4)] (s z (s (j [12] [0,1] z (i (s z z) z)) (s z (s z (s z (s z z)))))) [a0,a1] func367 h
def Vz368:VT1:=λP c w R=>
 Bn P 122 false c (.pointer none) λe=>Vif e (R (I 0) w) (Nc c<|Fo 2 c λf=>Ld f w λg=>Lns g λk=>R k w)
theorem Tz368 (h:Vz368 prog a0 w R):Cl prog 368 #[a0] w R:=
 tz 10 [(.tmp 2)] (s z (s (s z (i (s z z) z)) (s z z))) [a0] func368 h
def Vz369:VT1:=λP c w R=>
 VJoin 1 (λ_ m g=>Vif m (Nc c<|Fo 3 c λp=>St p (.bool true) g λk=>Nc c<|Fo 0 c λq=>Fo 1 q λt=>Ld t k λu=>Cl P 371 #[u] k λv y=>Nc c<|Fo 2 c λC=>St C v y λD=>R (.tuple #[]) D) (R (.tuple #[]) g)) (λJ8=>Nc c<|Fo 0 c λE=>Fo 0 E λF=>Ld F w λG=>Cl P 271 #[G] w λJ e=>Vif J (Nc c<|Fo 0 c λL=>Fo 0 L λM=>Ld M e λN=>Cl P 273 #[N] e λO f=>Bv .eql O (I 0) (Nc c<|Fo 3 c λQ=>Ld Q f λS=>Up .not S λU=>KS [c]<|J8 U f) (KS [c]<|J8 (.bool false) f)) (KS [c]<|J8 (.bool false) e))
theorem Tz369 (h:Vz369 prog a0 w R):Cl prog 369 #[a0] w R:=
 tz 36 [] (j [23] [0] z (i (s z z) z)) [a0] func369 h
def Vz370:VT1:=λP c w R=>
 Dr w λe=>Nc c<|Fo 1 c λf=>Ld f e λg=>Nc c<|Fo 0 c λp=>Ld p e λq=>Nc c<|Fo 0 c λu=>Ld u e λv=>Cl P 280 #[v] e λy k=>Rk (λw K=>Ld p w λC=>K C) q k<|Rk (λw K=>Ld f w λm=>K m) g k<|Cl P 279 #[q,y] k λD t=>Rk (λw K=>Ld f w λm=>K m) g t<|Lns D λE=>Bp .add g E λF=>Nc c<|Fo 1 c λG=>St G F t λJ=>R (.tuple #[]) J
theorem Tz370 (h:Vz370 prog a0 w R):Cl prog 370 #[a0] w R:=
 tz 20 [] (r (.staged [0,1,3,7,0,16,48,112,0,256,768,1792,3840,8176,16368,32767,65535,131071,262143])) [a0] func370 h
def Vz371:VT1:=λP c w R=>
 Bv .lss c (I 10) (Bmax P #[3,3] 3 #[c,(I 0)] w λu=>Bp .add (I 48) u λv=>Ci .u8 v λy=>Bs P 84 1 #[(0,y)] w λC D=>Cw P 84 9 C D λE F=>R E F) (Dr w λe=>Bp .quo c (I 10) λf=>Bp .rem c (I 10) λG=>Bp .add (I 48) G λJ=>Ci .u8 J λg=>(Cl P 371 #[f] e λL M=>Bs P 84 1 #[(0,g)] M λN k=>Cv P 84 9 N k λO=>Bp .add L O λQ=>R Q k)/\(Bs P 84 1 #[(0,g)] e λm p=>Cv P 84 9 m p λq=>Cl P 371 #[f] p λS t=>Rk (λw K=>Cv P 84 9 m w λU=>K U) q t<|Bp .add S q λW=>R W t))
theorem Tz371 (h:Vz371 prog a0 w R):Cl prog 371 #[a0] w R:=
 tz 21 [(.tmp 2)] (s z (s (s z (i (s z z) z)) (s (r (.tree [0,1,3,0,8,24,56,120,248,511,1023] (.op 0 (.op 1 (.op 3 (.op 4 (.op 5 (.op 6 (.fk (.op 2 (.op 7 (.op 8 (.op 9 (.op 10 .dn))))) (.op 7 (.op 8 (.op 2 (.op 9 (.op 10 .dn)))))))))))))) z))) [a0] func371 h
end Go.Proofs.YtieneaffjelhhaaGreat
