/- Formulas of the program's functions, printed by a program of the prover's own (dec.py); each is tied to its code by the kernel. -/
import Derived.Test.YthhkodlnfogkgaaGreatDoorMG0
import Derived.Test.YthhkodlnfogkgaaGreatDoorProg
set_option linter.unusedVariables false
set_option maxRecDepth 1000000
namespace Go.Proofs.YthhkodlnfogkgaaGreatDoor
open Go Go.Vc Tryz Vc.H
abbrev I (n:Int):Value:=.int .i64 n
abbrev Bv (o:BinOp) (a b:Value) (A B:Prop):Prop:=Bp o a b λx=>Vif x A B
abbrev KS (a:List Value) (X:Prop):Prop:=KE a a X
abbrev VT1:=Program->Value->World->KT->Prop
abbrev VT2:=Program->Value->Value->World->KT->Prop
abbrev VT3:=Program->Value->Value->Value->World->KT->Prop
abbrev VT4:=Program->Value->Value->Value->Value->World->KT->Prop
abbrev VT5:=Program->Value->Value->Value->Value->Value->World->KT->Prop
variable {a0 a1 a2 a3 a4 a5 a6 a7 a8 a9:Value}
variable {w:World}{R:Value->World->Prop}

def Vz3:VT1:=λP g w R=>
 Lns g λD=>Bv .gtr D (I 400) (Cl P 4 #[] w λE F=>R E F) (Cl P 5 #[g] w λm G=>Ex m 0 λJ=>Ex m 1 λp=>New (zeroP P 26) 26 G λk L=>StA 2 k J L λM=>Cl P 6 #[g] M λN O=>New (zeroP P 32) 32 O λe Q=>StA 2 e N Q λc=>Fo 1 e λS=>Ld S c λU=>Bv .neq U (I 0) (Fo 1 e λW=>Ld W c λY=>Bv .eql p Y (LdA 2 k c λZ=>Cl P 8 #[Z] c λa0 q=>Bd P 37 #[] q λa1=>Cl P 7 #[a0,a1] q λa2 t=>Vif a2 (Cl P 4 #[] t λa3 a4=>R a3 a4) (R (.bool false) t)) (R (.bool false) c)) (Dr c λf=>Bv .eql p (I 0) (LdA 2 k f λa5=>Cl P 8 #[a5] f λa6 u=>Fo 0 e λv=>Ld v u λy=>Rk (λw K=>Ld v w λa7=>K a7) y f<|Cl P 9 #[y] u λa8 a9=>Cl P 7 #[a6,a8] a9 λb0 C=>Vif b0 (Cl P 4 #[] C λb1 b2=>R b1 b2) (R (.bool false) C)) (R (.bool false) f)))
theorem Tz3 (h:Vz3 prog a0 w R):Cl prog 3 #[a0] w R:=
 tz 46 [(.tmp 2)] (s z (s (s z (i (s z z) z)) (s z (s z (s (s z (i (s z z) z)) (s (r (.staged [0,1,3,7,15,7,39,127,255,511,1023,2047,4095,8191])) z)))))) [a0] func3 h
def Vz5:VT1:=λP p w R=>
 New (zeroP P 26) 26 w λc q=>Cl P 15 #[p] q λf e=>Ex f 0 λt=>Ex f 1 λg=>Bv .neq g (I 0) (Bd P 26 #[] e λu=>StA 2 c u e λk=>LdA 2 c k λv=>R (.tuple #[v,g]) k) (Cl P 16 #[t] e λy C=>StA 2 c y C λm=>LdA 2 c m λD=>R (.tuple #[D,(I 0)]) m)
theorem Tz5 (h:Vz5 prog a0 w R):Cl prog 5 #[a0] w R:=
 tz 17 [(.cell 2 26),(.tmp 3)] (s z (s z (s (s z (i (s z z) z)) (s z z)))) [a0] func5 h
def Vz6:VT1:=λP F w R=>
 New (zeroP P 32) 32 w λc G=>Cl P 17 #[F] G λJ L=>New (zeroP P 63) 63 L λg M=>StA 3 g J M λe=>Fo 2 g λN=>Ld N e λO=>Bv .neq O (I 0) (Fo 2 g λQ=>Ld Q e λS=>Bd P 32 #[(1,S)] e λU=>StA 2 c U e λt=>LdA 2 c t λW=>R W t) (Fo 0 g λY=>Ld Y e λm=>Lnl m λu=>VLoop 2 [(.slice none 0 0),(I 0)] e λ_ Z v p k=>Bv .lss p u (Ias 3 m p λa0=>LdA 3 a0 k λa1=>New (zeroP P 66) 66 k λy a2=>StA 3 y a1 a2 λC=>LdA 3 y C λa3=>Cl P 18 #[a3] C λa4 a5=>New (zeroP P 70) 70 a5 λq a6=>StA 5 q a4 a6 λf=>Fo 4 q λa7=>Ld a7 f λa8=>Up .not a8 λa9=>Vif a9 (Bd P 32 #[(1,(I 35))] f λb0=>StA 2 c b0 f λD=>LdA 2 c D λb1=>R b1 D) (Fo 0 q λb2=>LdA 4 b2 f λb3=>Bs P 30 1 #[(0,b3)] f λb4 b5=>Ap P #[30,30] 30 #[v,b4] b5 λb6 b7=>Bp .add p (I 1) λb8=>KS [c,m,u]<|Z b6 b8 b7)) (Bd P 32 #[(0,v)] k λb9=>StA 2 c b9 k λE=>LdA 2 c E λc0=>R c0 E))
theorem Tz6 (h:Vz6 prog a0 w R):Cl prog 6 #[a0] w R:=
 tz 37 [(.cell 2 32)] (s z (s z (s (s z (i (s z z) z)) (s z (s (s z (b (l [4,19] [2,17,18] (s z (s (i z z) (s (b (s z (s z (s (s z (i (s z z) z)) z)))) z)))))) (s z z)))))) [a0] func6 h
def Vz7:VT2:=λP G J w R=>
 New G 37 w λe L=>New J 37 L λc f=>VJoin 1 (λ_ M t=>Vif M (R (.bool false) t) (Fo 0 e λN=>Ld N t λu=>Lnl u λC=>VLoop 1 [(I 0)] t λ_ O m p=>Bv .lss m C (Ias 4 u m λQ=>LdA 4 Q p λS=>New (zeroP P 73) 73 p λD U=>StA 4 D S U λW=>Dr W λg=>LdA 4 D g λY=>Fo 0 c λZ=>Ld Z g λa0=>Ias 4 a0 m λa1=>LdA 4 a1 g λa2=>Be P .neq 73 (.tmp 33) (.tmp 38) Y a2 g λa3=>Vif a3 (R (.bool false) g) (Bp .add m (I 1) λa4=>KS [e,c,u,C]<|O a4 g)) (Fo 1 e λa5=>Ld a5 p λv=>Lnl v λE=>VLoop 1 [(I 0)] p λ_ a6 q y=>Bp .lss q E λa7=>Vif a7 (Ias 4 v q λa8=>LdA 4 a8 y λa9=>New (zeroP P 68) 68 y λF b0=>StA 4 F a9 b0 λb1=>Dr b1 λk=>LdA 4 F k λb2=>Fo 1 c λb3=>Ld b3 k λb4=>Ias 4 b4 q λb5=>LdA 4 b5 k λb6=>Be P .neq 68 (.tmp 49) (.tmp 54) b2 b6 k λb7=>Vif b7 (R (.bool false) k) (Bp .add q (I 1) λb8=>KS [c,v,E]<|a6 b8 k)) (R (.bool true) y)))) (λJ44=>Fo 0 e λb9=>Ld b9 f λc0=>Lnl c0 λc1=>Fo 0 c λc2=>Ld c2 f λc3=>Lnl c3 λc4=>Bp .neq c1 c4 λc5=>Vif c5 (KS [e,c]<|J44 (.bool true) f) (Fo 1 e λc6=>Ld c6 f λc7=>Lnl c7 λc8=>Fo 1 c λc9=>Ld c9 f λd0=>Lnl d0 λd1=>Bp .neq c8 d1 λd2=>KS [e,c]<|J44 d2 f))
theorem Tz7 (h:Vz7 prog a0 a1 w R):Cl prog 7 #[a0,a1] w R:=
 tz 57 [(.tmp 4)] (s z (s (j [24] [2,3] z (i (s z z) z)) (s (s z (b (l [28] [2,3,26,27] (s z (s (i z z) (s (b (s z (s (r (.staged [0,0,2,0,14,30,63])) (i (s z z) z)))) z)))))) (s (s z (b (l [44] [3,42,43] (s z (s (i z z) (s (b (s z (s (r (.staged [0,0,2,0,14,30,63])) (i (s z z) z)))) z)))))) (s z z))))) [a0,a1] func7 h
def Vz8:VT1:=λP L w R=>
 New L 26 w λt M=>New (zeroP P 37) 37 M λm D=>Bd P 37 #[] D λN=>New (zeroP P 37) 37 D λc O=>StA 2 c N O λE=>Fo 0 t λQ=>Ld Q E λu=>Lnl u λF=>VLoop 1 [(I 0)] E λ_ S v p=>Bv .lss v F (Ias 4 u v λU=>LdA 4 U p λW=>New (zeroP P 57) 57 p λg Y=>StA 4 g W Y λe=>Fo 0 c λZ=>Ld Z e λa0=>Fo 0 g λa1=>Ld a1 e λa2=>Fo 1 g λa3=>Ld a3 e λa4=>Fo 2 g λa5=>Ld a5 e λa6=>Fo 3 g λa7=>Ld a7 e λa8=>Bd P 73 #[(0,a2),(1,a4),(2,a6),(3,a8)] e λa9=>Bs P 35 1 #[(0,a9)] e λb0 b1=>Ap P #[35,35] 35 #[a0,b0] b1 λb2 b3=>Fo 0 c λb4=>St b4 b2 b3 λb5=>Bp .add v (I 1) λb6=>KS [t,m,c,u,F]<|S b6 b5) (Fo 1 t λb7=>Ld b7 p λy=>Lnl y λG=>VLoop 1 [(I 0)] p λ_ b8 C q=>Bp .lss C G λb9=>Vif b9 (Ias 4 y C λc0=>LdA 4 c0 q λc1=>New (zeroP P 74) 74 q λk c2=>StA 4 k c1 c2 λf=>Fo 1 c λc3=>Ld c3 f λc4=>Fo 0 k λc5=>Ld c5 f λc6=>Fo 1 k λc7=>Ld c7 f λc8=>Fo 2 k λc9=>Ld c9 f λd0=>Fo 3 k λd1=>Ld d1 f λd2=>Bd P 68 #[(0,c6),(1,c8),(2,d0),(3,d2)] f λd3=>Bs P 30 1 #[(0,d3)] f λd4 d5=>Ap P #[30,30] 30 #[c4,d4] d5 λd6 d7=>Fo 1 c λd8=>St d8 d6 d7 λd9=>Bp .add C (I 1) λe0=>KS [m,c,y,G]<|b8 e0 d9) (LdA 2 c q λe1=>StA 2 m e1 q λJ=>LdA 2 m J λe2=>R e2 J))
theorem Tz8 (h:Vz8 prog a0 w R):Cl prog 8 #[a0] w R:=
 tz 54 [(.cell 2 37)] (s z (s z (s (s z (b (l [12] [1,2,3,10,11] (s z (s (i z z) (s (b (s z z)) z)))))) (s (s z (b (l [34] [2,3,32,33] (s z (s (i z z) (s (b (s z z)) z)))))) (s z z))))) [a0] func8 h
def Vz9:VT1:=λP c w R=>
 New (zeroP P 37) 37 w λk M=>Bd P 37 #[] M λa1=>New (zeroP P 37) 37 M λg a2=>StA 2 g a1 a2 λa3=>Lnl c λm=>VLoop 1 [(I 0)] a3 λ_ N f F=>Bv .lss f m (Ias 4 c f λa4=>LdA 4 a4 F λa5=>New (zeroP P 68) 68 F λe a6=>StA 4 e a5 a6 λG=>VJoin 0 (λ_ a7=>VJoin 1 (λ_ a8 C=>Vif a8 (Bp .add f (I 1) λa9=>KS [c,k,g,c,m]<|N a9 C) (Fo 1 e λb0=>Ld b0 C λb1=>Fo 0 e λb2=>Ld b2 C λb3=>Bp .eql b3 (I 67) λb4=>Fo 3 e λb5=>Ld b5 C λb6=>Bd P 73 #[(0,b1),(1,b4),(3,b6)] C λb7=>New (zeroP P 73) 73 C λq b8=>StA 4 q b7 b8 λb9=>Ssl 4 c none (some f) λt=>Lnl t λD=>VLoop 1 [(I 0)] b9 λ_ O u E=>Bp .lss u D λc0=>Vif c0 (Ias 4 t u λc1=>LdA 4 c1 E λc2=>New (zeroP P 68) 68 E λv c3=>StA 4 v c2 c3 λy=>VJoin 1 (λ_ c4 J=>Vif c4 (Fo 2 q λc5=>Ld c5 J λc6=>Fo 2 v λc7=>Ld c7 J λc8=>Bp .add c6 c8 λc9=>Fo 2 q λd0=>St d0 c9 J λd1=>Bp .add u (I 1) λd2=>KS [c,k,g,e,q,c,m,f,t,D]<|O d2 d1) (Bp .add u (I 1) λd3=>KS [c,k,g,e,q,c,m,f,t,D]<|O d3 J)) (λJ39=>Fo 1 q λd4=>Ld d4 y λd5=>Vif d5 (Fo 0 v λd6=>Ld d6 y λd7=>Bv .eql d7 (I 66) (Fo 1 v λd8=>Ld d8 y λd9=>Fo 1 e λe0=>Ld e0 y λe1=>Bp .eql d9 e1 λe2=>KS [c,k,g,e,q,v,c,m,f,t,D,u]<|J39 e2 y) (KS [c,k,g,e,q,v,c,m,f,t,D,u]<|J39 (.bool false) y)) (KS [c,k,g,e,q,v,c,m,f,t,D,u]<|J39 (.bool false) y))) (Fo 0 g λe3=>Ld e3 E λe4=>LdA 4 q E λe5=>Cl P 20 #[e4,e5] E λe6 e7=>Fo 0 g λe8=>St e8 e6 e7 λe9=>Bp .add f (I 1) λf0=>KS [c,k,g,c,m]<|N f0 e9))) (λJ56=>Dr a7 λp=>Fo 0 e λf1=>Ld f1 p λf2=>Bp .neq f2 (I 67) λf3=>Vif f3 (Fo 0 e λf4=>Ld f4 p λf5=>Bv .neq f5 (I 68) (KS [c,k,g,f,e,c,m,f]<|J56 (.bool true) p) (Fo 0 g λf6=>Ld f6 p λf7=>Fo 1 e λf8=>Ld f8 p λf9=>Cl P 19 #[f7,f9] p λg0 Q=>Vc.Fd 0 g0 λg1=>Fo 1 e λS=>Ld S Q λU=>Rk (λw K=>Ld S w λg2=>K g2) U p<|Bp .eql g1 U λg3=>KS [c,k,g,f,e,c,m,f]<|J56 g3 Q)) (Fo 0 g λg4=>Ld g4 p λg5=>Fo 1 e λg6=>Ld g6 p λg7=>Cl P 19 #[g5,g7] p λg8 W=>Vc.Fd 0 g8 λg9=>Fo 1 e λY=>Ld Y W λZ=>Rk (λw K=>Ld Y w λh0=>K h0) Z p<|Bp .eql g9 Z λh1=>KS [c,k,g,f,e,c,m,f]<|J56 h1 W))) (λJ91=>VJoin 1 (λ_ h2 L=>Vif h2 (Fo 1 g λh3=>Ld h3 L λh4=>LdA 4 e L λh5=>Bs P 30 1 #[(0,h5)] L λh6 h7=>Ap P #[30,30] 30 #[h4,h6] h7 λh8 h9=>Fo 1 g λi0=>St i0 h8 h9 λi1=>KS [c,k,g,f,e,c,m,f]<|J91 i1) (KS [c,k,g,f,e,c,m,f]<|J91 L)) (λJ99=>Fo 0 e λi2=>Ld i2 G λi3=>Bp .eql i3 (I 69) λi4=>Vif i4 (Fo 3 e λi5=>Ld i5 G λi6=>Bp .neq i6 (I 34) λi7=>KS [c,k,g,f,e,c,m,f]<|J99 i7 G) (KS [c,k,g,f,e,c,m,f]<|J99 (.bool false) G)))) (LdA 2 g F λi8=>StA 2 k i8 F λa0=>LdA 2 k a0 λi9=>R i9 a0)
theorem Tz9 (h:Vz9 prog a0 w R):Cl prog 9 #[a0] w R:=
 tz 94 [(.cell 2 37)] (s z (s z (s (s z (b (l [12] [0,2,3,10,11] (s z (s (i z z) (s (b (s z (j [] [0,2,3,4,5,10,11,12] (j [24] [0,2,3,4,5,10,11,12] z (i z z)) (s (j [49] [0,2,3,4,5,10,11,12] (r (.staged [0,1,3,7,15,31,63,127,255,511,1023,511,2559,8191,16383,511,33279,131071,262143])) (i z z)) (s z (s (s z (b (l [62] [0,2,3,5,6,10,11,12,60,61] (s z (s (i z z) (s (b (s z (j [79] [0,2,3,5,6,8,10,11,12,60,61,62] z (i z z)))) z)))))) z)))))) z)))))) (s z z)))) [a0] func9 h
def Vz15:VT1:=λP E w R=>
 Cl P 29 #[E] w λc m=>Ex c 0 λe=>Ex c 1 λa1=>Ex c 2 λp=>Bv .neq p (I 0) (R (.tuple #[(.slice none 0 0),p]) m) (Lnl e λq=>VLoop 2 [(.slice none 0 0),(I 0)] m λ_ F t f g=>Bv .lss f q (Ias 3 e f λG=>LdA 3 G g λJ=>New (zeroP P 66) 66 g λu L=>StA 3 u J L λv=>LdA 3 u v λM=>Cl P 30 #[M] v λy N=>Ex y 0 λO=>Ex y 1 λC=>New (zeroP P 74) 74 N λD Q=>StA 4 D O Q λk=>Bv .neq C (I 0) (R (.tuple #[(.slice none 0 0),C]) k) (LdA 4 D k λS=>Bs P 24 1 #[(0,S)] k λU W=>Ap P #[24,24] 24 #[t,U] W λY Z=>Bp .add f (I 1) λa0=>KS [e,q]<|F Y a0 Z)) (R (.tuple #[t,(I 0)]) g))
theorem Tz15 (h:Vz15 prog a0 w R):Cl prog 15 #[a0] w R:=
 tz 41 [(.tmp 2),(.tmp 3)] (s z (s z (s (s z (i (s z z) z)) (s z (s (s z (b (l [7,23] [21,22] (s z (s (i z z) (s (b (s z (s z (s (s z (i (s z z) z)) z)))) z)))))) (s z z)))))) [a0] func15 h
def Vz16:VT1:=λP k w R=>
 New (zeroP P 26) 26 w λm U=>New (zeroP P 26) 26 U λc W=>Mm P 96 none W λg Y=>Mm P 97 none Y λp Z=>Lnl k λt=>VLoop 1 [(I 0)] Z λ_ u q E=>Bv .lss q t (Ias 4 k q λa0=>LdA 4 a0 E λa1=>New (zeroP P 74) 74 E λe a2=>StA 4 e a1 a2 λF=>Fo 0 e λa3=>Ld a3 F λv=>Bv .eql v (I 66) (Dr F λC=>Fo 1 e λL=>Ld L C λM=>Fo 1 e λa4=>Ld a4 C λa5=>Lk P 96 g a5 false C λa6=>Fo 2 e λa7=>Ld a7 C λa8=>Ap P #[98,9] 98 #[a6,a8] C λa9 N=>Rk (λw K=>Ld L w λb0=>K b0) M N<|Mu P 96 g M a9 N λb1=>Bp .add q (I 1) λb2=>KS [m,c,g,p,k,t]<|u b2 b1) (VJoin 1 (λ_ b3 f=>Vif b3 (Fo 1 e λb4=>Ld b4 f λb5=>Lk P 97 p b5 false f λb6=>Bp .gtr b6 (I 0) λb7=>Vif b7 (Bp .add q (I 1) λb8=>KS [m,c,g,p,k,t]<|u b8 f) (Fo 1 e λb9=>Ld b9 f λc0=>Fo 0 e λc1=>Ld c1 f λc2=>Bp .eql c2 (I 67) λc3=>Fo 3 e λc4=>Ld c4 f λc5=>Bd P 57 #[(0,c0),(1,c3),(3,c5)] f λc6=>New (zeroP P 57) 57 f λy c7=>StA 4 y c6 c7 λD=>VJoin 0 (λ_ G=>Fo 0 c λc8=>Ld c8 G λc9=>LdA 4 y G λd0=>Bs P 23 1 #[(0,d0)] G λd1 d2=>Ap P #[23,23] 23 #[c9,d1] d2 λd3 d4=>Fo 0 c λd5=>St d5 d3 d4 λJ=>Fo 1 e λd6=>Ld d6 J λd7=>Fo 0 c λd8=>Ld d8 J λd9=>Lnl d9 λe0=>Mu P 97 p d7 e0 J λe1=>Bp .add q (I 1) λe2=>KS [m,c,g,p,k,t]<|u e2 e1) (λJ55=>Fo 1 y λe3=>Ld e3 D λe4=>Vif e4 (Fo 1 e λe5=>Ld e5 D λe6=>Lk P 96 g e6 false D λe7=>Cw P 98 9 e7 D λe8 e9=>Fo 2 y λf0=>St f0 e8 e9 λf1=>KS [m,c,g,p,e,y,k,t,q]<|J55 f1) (KS [m,c,g,p,e,y,k,t,q]<|J55 D)))) (Bv .eql v (I 69) (Fo 3 e λf2=>Ld f2 f λf3=>Bv .neq f3 (I 34) (Fo 1 c λf4=>Ld f4 f λf5=>LdA 4 e f λf6=>Bs P 24 1 #[(0,f6)] f λf7 f8=>Ap P #[24,24] 24 #[f5,f7] f8 λf9 g0=>Fo 1 c λg1=>St g1 f9 g0 λg2=>Bp .add q (I 1) λg3=>KS [m,c,g,p,k,t]<|u g3 g2) (Bp .add q (I 1) λg4=>KS [m,c,g,p,k,t]<|u g4 f)) (Bp .add q (I 1) λg5=>KS [m,c,g,p,k,t]<|u g5 f))) (λJ76=>Bp .eql v (I 67) λO=>Vif O (KS [m,c,g,p,e,k,t,q,v]<|J76 O F) (Bp .eql v (I 68) λg6=>KS [m,c,g,p,e,k,t,q,v]<|J76 g6 F)))) (Fo 0 c λg7=>Ld g7 E λg8=>Cl P 31 #[g8,(.func (.func 32) #[] #[])] E λh1 Q=>LdA 2 c Q λg9=>StA 2 m g9 Q λS=>LdA 2 m S λh0=>R h0 S)
theorem Tz16 (h:Vz16 prog a0 w R):Cl prog 16 #[a0] w R:=
 tz 83 [(.cell 2 26)] (s z (s z (s z (s z (s (s z (b (l [13] [2,3,4,5,11,12] (s z (s (i z z) (s (b (s z (s z (b (s z (i (r (.staged [0,0,2,0,0,16,56,0,128,504,1023])) (j [31] [2,3,4,5,7,11,12,13,18] (s z (i z z)) (i (s (s z (i z z)) (s z (j [] [2,3,4,5,7,8,11,12,13] (s z (i z z)) (s z z)))) (s z (i (s z (i z z)) z)))))))))) z)))))) (s z (s z z))))))) [a0] func16 h
def Vz17:VT1:=λP m w R=>
 New (zeroP P 63) 63 w λe q=>Bd P 63 #[] q λE=>New (zeroP P 63) 63 q λc F=>StA 3 c E F λG=>Lns m λt=>VLoop 1 [(I 0)] G λ_ J u f=>Bv .lss u t (Fo 1 c λL=>Ld L f λM=>Lns m λN=>Bv .eql M N (LdA 3 c f λO=>StA 3 e O f λv=>LdA 3 e v λQ=>R Q v) (Fo 1 c λS=>Ld S f λU=>Sst m (some U) none λW=>Cl P 34 #[W] f λY Z=>New (zeroP P 103) 103 Z λk a0=>StA 5 k Y a0 λg=>Fo 4 k λa1=>Ld a1 g λa2=>Bv .neq a2 (I 0) (Fo 4 k λa3=>Ld a3 g λa4=>Fo 2 c λa5=>St a5 a4 g λy=>LdA 3 c y λa6=>StA 3 e a6 y λC=>LdA 3 e C λa7=>R a7 C) (Fo 0 c λa8=>Ld a8 g λa9=>Fo 0 k λb0=>LdA 3 b0 g λb1=>Bs P 61 1 #[(0,b1)] g λb2 b3=>Ap P #[61,61] 61 #[a9,b2] b3 λb4 b5=>Fo 0 c λb6=>St b6 b4 b5 λp=>Fo 1 c λb7=>Ld b7 p λb8=>Fo 3 k λb9=>Ld b9 p λc0=>Bp .add b8 c0 λc1=>Fo 1 c λc2=>St c2 c1 p λc3=>Bp .add u (I 1) λc4=>KS [m,e,c,t]<|J c4 c3))) (LdA 3 c f λc5=>StA 3 e c5 f λD=>LdA 3 e D λc6=>R c6 D)
theorem Tz17 (h:Vz17 prog a0 w R):Cl prog 17 #[a0] w R:=
 tz 42 [(.cell 2 63)] (s z (s z (s (s z (b (l [8] [0,2,3,7] (s z (s (i z z) (s (b (s (s z (i z z)) (s z (s (s z (i (s z (s z z)) z)) (s z z))))) z)))))) (s z z)))) [a0] func17 h
def Vz18:VT1:=λP L w R=>
 New L 66 w λc M=>New (zeroP P 70) 70 M λe p=>Fo 0 c λN=>Ld N p λO=>Fo 1 c λQ=>Ld Q p λS=>Bd P 68 #[(0,O),(1,S)] p λU=>New (zeroP P 68) 68 p λf W=>StA 4 f U W λy=>VJoin 1 (λ_ Y g=>Vif Y (Bd P 70 #[] g λZ=>StA 5 e Z g λC=>LdA 5 e C λa0=>R a0 C) (Fo 0 c λa1=>Ld a1 g λa2=>Bv .eql a2 (I 67) (LdA 4 f g λa3=>Fo 2 c λa4=>Ld a4 g λa5=>Bp .eql a5 (.string ⟨#[]⟩) λa6=>Bd P 70 #[(0,a3),(1,a6)] g λa7=>Cl P 36 #[a7] g λa8 a9=>StA 5 e a8 a9 λD=>LdA 5 e D λb0=>R b0 D) (VJoin 1 (λ_ b1 k=>Vif b1 (VJoin 1 (λ_ b2 q=>Vif b2 (Bd P 70 #[] q λb3=>StA 5 e b3 q λE=>LdA 5 e E λb4=>R b4 E) (Fo 2 c λb5=>Ld b5 q λb6=>Ixs b6 (I 0) λb7=>Ci .i64 b7 λb8=>Fo 3 f λb9=>St b9 b8 q λu=>LdA 4 f u λc0=>Bd P 70 #[(0,c0),(1,(.bool true))] u λc1=>StA 5 e c1 u λF=>LdA 5 e F λc2=>R c2 F)) (λJ34=>Fo 2 c λc3=>Ld c3 k λc4=>Lns c4 λc5=>Bp .neq c5 (I 1) λc6=>Vif c6 (KS [c,e,f]<|J34 (.bool true) k) (Fo 2 c λc7=>Ld c7 k λc8=>Ixs c8 (I 0) λc9=>Bp .eql c9 (.int .u8 0) λd0=>KS [c,e,f]<|J34 d0 k))) (VJoin 1 (λ_ d1 t=>Vif d1 (Bd P 70 #[] t λd2=>StA 5 e d2 t λG=>LdA 5 e G λd3=>R d3 G) (Fo 2 c λd4=>Ld d4 t λd5=>Fo 2 f λd6=>St d6 d5 t λv=>LdA 4 f v λd7=>Bd P 70 #[(0,d7),(1,(.bool true))] v λd8=>StA 5 e d8 v λJ=>LdA 5 e J λd9=>R d9 J)) (λJ52=>Fo 0 c λe0=>Ld e0 k λe1=>Bp .neq e1 (I 66) λe2=>Vif e2 (Fo 1 c λe3=>Ld e3 k λe4=>Bp .neq e4 (I 0) λe5=>KS [c,e,f]<|J52 e5 k) (KS [c,e,f]<|J52 (.bool false) k)))) (λJ59=>Fo 0 c λe6=>Ld e6 g λe7=>Bp .eql e7 (I 68) λe8=>Vif e8 (KS [c,e,f]<|J59 (.bool true) g) (Fo 0 c λe9=>Ld e9 g λf0=>Bp .eql f0 (I 69) λf1=>KS [c,e,f]<|J59 f1 g))))) (λJ66=>LdA 3 c y λf2=>Cl P 35 #[f2] y λf3 m=>Up .not f3 λf4=>Vif f4 (KS [c,e,f]<|J66 (.bool true) m) (Fo 0 c λf5=>Ld f5 m λf6=>Bv .lss f6 (I 65) (KS [c,e,f]<|J66 (.bool true) m) (Fo 0 c λf7=>Ld f7 m λf8=>Bp .gtr f8 (I 70) λf9=>KS [c,e,f]<|J66 f9 m)))
theorem Tz18 (h:Vz18 prog a0 w R):Cl prog 18 #[a0] w R:=
 tz 72 [(.cell 2 70)] (s z (s z (s (j [21] [1,2,3] z (i (s z z) z)) (s (s z (i (s z z) z)) (s (j [39] [1,2,3] z (i (s (j [49] [1,2,3] z (i (s z z) z)) (s z (s z z))) z)) (s (j [65] [1,2,3] z (i (s z z) z)) (s z (s z z)))))))) [a0] func18 h
def Vz19:VT2:=λP g p w R=>
 New (zeroP P 73) 73 w λc v=>Lnl g λq=>VLoop 1 [(I 0)] v λ_ y k e=>Bv .lss k q (Ias 4 g k λC=>LdA 4 C e λD=>New (zeroP P 73) 73 e λm E=>StA 4 m D E λf=>Fo 0 m λF=>Ld F f λG=>Bv .eql G p (LdA 4 m f λJ=>StA 4 c J f λt=>LdA 4 c t λL=>R L t) (Bp .add k (I 1) λM=>KS [p,c,g,q]<|y M f)) (Bd P 73 #[(0,(I (-1)))] e λN=>StA 4 c N e λu=>LdA 4 c u λO=>R O u)
theorem Tz19 (h:Vz19 prog a0 a1 w R):Cl prog 19 #[a0,a1] w R:=
 tz 20 [(.cell 4 73)] (s z (s (s z (b (l [9] [1,4,7,8] (s z (s (i z z) (s (b (s z (s z (i (s z z) z)))) z)))))) (s z z))) [a0,a1] func19 h
def Vz20:VT2:=λP e y w R=>
 New y 73 w λc C=>Lnl e λk=>VLoop 3 [(.slice none 0 0),(.bool false),(I 0)] C λ_ D m p f q=>Bv .lss f k (Ias 4 e f λE=>LdA 4 E q λF=>New (zeroP P 73) 73 q λg G=>StA 4 g F G λt=>VJoin 2 (λ_ J L v=>LdA 4 g v λM=>Bs P 35 1 #[(0,M)] v λN O=>Ap P #[35,35] 35 #[J,N] O λQ S=>Bp .add f (I 1) λU=>KS [c,e,k]<|D Q L U S) (λJ17=>VJoin 1 (λ_ W u=>Vif W (LdA 4 c u λY=>Bs P 35 1 #[(0,Y)] u λZ a0=>Ap P #[35,35] 35 #[m,Z] a0 λa1 a2=>KS [c,g,e,k,f]<|J17 a1 (.bool true) a2) (KS [c,g,e,k,f]<|J17 m p u)) (λJ22=>Up .not p λa3=>Vif a3 (Fo 0 g λa4=>Ld a4 t λa5=>Fo 0 c λa6=>Ld a6 t λa7=>Bp .gtr a5 a7 λa8=>KS [c,m,p,g,e,k,f]<|J22 a8 t) (KS [c,m,p,g,e,k,f]<|J22 (.bool false) t)))) (Up .not p λa9=>Vif a9 (LdA 4 c q λb0=>Bs P 35 1 #[(0,b0)] q λb1 b2=>Ap P #[35,35] 35 #[m,b1] b2 λb3 b4=>R b3 b4) (R m q))
theorem Tz20 (h:Vz20 prog a0 a1 w R):Cl prog 20 #[a0,a1] w R:=
 tz 40 [(.tmp 4)] (s z (s z (s z (s (s z (b (l [5,6,11] [3,9,10] (s z (s (i z z) (s (b (s z (j [5,6] [3,8,9,10,11] (j [23] [3,5,6,8,9,10,11] z (i (s z z) z)) z))) z)))))) (s (s z (i z z)) (s z z)))))) [a0,a1] func20 h
def Vz25:VT1:=λP c w R=>
 Be P .eql 44 (.tmp 3) (.const (.slice none 0 0)) c (.slice none 0 0) w λe=>Vif e (R (.slice none 0 0) w) (Bs P 44 0 #[] w λf g=>Ap P #[44,44] 44 #[f,c] g λk m=>R k m)
theorem Tz25 (h:Vz25 prog a0 w R):Cl prog 25 #[a0] w R:=
 tz 8 [(.tmp 2)] (s z (s (s z (i (s z z) z)) (s z z))) [a0] func25 h
def Vz29:VT1:=λP e w R=>
 VLoop 2 [(.slice none 0 0),(I 0)] w λ_ t f c m=>Lns e λu=>Bv .lss c u (Sst e (some c) none λv=>Cl P 50 #[v] m λg y=>Ex g 0 λC=>Ex g 1 λD=>Ex g 2 λp=>New (zeroP P 66) 66 y λq E=>StA 3 q C E λk=>Bv .neq p (I 0) (R (.tuple #[f,c,p]) k) (LdA 3 q k λF=>Bs P 61 1 #[(0,F)] k λG J=>Ap P #[61,61] 61 #[f,G] J λL M=>Bp .add c D λN=>KS [e]<|t L N M)) (R (.tuple #[f,c,(I 0)]) m)
theorem Tz29 (h:Vz29 prog a0 w R):Cl prog 29 #[a0] w R:=
 tz 36 [(.tmp 2),(.tmp 3),(.tmp 4)] (s z (s z (s z (s (b (l [5,6] [0] (s (s z (i z z)) (b (s z (s (s z (i (s z z) z)) (s z z))))))) (s z z))))) [a0] func29 h
def Vz30:VT1:=λP L w R=>
 New L 66 w λf M=>New (zeroP P 74) 74 M λe q=>Fo 0 f λN=>Ld N q λO=>Fo 1 f λQ=>Ld Q q λS=>Bd P 74 #[(0,O),(1,S)] q λU=>New (zeroP P 74) 74 q λc W=>StA 4 c U W λD=>LdA 3 f D λY=>Cl P 51 #[Y] D λk u=>VJoin 1 (λ_ Z t=>Up .not Z λa0=>Vif a0 (Bd P 74 #[] t λa1=>StA 4 e a1 t λE=>LdA 4 e E λa2=>R (.tuple #[a2,(I 35)]) E) (LdA 4 c t λa3=>StA 4 e a3 t λF=>LdA 4 e F λa4=>R (.tuple #[a4,(I 0)]) F)) (λJ17=>Fo 0 f λa5=>Ld a5 u λm=>VJoin 1 (λ_ a6 g=>Vif a6 (Fo 2 f λa7=>Ld a7 g λa8=>Fo 2 c λa9=>St a9 a8 g λv=>Vif k (Fo 1 f λb0=>Ld b0 v λb1=>Bp .eql b1 (I 0) λb2=>KS [e,c]<|J17 b2 v) (KS [e,c]<|J17 (.bool false) v)) (Bp .eql m (I 66) λb3=>Vif b3 (Fo 2 f λb4=>Ld b4 g λb5=>Fo 2 c λb6=>St b6 b5 g λb7=>KS [e,c]<|J17 k b7) (Bv .eql m (I 67) (Vif k (Fo 2 f λb8=>Ld b8 g λb9=>Bp .eql b9 (.string ⟨#[]⟩) λc0=>KS [e,c]<|J17 c0 g) (KS [e,c]<|J17 (.bool false) g)) (VJoin 1 (λ_ c1 p=>Vif c1 (VJoin 1 (λ_ y C=>Vif y (Fo 2 f λc2=>Ld c2 C λc3=>Ixs c3 (I 0) λc4=>Ci .i64 c4 λc5=>Fo 3 c λc6=>St c6 c5 C λc7=>KS [e,c]<|J17 y c7) (KS [e,c]<|J17 y C)) (λJ42=>Vif k (Fo 2 f λc8=>Ld c8 p λc9=>Lns c9 λd0=>Bp .eql d0 (I 1) λd1=>Vif d1 (Fo 2 f λd2=>Ld d2 p λd3=>Ixs d3 (I 0) λd4=>Bp .gtr d4 (.int .u8 0) λd5=>KS [f,e,c]<|J42 d5 p) (KS [f,e,c]<|J42 (.bool false) p)) (KS [f,e,c]<|J42 (.bool false) p))) (KS [e,c]<|J17 (.bool false) p)) (λJ51=>Bp .eql m (I 68) λG=>Vif G (KS [f,e,c,k]<|J51 G g) (Bp .eql m (I 69) λd6=>KS [f,e,c,k]<|J51 d6 g)))))) (λJ54=>Bp .eql m (I 65) λJ=>Vif J (KS [f,e,c,k,m]<|J54 J u) (Bp .eql m (I 70) λd7=>KS [f,e,c,k,m]<|J54 d7 u)))
theorem Tz30 (h:Vz30 prog a0 w R):Cl prog 30 #[a0] w R:=
 tz 66 [(.cell 2 74),(.tmp 3)] (s z (s z (s z (j [5] [2,4] (s z (b (j [15] [1,2,4,5,14] (s z (i z z)) (i (s z z) (s z (i z (s z (i z (j [40] [1,2,4,5] (s z (i z z)) (i (j [5] [1,2,4] z (s z (i z z))) z)))))))))) (s (s z (i (s z z) z)) (s z z)))))) [a0] func30 h
def Vz31:VT2:=λP c e w R=>
 Lnl c λf=>Cl P 52 #[c,f,e] w λk g=>R (.tuple #[]) g
theorem Tz31 (h:Vz31 prog a0 a1 w R):Cl prog 31 #[a0,a1] w R:=
 tz 9 [] z [a0,a1] func31 h
def Vz32:VT2:=λP e f w R=>
 New e 57 w λg k=>New f 57 k λm c=>Fo 0 g λp=>Ld p c λq=>Fo 0 m λt=>Ld t c λu=>Cl P 33 #[q,u] c λv y=>R v y
theorem Tz32 (h:Vz32 prog a0 a1 w R):Cl prog 32 #[a0,a1] w R:=
 tz 10 [(.tmp 4)] (s z (s z z)) [a0,a1] func32 h
def Vz33:VT2:=λP e f w R=>
 Cl P 53 #[e] w λk m=>Cl P 53 #[f] m λg c=>Vif k (Vif g (R (I 0) c) (R (I (-1)) c)) (Vif g (R (I 1) c) (Bv .lss e f (R (I (-1)) c) (Bv .gtr e f (R (I 1) c) (R (I 0) c))))
theorem Tz33 (h:Vz33 prog a0 a1 w R):Cl prog 33 #[a0,a1] w R:=
 tz 20 [(.tmp 4)] (s z (s z (s z (s (s z (i (s (s z (i (s z z) z)) (s z z)) z)) (s (s z (i (s z z) z)) (s (s z (i (s z z) z)) (s (s z (i (s z z) z)) (s z z)))))))) [a0,a1] func33 h
def Vz34:VT1:=λP e w R=>
 New (zeroP P 103) 103 w λc m=>Lns e λG=>Bv .eql G (I 0) (Bd P 103 #[(2,(I 3))] m λJ=>StA 5 c J m λq=>LdA 5 c q λL=>R L q) (Ixs e (I 0) λM=>Ci .i64 M λN=>Cl P 54 #[N] m λO f=>Up .not O λQ=>Vif Q (Bd P 103 #[(2,(I 35))] f λS=>StA 5 c S f λt=>LdA 5 c t λU=>R U t) (Lns e λW=>Bv .lss W (I 9) (Bd P 103 #[(2,(I 3))] f λY=>StA 5 c Y f λu=>LdA 5 c u λZ=>R Z u) (Sst e (some (I 5)) (some (I 9)) λa0=>Cl P 55 #[a0] f λk g=>Bv .gtr k (I 65536) (Bd P 103 #[(2,(I 2))] g λa1=>StA 5 c a1 g λv=>LdA 5 c v λa2=>R a2 v) (Lns e λa3=>Bp .add (I 9) k λa4=>Bp .lss a3 a4 λa5=>Vif a5 (Bd P 103 #[(2,(I 3))] g λa6=>StA 5 c a6 g λy=>LdA 5 c y λa7=>R a7 y) (Dr g λC=>Ixs e (I 0) λa8=>Ci .i64 a8 λa9=>Sst e (some (I 1)) (some (I 5)) λb0=>Cl P 55 #[b0] C λb1 p=>Bp .add (I 9) k λD=>Sst e (some (I 9)) (some D) λE=>Rk (λw K=>Sst e (some (I 9)) (some D) λb2=>K b2) E C<|Bd P 66 #[(0,a9),(1,b1),(2,E)] p λb3=>Bp .add (I 9) k λb4=>Bd P 103 #[(0,b3),(1,b4)] p λb5=>StA 5 c b5 p λF=>LdA 5 c F λb6=>R b6 F)))))
theorem Tz34 (h:Vz34 prog a0 w R):Cl prog 34 #[a0] w R:=
 tz 44 [(.cell 2 103)] (s z (s (s z (i (s z z) z)) (s (s z (i (s z z) z)) (s (s z (i (s z z) z)) (s z (s (s z (i (s z z) z)) (s (s z (i (s z z) z)) (s (r (.staged [0,1,3,0,8,24,0,0,128,448,1023,0,2048,8191,16383])) z)))))))) [a0] func34 h
def Vz35:VT1:=λP f w R=>
 New f 66 w λe c=>Fo 1 e λg=>Ld g c λk=>Bv .geq k (I 0) (Fo 1 e λm=>Ld m c λp=>Bv .leq p (I 4294967295) (Fo 2 e λq=>Ld q c λt=>Lns t λu=>Bp .leq u (I 65536) λv=>R v c) (R (.bool false) c)) (R (.bool false) c)
theorem Tz35 (h:Vz35 prog a0 w R):Cl prog 35 #[a0] w R:=
 tz 17 [(.tmp 2)] (s z (s z z)) [a0] func35 h
def Vz36:VT1:=λP m w R=>
 New m 70 w λf p=>New (zeroP P 70) 70 p λe c=>Fo 4 f λq=>Ld q c λt=>Up .not t λu=>Vif u (Bd P 70 #[] c λv=>StA 5 e v c λg=>LdA 5 e g λy=>R y g) (LdA 5 f c λC=>StA 5 e C c λk=>LdA 5 e k λD=>R D k)
theorem Tz36 (h:Vz36 prog a0 w R):Cl prog 36 #[a0] w R:=
 tz 8 [(.cell 2 70)] (s z (s (s z (i (s z z) z)) (s z z))) [a0] func36 h
def Vz37:VT1:=λP y w R=>
 New y 46 w λc q=>Fo 0 c λC=>Ld C q λD=>Cl P 56 #[D] q λt e=>Ex t 0 λa4=>Ex t 1 λu=>Bv .neq u (I 0) (R u e) (Fo 1 c λE=>Ld E e λF=>Cl P 57 #[F,(I 24),(I 100000)] e λG f=>Vif G (Fo 2 c λJ=>Ld J f λL=>Cl P 57 #[L,(I 64),(I 1048576)] f λM g=>Vif M (Fo 3 c λN=>Ld N g λO=>Cl P 57 #[O,(I 1),(I 1099511627776)] g λQ k=>Vif Q (Fo 4 c λS=>Ld S k λU=>Cl P 57 #[U,(I 1),(I 1048576)] k λW m=>Vif W (Fo 5 c λY=>Ld Y m λZ=>Cl P 57 #[Z,(I 1),(I 64)] m λa0 p=>Vif a0 (Fo 6 c λa1=>Ld a1 p λa2=>Cl P 57 #[a2,(I 1),(I 4096)] p λa3 v=>Vif a3 (R (I 0) v) (R (I 1) v)) (R (I 1) p)) (R (I 1) m)) (R (I 1) k)) (R (I 1) g)) (R (I 1) f))
theorem Tz37 (h:Vz37 prog a0 w R):Cl prog 37 #[a0] w R:=
 tz 42 [(.tmp 2)] (s z (s (s z (s z (i (s z z) z))) (s (s z (i (s z z) z)) (s z z)))) [a0] func37 h
def Vz41:VT2:=λP C D w R=>
 New C 46 w λu E=>New (zeroP P 3) 3 E λc F=>New (zeroP P 27) 27 F λe v=>LdA 7 u v λG=>Cl P 37 #[G] v λy g=>Bv .neq y (I 0) (St c (I 0) g λJ=>St e y J λk=>Ld c k λL=>Ld e k λM=>R (.tuple #[L,M]) k) (LdA 7 u g λN=>Cl P 59 #[N,D] g λO Q=>RgF P O Q (λl11 S W11 bg11 ed11=>New (zeroP P 139) 139 W11 λm U=>StA 8 m S U λW=>bg11 W λf=>Fo 0 m λY=>Ld Y f λZ=>Bv .eql Z (I 2) (Fo 2 m λa0=>Ld a0 f λa1=>St c a1 f λa2=>St e (I 0) a2 λa3=>ed11 .ret a3) (ed11 .normal f)) (λD11 a4=>St c (I (-1)) a4 λa5=>St e (I 0) a5 λa6=>TkM a6 (λp=>Ld c p λa7=>Ld e p λa8=>R (.tuple #[a7,a8]) p) [D11]) (λD11 a9=>TkM a9 (λq=>Ld c q λb0=>Ld e q λb1=>R (.tuple #[b0,b1]) q) [D11]) λid11 D11 b2=>match Nat.beq id11 0 with|true=>(St c (I (-1)) b2 λb3=>St e (I 0) b3 λb4=>TkM b4 (λt=>Ld c t λb5=>Ld e t λb6=>R (.tuple #[b5,b6]) t) [D11])|false=>(False))
theorem Tz41 (h:Vz41 prog a0 a1 w R):Cl prog 41 #[a0,a1] w R:=
  Zgz (n:=22) (rs:=[(.cell 4 3),(.cell 5 27)]) (h:=(.s .z (.s (.s .z (.s .z (.i (.s .z .z) .z))) (.s (.s .z (.b (.s .z (.b (.s .z (.i (.s .z .z) .z)))))) (.s .z .z))))) (args:=[a0,a1]) (by kernel_rfl) func41 rfl (by kernel_rfl) rfl rfl rfl (Eq.mp (by kernel_rfl) h)
def Vz48:VT2:=λP q t w R=>
 New q 26 w λg u=>New t 3 u λv y=>New (zeroP P 57) 57 y λe f=>Fo 0 g λC=>Ld C f λD=>Mf P (.func 75) #[] #[v] f λE=>Cl P 74 #[D,E] f λk c=>Bv .lss k (I 0) (Bd P 57 #[] c λF=>StA 4 e F c λm=>LdA 4 e m λG=>R (.tuple #[G,(.bool false)]) m) (Fo 0 g λJ=>Ld J c λL=>Ias 4 L k λM=>LdA 4 M c λN=>StA 4 e N c λp=>LdA 4 e p λO=>R (.tuple #[O,(.bool true)]) p)
theorem Tz48 (h:Vz48 prog a0 a1 w R):Cl prog 48 #[a0,a1] w R:=
 tz 19 [(.cell 4 57),(.tmp 5)] (s z (s z (s (s z (i (s z z) z)) (s z z)))) [a0,a1] func48 h
def Vz50:VT1:=λP e w R=>
 New (zeroP P 66) 66 w λc m=>Bv .eql e (.string ⟨#[]⟩) (Bd P 66 #[] m λF=>StA 3 c F m λq=>LdA 3 c q λG=>R (.tuple #[G,(I 0),(I 3)]) q) (Ixs e (I 0) λJ=>Ci .i64 J λL=>Bd P 66 #[(0,L)] m λM=>New (zeroP P 66) 66 m λf N=>StA 3 f M N λt=>LdA 3 f t λO=>Cl P 76 #[O] t λQ g=>Up .not Q λS=>Vif S (Bd P 66 #[] g λU=>StA 3 c U g λu=>LdA 3 c u λW=>R (.tuple #[W,(I 0),(I 35)]) u) (Lns e λY=>Bv .lss Y (I 9) (Bd P 66 #[] g λZ=>StA 3 c Z g λv=>LdA 3 c v λa0=>R (.tuple #[a0,(I 0),(I 3)]) v) (Sst e (some (I 1)) none λa1=>Cl P 77 #[a1] g λa2 a3=>Fo 1 f λa4=>St a4 a2 a3 λa5=>Sst e (some (I 5)) none λa6=>Cl P 77 #[a6] a5 λp k=>Bv .gtr p (I 65536) (Bd P 66 #[] k λa7=>StA 3 c a7 k λy=>LdA 3 c y λa8=>R (.tuple #[a8,(I 0),(I 2)]) y) (Lns e λa9=>Bp .sub a9 (I 9) λb0=>Bp .lss b0 p λb1=>Vif b1 (Bd P 66 #[] k λb2=>StA 3 c b2 k λC=>LdA 3 c C λb3=>R (.tuple #[b3,(I 0),(I 3)]) C) (Bp .add (I 9) p λb4=>Sst e (some (I 9)) (some b4) λb5=>Fo 2 f λb6=>St b6 b5 k λD=>LdA 3 f D λb7=>Bp .add (I 9) p λb8=>StA 3 c b7 D λE=>LdA 3 c E λb9=>R (.tuple #[b9,b8,(I 0)]) E)))))
theorem Tz50 (h:Vz50 prog a0 w R):Cl prog 50 #[a0] w R:=
 tz 48 [(.cell 2 66),(.tmp 3),(.tmp 4)] (s z (s (s z (i (s z z) z)) (s z (s (s z (i (s z z) z)) (s (s z (i (s z z) z)) (s z (s z (s (b (s z (i (s z z) (s z (i (s z z) z))))) (s z (s z z)))))))))) [a0] func50 h
def Vz51:VT1:=λP f w R=>
 New f 66 w λe c=>Fo 1 e λg=>Ld g c λk=>Bv .geq k (I 0) (Fo 1 e λm=>Ld m c λp=>Bv .leq p (I 4294967295) (Fo 2 e λq=>Ld q c λt=>Lns t λu=>Bp .leq u (I 65536) λv=>R v c) (R (.bool false) c)) (R (.bool false) c)
theorem Tz51 (h:Vz51 prog a0 w R):Cl prog 51 #[a0] w R:=
 tz 17 [(.tmp 2)] (s z (s z z)) [a0] func51 h
def Vz52:VT3:=λP e c f w R=>
 VLoop 2 [(I 0),(I 20)] w λ_ D t k u=>Bv .leq k c (Cl P 78 #[e,t,k,f] u λa1 E=>Bp .add k (I 20) λF=>KS [e,c,f,(I 20)]<|D k F E) (Cl P 78 #[e,t,c,f] u λa2 G=>VLoop 1 [(I 20)] G λ_ v g y=>Bp .lss g c λJ=>Vif J (Bp .mul (I 2) g λL=>VLoop 2 [(I 0),L] y λ_ M m p q=>Bp .leq p c λN=>Vif N (Bp .add m g λO=>Cl P 79 #[e,m,O,p,f] q λa3 Q=>Bp .mul (I 2) g λS=>Bp .add p S λU=>KS [e,c,f,g]<|M p U Q) (Bp .add m g λC=>Bp .lss C c λW=>Vif W (Cl P 79 #[e,m,C,c,f] q λa4 Y=>Bp .mul g (I 2) λZ=>KS [e,c,f]<|v Z Y) (Bp .mul g (I 2) λa0=>KS [e,c,f]<|v a0 q))) (R (.tuple #[]) y))
theorem Tz52 (h:Vz52 prog a0 a1 a2 w R):Cl prog 52 #[a0,a1,a2] w R:=
 tz 63 [] (s z (s z (s (b (l [7,8] [0,1,2,6] (s (s z (i z z)) (b (s z (s z z)))))) (s z (b (l [6] [0,1,2] (s (s z (i z z)) (b (s z (s (b (l [7,8] [0,1,2,6] (s (s z (i z z)) (b (s z (s z z)))))) (s (s z (s z (i z z))) z))))))))))) [a0,a1,a2] func52 h
def Vz53:VT1:=λP c w R=>
 Bp .neq c c λe=>R e w
theorem Tz53 (h:Vz53 prog a0 w R):Cl prog 53 #[a0] w R:=
 tz 6 [(.tmp 2)] (s z (s z z)) [a0] func53 h
def Vz54:VT1:=λP c w R=>
 Bv .geq c (I 1) (Bv .leq c (I 7) (R (.bool true) w) (Bv .geq c (I 65) (Bp .leq c (I 70) λe=>R e w) (R (.bool false) w))) (Bp .geq c (I 65) λf=>Vif f (Bp .leq c (I 70) λg=>R g w) (R (.bool false) w))
theorem Tz54 (h:Vz54 prog a0 w R):Cl prog 54 #[a0] w R:=
 tz 17 [(.tmp 2)] (s z (s z z)) [a0] func54 h
def Vz55:VT1:=λP c w R=>
 Dr w λe=>Ixs c (I 0) λf=>Ci .i64 f λg=>Bp .mul g (I 16777216) λk=>Ixs c (I 1) λm=>Ci .i64 m λp=>Bp .mul p (I 65536) λq=>Bp .add k q λt=>Ixs c (I 2) λu=>Ci .i64 u λv=>Bp .mul v (I 256) λy=>Bp .add t y λC=>Ixs c (I 3) λD=>Ci .i64 D λE=>Bp .add C E λF=>R F e
theorem Tz55 (h:Vz55 prog a0 w R):Cl prog 55 #[a0] w R:=
 tz 21 [(.tmp 2)] (s z (s (r (.staged [0,1,3,7,0,16,48,112,255,0,512,1536,3584,8191,0,16384,49152,131071,262143])) z)) [a0] func55 h
def Vz56:VT1:=λP c w R=>
 Lnl c λu=>Bv .eql u (I 0) (R (.tuple #[(I (-1)),(I 6)]) w) (Lnl c λv=>Bv .gtr v (I 16) (R (.tuple #[(I 16),(I 2)]) w) (Lnl c λk=>VLoop 1 [(I 0)] w λ_ y e f=>Bv .lss e k (Ias 5 c e λC=>LdA 5 C f λD=>New (zeroP P 80) 80 f λg E=>StA 5 g D E λm=>LdA 5 g m λF=>Cl P 80 #[F] m λG p=>Up .not G λJ=>Vif J (R (.tuple #[e,(I 1)]) p) (Dr p λq=>Ssl 5 c none (some e) λL=>LdA 5 g q λM=>Cl P 81 #[L,M] q λN t=>Vif N (R (.tuple #[e,(I 8)]) t) (Bp .add e (I 1) λO=>KS [c,c,k]<|y O t))) (R (.tuple #[(I (-1)),(I 0)]) f)))
theorem Tz56 (h:Vz56 prog a0 w R):Cl prog 56 #[a0] w R:=
 tz 34 [(.tmp 2),(.tmp 3)] (s z (s (b (s z (i (s z z) (s z (i (s z z) z))))) (s (s z (b (l [16] [0,14,15] (s z (s (i z z) (s (b (s z (b (s z (i (s z z) (s (r (.staged [0,0,3,0,15,31])) (i (s z z) z))))))) z)))))) (s z z)))) [a0] func56 h
def Vz57:VT3:=λP c e f w R=>
 Bv .geq c e (Bp .leq c f λg=>R g w) (R (.bool false) w)
theorem Tz57 (h:Vz57 prog a0 a1 a2 w R):Cl prog 57 #[a0,a1,a2] w R:=
 tz 15 [(.tmp 6)] (s z (s z z)) [a0,a1,a2] func57 h
def Vz59:VT2:=λP e f w R=>
 New e 46 w λg k=>New f 9 k λm c=>Mf P (.func 82) #[] #[g,m] c λp=>R p c
theorem Tz59 (h:Vz59 prog a0 a1 w R):Cl prog 59 #[a0,a1] w R:=
 tz 6 [(.tmp 4)] (s z (s z z)) [a0,a1] func59 h
def Vz74:VT2:=λP e g w R=>
 Lnl e λk=>VLoop 1 [(I 0)] w λ_ p c f=>Bv .lss c k (Ias 4 e c λq=>LdA 4 q f λt=>Inv P (do let d <-Deferred.ofValue g #[t];invoke d.target d.args) f λu m=>Vif u (R c m) (Bp .add c (I 1) λv=>KS [e,g,k]<|p v m)) (R (I (-1)) f)
theorem Tz74 (h:Vz74 prog a0 a1 w R):Cl prog 74 #[a0,a1] w R:=
 tz 19 [(.tmp 4)] (s z (s (s z (b (l [8] [0,1,7] (s z (s (i z z) (s (b (s z (s z (i (s z z) z)))) z)))))) (s z z))) [a0,a1] func74 h
def Vz75:VT2:=λP e f w R=>
 New e 57 w λg c=>Fo 0 g λk=>Ld k c λm=>Ld f c λp=>Bp .eql m p λq=>R q c
theorem Tz75 (h:Vz75 prog a0 a1 w R):Cl prog 75 #[a0,a1] w R:=
 tz 8 [(.tmp 3)] (s z (s z z)) [a0,a1] func75 h
def Vz76:VT1:=λP g w R=>
 New g 66 w λe f=>LdA 3 e f λk=>Cl P 109 #[k] f λm c=>Vif m (R (.bool true) c) (LdA 3 e c λp=>Cl P 110 #[p] c λq t=>R q t)
theorem Tz76 (h:Vz76 prog a0 w R):Cl prog 76 #[a0] w R:=
 tz 9 [(.tmp 2)] (s z (s z z)) [a0] func76 h
def Vz77:VT1:=λP e w R=>
 VLoop 2 [(I 0),(I 0)] w λ_ k f c g=>Bv .lss c (I 4) (Bp .shl f (.int .u64 8) λm=>Ixs e c λp=>Ci .i64 p λq=>Bp .or m q λt=>Bp .add c (I 1) λu=>KS [e]<|k t u g) (R f g)
theorem Tz77 (h:Vz77 prog a0 w R):Cl prog 77 #[a0] w R:=
 tz 17 [(.tmp 2)] (s z (s z (s (s z (b (l [3,5] [0] (s z (s (i z z) (s (b (s z z)) z)))))) (s z z)))) [a0] func77 h
def Vz78:VT4:=λP c f k m w R=>
 Bp .add f (I 1) λv=>VLoop 1 [v] w λ_ y g t=>Bp .lss g k λC=>Vif C (VLoop 1 [g] t λ_ D e E=>VJoin 1 (λ_ F u=>Vif F (Dr u λq=>Bp .sub e (I 1) λG=>Bp .sub e (I 1) λJ=>Ias 4 c J λL=>LdA 4 L q λM=>Ias 4 c e λN=>LdA 4 N q λO=>Ias 4 c e λQ=>StA 4 Q M q λS=>Ias 4 c G λU=>StA 4 U O S λW=>Bp .sub e (I 1) λY=>KS [c,f,k,m,g]<|D Y W) (Bp .add g (I 1) λZ=>KS [c,f,k,m]<|y Z u)) (λJ20=>Dr E λp=>Bp .gtr e f λa0=>Vif a0 (Ias 4 c e λa1=>LdA 4 a1 p λa2=>Bp .sub e (I 1) λa3=>Ias 4 c a3 λa4=>LdA 4 a4 p λa5=>Inv P (do let d <-Deferred.ofValue m #[a2,a5];invoke d.target d.args) p λa6 a7=>Bp .lss a6 (I 0) λa8=>KS [c,f,k,m,g,e]<|J20 a8 a7) (KS [c,f,k,m,g,e]<|J20 (.bool false) p))) (R (.tuple #[]) t)
theorem Tz78 (h:Vz78 prog a0 a1 a2 a3 w R):Cl prog 78 #[a0,a1,a2,a3] w R:=
 tz 53 [] (s z (b (l [8] [0,1,2,3] (s (s z (i z z)) (s (b (s z (b (l [9] [0,1,2,3,8] (s (j [34] [0,1,2,3,8,9] (r (.staged [0,0,3,7,15,15,15,111,239,15,15,1039,3599,7695,16383,32767,65535])) (i z z)) (s (b (r (.staged [0,0,0,0,8,0,0,64,224,480,0,0,3072,7168,16355,32739,65535,131071]))) z)))))) z))))) [a0,a1,a2,a3] func78 h
def Vz79:VT5:=λP c g k m e w R=>
 Bp .sub k g λb3=>Bp .eql b3 (I 1) λb4=>Vif b4 (VLoop 2 [k,m] w λ_ Y y E Z=>Bv .lss y E (Bp .add y E λb5=>Ci .u64 b5 λb6=>Bp .shr b6 (.int .u64 1) λb7=>Ci .i64 b7 λF=>Dr Z λG=>Ias 4 c F λb8=>LdA 4 b8 G λb9=>Ias 4 c g λc0=>LdA 4 c0 G λc1=>Inv P (do let d <-Deferred.ofValue e #[b9,c1];invoke d.target d.args) G λc2 a0=>Bp .lss c2 (I 0) λc3=>Vif c3 (Bp .add F (I 1) λc4=>KS [c,g,e]<|Y c4 E a0) (KS [c,g,e]<|Y y F a0)) (VLoop 1 [g] Z λ_ c5 u a1=>Bp .sub y (I 1) λc6=>Bp .lss u c6 λc7=>Vif c7 (Dr a1 λJ=>Bp .add u (I 1) λc8=>Bp .add u (I 1) λc9=>Ias 4 c c9 λd0=>LdA 4 d0 J λd1=>Ias 4 c u λd2=>LdA 4 d2 J λd3=>Ias 4 c u λd4=>StA 4 d4 d1 J λd5=>Ias 4 c c8 λd6=>StA 4 d6 d3 d5 λd7=>Bp .add u (I 1) λd8=>KS [c,y]<|c5 d8 d7) (R (.tuple #[]) a1))) (Bp .sub m k λd9=>Bp .eql d9 (I 1) λe0=>Vif e0 (VLoop 2 [g,k] w λ_ a2 C L a3=>Bv .lss C L (Bp .add C L λe1=>Ci .u64 e1 λe2=>Bp .shr e2 (.int .u64 1) λe3=>Ci .i64 e3 λM=>Dr a3 λN=>Ias 4 c k λe4=>LdA 4 e4 N λe5=>Ias 4 c M λe6=>LdA 4 e6 N λe7=>Inv P (do let d <-Deferred.ofValue e #[e5,e7];invoke d.target d.args) N λe8 a4=>Bp .lss e8 (I 0) λe9=>Up .not e9 λf0=>Vif f0 (Bp .add M (I 1) λf1=>KS [c,k,e]<|a2 f1 L a4) (KS [c,k,e]<|a2 C M a4)) (VLoop 1 [k] a3 λ_ f2 v a5=>Bp .gtr v C λf3=>Vif f3 (Dr a5 λO=>Bp .sub v (I 1) λf4=>Bp .sub v (I 1) λf5=>Ias 4 c f5 λf6=>LdA 4 f6 O λf7=>Ias 4 c v λf8=>LdA 4 f8 O λf9=>Ias 4 c v λg0=>StA 4 g0 f7 O λg1=>Ias 4 c f4 λg2=>StA 4 g2 f9 g1 λg3=>Bp .sub v (I 1) λg4=>KS [c,C]<|f2 g4 g3) (R (.tuple #[]) a5))) (Bp .add g m λg5=>Ci .u64 g5 λg6=>Bp .shr g6 (.int .u64 1) λg7=>Ci .i64 g7 λf=>Bp .add f k λt=>VJoin 2 (λ_ g8 g9 h0=>Bp .sub t (I 1) λQ=>VLoop 2 [g8,g9] h0 λ_ a6 p S U=>Bp .lss p S λh1=>Vif h1 (Bp .add p S λh2=>Ci .u64 h2 λh3=>Bp .shr h3 (.int .u64 1) λh4=>Ci .i64 h4 λD=>Dr U λW=>Bp .sub Q D λh5=>Ias 4 c h5 λh6=>LdA 4 h6 W λh7=>Ias 4 c D λh8=>LdA 4 h8 W λh9=>Inv P (do let d <-Deferred.ofValue e #[h7,h9];invoke d.target d.args) W λi0 a7=>Bp .lss i0 (I 0) λi1=>Up .not i1 λi2=>Vif i2 (Bp .add D (I 1) λi3=>KS [c,g,k,m,e,f,t,Q]<|a6 i3 S a7) (KS [c,g,k,m,e,f,t,Q]<|a6 p D a7)) (Bp .sub t p λq=>VJoin 0 (λ_ a8=>VJoin 0 (λ_ a9=>VJoin 1 (λ_ i4 b0=>Vif i4 (Cl P 79 #[c,f,q,m,e] b0 λj8 i5=>R (.tuple #[]) i5) (R (.tuple #[]) b0)) (λJ99=>Bp .lss f q λi6=>Vif i6 (Bp .lss q m λi7=>KS [c,m,e,f,q]<|J99 i7 a9) (KS [c,m,e,f,q]<|J99 (.bool false) a9))) (λJ102=>VJoin 1 (λ_ i8 b1=>Vif i8 (Cl P 79 #[c,g,p,f,e] b1 λj9 i9=>KS [c,m,e,f,q]<|J102 i9) (KS [c,m,e,f,q]<|J102 b1)) (λJ105=>Bp .lss g p λj0=>Vif j0 (Bp .lss p f λj1=>KS [c,g,m,e,f,p,q]<|J105 j1 a8) (KS [c,g,m,e,f,p,q]<|J105 (.bool false) a8)))) (λJ108=>VJoin 1 (λ_ j2 b2=>Vif j2 (Cl P 111 #[c,p,k,q,e] b2 λk0 j3=>KS [c,g,m,e,f,p,q]<|J108 j3) (KS [c,g,m,e,f,p,q]<|J108 b2)) (λJ111=>Bp .lss p k λj4=>Vif j4 (Bp .lss k q λj5=>KS [c,g,k,m,e,f,p,q]<|J111 j5 U) (KS [c,g,k,m,e,f,p,q]<|J111 (.bool false) U))))) (λJ114=>Bp .gtr k f λj6=>Vif j6 (Bp .sub t m λj7=>KS [c,g,k,m,e,f,t]<|J114 j7 f w) (KS [c,g,k,m,e,f,t]<|J114 g k w))))
theorem Tz79 (h:Vz79 prog a0 a1 a2 a3 a4 w R):Cl prog 79 #[a0,a1,a2,a3,a4] w R:=
 tz 220 [] (s (s z (i (s z (s z (s (b (l [10,11] [0,1,4] (s (s z (i z z)) (b (s z (s (r (.staged [0,0,0,6,14,0,0,96,224,511,1023])) (i z z))))))) (s (s z (b (l [13] [0,10] (s (s z (i z z)) (s (b (r (.staged [0,0,0,0,8,0,0,64,224,480,0,0,3072,7168,16355,32739,65535,131071]))) z))))) z)))) z)) (s (s z (i (s z (s z (s (b (l [14,15] [0,2,4] (s (s z (i z z)) (b (s z (s (r (.staged [0,0,0,6,14,0,0,96,224,511,1023,2047])) (i z z))))))) (s (s z (b (l [17] [0,14] (s (s z (i z z)) (s (b (r (.staged [0,0,0,0,8,0,0,64,224,480,0,0,3072,7168,16355,32739,65535,131071]))) z))))) z)))) z)) (s z (s z (s z (j [20,21] [0,1,2,3,4,18,19] (s z (i (s z z) (s z z))) (s z (s (b (l [20,21] [0,1,2,3,4,18,19,22] (s (s z (i z z)) (b (s z (s (r (.staged [0,0,0,0,12,30,62,0,0,384,896,2047,4095,8191])) (i z z))))))) (s z (j [] [0,1,3,4,18,20,24] (j [185] [0,1,2,3,4,18,20,24] z (i z z)) (j [] [0,3,4,18,24] (j [199] [0,1,3,4,18,20,24] z (i z z)) (j [213] [0,3,4,18,24] z (i z z))))))))))))) [a0,a1,a2,a3,a4] func79 h
def Vz80:VT1:=λP p w R=>
 New p 80 w λc m=>Fo 0 c λq=>Ld q m λt=>Cl P 112 #[t] m λu e=>Vif u (Fo 1 c λv=>Ld v e λy=>Cl P 112 #[y] e λC f=>Vif C (Fo 2 c λD=>Ld D f λE=>Cl P 57 #[E,(I 0),(I 1099511627776)] f λF g=>Vif F (Fo 3 c λG=>Ld G g λJ=>Cl P 57 #[J,(I 1),(I 1099511627776)] g λL k=>Vif L (Fo 4 c λM=>Ld M k λN=>Cl P 57 #[N,(I 1),(I 1099511627776)] k λO Q=>R O Q) (R (.bool false) k)) (R (.bool false) g)) (R (.bool false) f)) (R (.bool false) e)
theorem Tz80 (h:Vz80 prog a0 w R):Cl prog 80 #[a0] w R:=
 tz 26 [(.tmp 2)] (s z (s z z)) [a0] func80 h
def Vz81:VT2:=λP e t w R=>
 New t 80 w λf u=>Lnl e λk=>VLoop 1 [(I 0)] u λ_ v g m=>Bv .lss g k (Ias 5 e g λy=>LdA 5 y m λC=>New (zeroP P 80) 80 m λp D=>StA 5 p C D λc=>VJoin 1 (λ_ E q=>Vif E (R (.bool true) q) (Bp .add g (I 1) λF=>KS [f,e,k]<|v F q)) (λJ11=>Fo 0 p λG=>Ld G c λJ=>Fo 0 f λL=>Ld L c λM=>Bp .eql J M λN=>Vif N (KS [f,e,k,g]<|J11 (.bool true) c) (Fo 1 p λO=>Ld O c λQ=>Fo 1 f λS=>Ld S c λU=>Bp .eql Q U λW=>KS [f,e,k,g]<|J11 W c))) (R (.bool false) m)
theorem Tz81 (h:Vz81 prog a0 a1 w R):Cl prog 81 #[a0,a1] w R:=
 tz 26 [(.tmp 4)] (s z (s (s z (b (l [9] [3,7,8] (s z (s (i z z) (s (b (s z (j [24] [3,7,8,9] z (i (s z z) z)))) z)))))) (s z z))) [a0,a1] func81 h
def Vz82:VT3:=λP e G g w R=>
 Fo 0 G λJ=>Ld J w λL=>Cl P 83 #[L] w λp M=>Ex p 0 λk=>Ex p 1 λb4=>Cl P 84 #[(I 65545)] M λq N=>Ex q 0 λf=>Ex q 1 λb5=>VLoop 1 [(I 0)] N λ_ O t u=>Ld g u λQ=>Sst Q (some t) none λS=>Cl P 85 #[f,S] u λU W=>Bp .add t U λY=>Cl P 86 #[f] W λm Z=>Ex m 0 λa0=>Ex m 1 λa1=>Ex m 2 λv=>New (zeroP P 66) 66 Z λy a2=>StA 3 y a0 a2 λc=>Bp .neq v (I 0) λa3=>Vif a3 (Bd P 139 #[(0,(I 1)),(7,v)] c λa4=>InvR P (do let d <-Deferred.ofValue e #[a4];invoke d.target d.args) c λb6 a5=>R (.tuple #[]) a5) (Up .not a1 λa6=>Vif a6 (R (.tuple #[]) c) (LdA 3 y c λa7=>Cl P 87 #[k,a7] c λC a8=>Ex C 0 λa9=>Ex C 1 λb7=>New (zeroP P 139) 139 a8 λD b0=>StA 8 D a9 b0 λE=>LdA 8 D E λb1=>InvR P (do let d <-Deferred.ofValue e #[b1];invoke d.target d.args) E λb2 F=>Up .not b2 λb3=>Vif b3 (R (.tuple #[]) F) (([]:List Nat)=[]/\KE [e,g,k,f] [e,g,k,f] (O Y F))))
theorem Tz82 (h:Vz82 prog a0 a1 a2 w R):Cl prog 82 #[a0,a1,a2] w R:=
  Zgz (n:=55) (rs:=[]) (h:=(.s .z (.s .z (.s .z (.b (.l [8] [0,2,4,6] (.b (.s .z (.s .z (.s (.s .z (.i (.s .z .z) .z)) (.s (.s .z (.i .z .z)) (.s .z (.s .z (.i .z .z)))))))))))))) (args:=[a0,a1,a2]) (by kernel_rfl) func82 rfl (by kernel_rfl) rfl rfl rfl (Eq.mp (by kernel_rfl) h)
def Vz83:VT1:=λP c w R=>
 Cl P 56 #[c] w λe f=>Ex e 0 λy=>Ex e 1 λg=>Bv .neq g (I 0) (R (.tuple #[(.pointer none),g]) f) (Cl P 25 #[c] f λm p=>Mm P 228 none p λq k=>Bd P 230 #[(0,m),(1,(I (-1))),(2,q)] k λt=>New t 230 k λu v=>R (.tuple #[u,(I 0)]) v)
theorem Tz83 (h:Vz83 prog a0 w R):Cl prog 83 #[a0] w R:=
 tz 19 [(.tmp 2),(.tmp 3)] (s z (s (s z (s z (i (s z z) z))) (s z z))) [a0] func83 h
def Vz84:VT1:=λP c w R=>
 VJoin 1 (λ_ f e=>Vif f (R (.tuple #[(.pointer none),(I 1)]) e) (Bd P 232 #[(0,c)] e λg=>New g 232 e λk m=>R (.tuple #[k,(I 0)]) m)) (λJ4=>Bv .lss c (I 9) (KS [c]<|J4 (.bool true) w) (Bp .gtr c (I 65545) λp=>KS [c]<|J4 p w))
theorem Tz84 (h:Vz84 prog a0 w R):Cl prog 84 #[a0] w R:=
 tz 13 [(.tmp 2),(.tmp 3)] (s z (s (j [9] [0] z (i (s z z) z)) (s z z))) [a0] func84 h
def Vz85:VT2:=λP c e w R=>
 VJoin 1 (λ_ p g=>Vif p (R (I 0) g) (Dr g λf=>Lns e λq=>Nc c<|Fo 0 c λt=>Ld t f λu=>Nc c<|Fo 1 c λv=>Ld v f λy=>Lns y λC=>Bp .sub u C λD=>Bmin P #[3,3] 3 #[q,D] f λk=>Dr f λm=>Nc c<|Fo 1 c λE=>Ld E m λF=>Sst e none (some k) λG=>Bp .add F G λJ=>Nc c<|Fo 1 c λL=>St L J m λM=>R k M)) (λJ22=>Bn P 232 false c (.pointer none) λN=>Vif N (KS [c,e]<|J22 (.bool true) w) (Nc c<|Fo 2 c λO=>Ld O w λQ=>Bp .neq Q (I 0) λS=>KS [c,e]<|J22 S w))
theorem Tz85 (h:Vz85 prog a0 a1 w R):Cl prog 85 #[a0,a1] w R:=
 tz 39 [(.tmp 4)] (s z (s (j [14] [0,1] z (i (s z z) z)) (s (r (.staged [0,1,0,4,12,28,0,64,192,448,960,2044,4095,8191])) (s (r (.staged [0,1,3,7,0,0,48,127,255,511,1023])) (s z z))))) [a0,a1] func85 h
def Vz86:VT1:=λP c w R=>
 New (zeroP P 66) 66 w λe f=>Bn P 232 false c (.pointer none) λQ=>Vif Q (Bd P 66 #[] f λS=>StA 3 e S f λC=>LdA 3 e C λU=>R (.tuple #[U,(.bool false),(I 7)]) C) (Nc c<|Fo 2 c λW=>Ld W f λY=>Bv .neq Y (I 0) (Dr f λp=>Bd P 66 #[] p λZ=>Nc c<|Fo 2 c λD=>Ld D p λE=>StA 3 e Z p λq=>Rk (λw K=>Ld D w λa0=>K a0) E q<|LdA 3 e q λa1=>R (.tuple #[a1,(.bool false),E]) q) (Nc c<|Fo 1 c λa2=>Ld a2 f λa3=>Cl P 50 #[a3] f λt a4=>Ex t 0 λa5=>Ex t 1 λu=>Ex t 2 λg=>New (zeroP P 66) 66 a4 λm a6=>StA 3 m a5 a6 λF=>VJoin 1 (λ_ a7 G=>Vif a7 (Cl P 113 #[c,g] G λv a8=>Ex v 0 λa9=>Ex v 1 λb0=>Ex v 2 λb1=>StA 3 e a9 a8 λJ=>LdA 3 e J λb2=>R (.tuple #[b2,b0,b1]) J) (Cl P 114 #[c] G λb3 k=>Vif b3 (Cl P 113 #[c,(I 2)] k λy b4=>Ex y 0 λb5=>Ex y 1 λb6=>Ex y 2 λb7=>StA 3 e b5 b4 λL=>LdA 3 e L λb8=>R (.tuple #[b8,b6,b7]) L) (Bv .eql g (I 3) (Bd P 66 #[] k λb9=>StA 3 e b9 k λM=>LdA 3 e M λc0=>R (.tuple #[c0,(.bool false),(I 0)]) M) (Nc c<|Fo 1 c λc1=>Ld c1 k λc2=>Sst c2 (some u) none λc3=>Nc c<|Fo 1 c λc4=>St c4 c3 k λN=>LdA 3 m N λc5=>StA 3 e c5 N λO=>LdA 3 e O λc6=>R (.tuple #[c6,(.bool true),(I 0)]) O)))) (λJ42=>Bv .eql g (I 35) (KS [c,e,m,u,g]<|J42 (.bool true) F) (Bp .eql g (I 2) λc7=>KS [c,e,m,u,g]<|J42 c7 F))))
theorem Tz86 (h:Vz86 prog a0 w R):Cl prog 86 #[a0] w R:=
 tz 67 [(.cell 2 66),(.tmp 3),(.tmp 4)] (s z (s (b (s z (i (s z z) (s z (i (s (r (.staged [0,0,2,6,14,1,33,127])) z) z))))) (s z (s (b (j [32] [0,2,5,6,7] z (i (s z z) (s z (i (s z z) (s z (i (s z z) z))))))) (s z (s z z)))))) [a0] func86 h
def Vz87:VT2:=λP f C w R=>
 New C 66 w λk D=>New (zeroP P 139) 139 D λc e=>Bn P 230 false f (.pointer none) λE=>Vif E (Bd P 139 #[] e λF=>StA 8 c F e λm=>LdA 8 c m λG=>R (.tuple #[G,(I 7)]) m) (Nc f<|Fo 1 f λJ=>Ld J e λL=>Bv .eql L (I (-1)) (LdA 3 k e λM=>Cl P 115 #[f,M] e λN O=>StA 8 c N O λp=>LdA 8 c p λQ=>R (.tuple #[Q,(I 0)]) p) (LdA 3 k e λS=>Cl P 116 #[S] e λq U=>Ex q 0 λW=>Ex q 1 λt=>New (zeroP P 236) 236 U λu Y=>StA 7 u W Y λg=>Bv .neq t (I 0) (Fo 1 k λZ=>Ld Z g λa0=>Cl P 117 #[a0,t] g λa1 a2=>StA 8 c a1 a2 λv=>LdA 8 c v λa3=>R (.tuple #[a3,(I 0)]) v) (LdA 7 u g λa4=>Cl P 118 #[f,a4] g λa5 a6=>StA 8 c a5 a6 λy=>LdA 8 c y λa7=>R (.tuple #[a7,(I 0)]) y)))
theorem Tz87 (h:Vz87 prog a0 a1 w R):Cl prog 87 #[a0,a1] w R:=
 tz 35 [(.cell 4 139),(.tmp 5)] (s z (s (b (s z (i (s z z) (s z (i (s z z) z))))) (s z (s (s z (i (s z z) z)) (s z z))))) [a0,a1] func87 h
def Vz109:VT1:=λP f w R=>
 New f 66 w λe c=>Fo 0 e λg=>Ld g c λk=>Bv .geq k (I 1) (Fo 0 e λm=>Ld m c λp=>Bp .leq p (I 7) λq=>R q c) (R (.bool false) c)
theorem Tz109 (h:Vz109 prog a0 w R):Cl prog 109 #[a0] w R:=
 tz 11 [(.tmp 2)] (s z (s z z)) [a0] func109 h
def Vz110:VT1:=λP f w R=>
 New f 66 w λe c=>Fo 0 e λg=>Ld g c λk=>Bv .geq k (I 65) (Fo 0 e λm=>Ld m c λp=>Bp .leq p (I 70) λq=>R q c) (R (.bool false) c)
theorem Tz110 (h:Vz110 prog a0 w R):Cl prog 110 #[a0] w R:=
 tz 11 [(.tmp 2)] (s z (s z z)) [a0] func110 h
def Vz111:VT5:=λP g q e t k w R=>
 Bp .sub e q λu=>Bp .sub t e λv=>VLoop 2 [u,v] w λ_ p c f m=>Bp .neq c f λy=>Vif y (Bv .gtr c f (Bp .sub e c λC=>Cl P 143 #[g,C,e,f,k] m λQ D=>Bp .sub c f λE=>KS [g,e,k]<|p E f D) (Bp .sub e c λF=>Bp .add e f λG=>Bp .sub G c λJ=>Cl P 143 #[g,F,J,c,k] m λS L=>Bp .sub f c λM=>KS [g,e,k]<|p c M L)) (Bp .sub e c λN=>Cl P 143 #[g,N,e,c,k] m λU O=>R (.tuple #[]) O)
theorem Tz111 (h:Vz111 prog a0 a1 a2 a3 a4 w R):Cl prog 111 #[a0,a1,a2,a3,a4] w R:=
 tz 58 [] (s z (s z (s (b (l [10,11] [0,2,4] (s (s z (i z z)) (b (s z (i (s z z) (s z z))))))) z))) [a0,a1,a2,a3,a4] func111 h
def Vz112:VT1:=λP c w R=>
 Cl P 144 #[c] w λf e=>Ex f 0 λq=>Ex f 1 λg=>Bv .lss g (I 0) (Bv .neq c (.string ⟨#[]⟩) (Cl P 145 #[c] e λk m=>Bp .leq k (I 32) λp=>R p m) (R (.bool false) e)) (R (.bool false) e)
theorem Tz112 (h:Vz112 prog a0 w R):Cl prog 112 #[a0] w R:=
 tz 21 [(.tmp 2)] (s z (s z (s z z))) [a0] func112 h
def Vz113:VT2:=λP c e w R=>
 New (zeroP P 66) 66 w λf m=>Nc c<|Fo 2 c λp=>St p e m λq=>Nc c<|Fo 1 c λt=>St t (.string ⟨#[]⟩) q λg=>Bd P 66 #[] g λu=>StA 3 f u g λk=>LdA 3 f k λv=>R (.tuple #[v,(.bool false),e]) k
theorem Tz113 (h:Vz113 prog a0 a1 w R):Cl prog 113 #[a0,a1] w R:=
 tz 16 [(.cell 4 66),(.tmp 5),(.tmp 6)] (s z (s z (s z (s z z)))) [a0,a1] func113 h
def Vz114:VT1:=λP c w R=>
 Nc c<|Fo 1 c λg=>Ld g w λk=>Lns k λm=>Bv .lss m (I 9) (R (.bool false) w) (Nc c<|Fo 1 c λp=>Ld p w λq=>Sst q (some (I 5)) (some (I 9)) λt=>Cl P 146 #[t] w λe f=>Ex e 0 λu=>Ex e 1 λE=>Bp .add (I 9) u λv=>Nc c<|Fo 0 c λy=>Ld y f λC=>Bp .gtr v C λD=>R D f)
theorem Tz114 (h:Vz114 prog a0 w R):Cl prog 114 #[a0] w R:=
 tz 27 [(.tmp 2)] (s z (s (s z (i (s z z) z)) (s z (s z z)))) [a0] func114 h
def Vz115:VT2:=λP e J w R=>
 New J 66 w λf L=>New (zeroP P 139) 139 L λc t=>LdA 3 f t λM=>Cl P 116 #[M] t λu N=>Ex u 0 λO=>Ex u 1 λQ=>New (zeroP P 236) 236 N λg S=>StA 7 g O S λk=>VJoin 1 (λ_ U m=>Vif U (Fo 1 f λW=>Ld W m λY=>Cl P 117 #[Y,(I 30)] m λZ a0=>StA 8 c Z a0 λv=>LdA 8 c v λa1=>R a1 v) (Dr m λp=>Nc e<|Fo 0 e λa2=>Ld a2 p λa3=>Fo 2 g λa4=>Ld a4 p λa5=>Cl P 147 #[a3,a5] p λy q=>Ex y 0 λC=>Ex y 1 λD=>Bv .neq D (I 0) (Fo 1 f λa6=>Ld a6 q λa7=>Cl P 117 #[a7,D] q λa8 a9=>StA 8 c a8 a9 λE=>LdA 8 c E λb0=>R b0 E) (Nc e<|Fo 1 e λb1=>St b1 C q λF=>Bd P 139 #[(0,(I 2)),(2,C)] F λb2=>StA 8 c b2 F λG=>LdA 8 c G λb3=>R b3 G))) (λJ30=>Bv .neq Q (I 0) (KS [e,f,c,g]<|J30 (.bool true) k) (Fo 0 g λb4=>Ld b4 k λb5=>Bp .neq b5 (I 1) λb6=>KS [e,f,c,g]<|J30 b6 k))
theorem Tz115 (h:Vz115 prog a0 a1 w R):Cl prog 115 #[a0,a1] w R:=
 tz 45 [(.cell 4 139)] (s z (s z (s (j [19] [0,3,4,5] z (i (s z z) z)) (s (r (.staged [0,1,3,7,0,16,63,127,255,255,511,2047])) (s (s z (i (s z z) z)) (s z (s z z))))))) [a0,a1] func115 h
def Vz116:VT1:=λP M w R=>
 New M 66 w λf N=>New (zeroP P 236) 236 N λe t=>Fo 0 f λO=>Ld O t λQ=>Fo 1 f λS=>Ld S t λU=>Bd P 236 #[(0,Q),(1,U)] t λW=>New (zeroP P 236) 236 t λc Y=>StA 7 c W Y λv=>LdA 3 f v λZ=>Cl P 51 #[Z] v λp k=>VJoin 1 (λ_ a0 u=>Up .not a0 λa1=>Vif a1 (Bd P 236 #[] u λa2=>StA 7 e a2 u λy=>LdA 7 e y λa3=>R (.tuple #[a3,(I 35)]) y) (LdA 7 c u λa4=>StA 7 e a4 u λC=>LdA 7 e C λa5=>R (.tuple #[a5,(I 0)]) C)) (λJ17=>Fo 0 f λa6=>Ld a6 k λm=>Bv .eql m (I 1) (Fo 2 f λa7=>Ld a7 k λa8=>Fo 2 c λa9=>St a9 a8 k λq=>Vif p (Fo 1 f λb0=>Ld b0 q λb1=>Bv .eql b1 (I 0) (Fo 2 f λb2=>Ld b2 q λb3=>Cl P 112 #[b3] q λb4 b5=>KS [e,c]<|J17 b4 b5) (KS [e,c]<|J17 (.bool false) q)) (KS [e,c]<|J17 (.bool false) q)) (Bv .eql m (I 2) (Fo 2 f λb6=>Ld b6 k λb7=>Cl P 148 #[b7] k λD b8=>Ex D 0 λE=>Ex D 1 λb9=>Fo 4 c λc0=>St c0 E b8 λc1=>Fo 5 c λc2=>St c2 b9 c1 λF=>Vif p (Bp .neq E (I 0) λc3=>KS [e,c]<|J17 c3 F) (KS [e,c]<|J17 (.bool false) F)) (Bp .eql m (I 3) λc4=>Vif c4 (Fo 2 f λc5=>Ld c5 k λc6=>Fo 3 c λc7=>St c7 c6 k λc8=>KS [e,c]<|J17 p c8) (VJoin 1 (λ_ c9 g=>Vif c9 (Vif p (Fo 2 f λd0=>Ld d0 g λd1=>Bp .eql d1 (.string ⟨#[]⟩) λd2=>KS [e,c]<|J17 d2 g) (KS [e,c]<|J17 (.bool false) g)) (Bp .eql m (I 6) λd3=>Vif d3 (Fo 2 f λd4=>Ld d4 g λd5=>Cl P 146 #[d5] g λG d6=>Ex G 0 λd7=>Ex G 1 λd8=>Fo 6 c λd9=>St d9 d7 d6 λJ=>Vif p (Bp .eql d8 (I 0) λe0=>KS [e,c]<|J17 e0 J) (KS [e,c]<|J17 (.bool false) J)) (Bp .eql m (I 7) λe1=>Vif e1 (Vif p (Fo 1 f λe2=>Ld e2 g λe3=>Bv .eql e3 (I 0) (Fo 2 f λe4=>Ld e4 g λe5=>Bp .eql e5 (.string ⟨#[]⟩) λe6=>KS [e,c]<|J17 e6 g) (KS [e,c]<|J17 (.bool false) g)) (KS [e,c]<|J17 (.bool false) g)) (KS [e,c]<|J17 (.bool false) g)))) (λJ62=>Bp .eql m (I 4) λL=>Vif L (KS [f,e,c,p,m]<|J62 L k) (Bp .eql m (I 5) λe7=>KS [f,e,c,p,m]<|J62 e7 k))))))
theorem Tz116 (h:Vz116 prog a0 w R):Cl prog 116 #[a0] w R:=
 tz 98 [(.cell 2 236),(.tmp 3)] (s z (s z (s z (j [5] [2,4] (s z (b (s z (i (s z z) (s z (i (s z (s z (s z z))) (s z (i z (j [57] [1,2,4,5,18] (s z (i z z)) (i z (s z (i (s z (s z z)) (s z (i z z)))))))))))))) (s (s z (i (s z z) z)) (s z z)))))) [a0] func116 h
def Vz117:VT2:=λP g k w R=>
 New (zeroP P 139) 139 w λc e=>Bd P 139 #[(0,(I 1)),(1,g),(7,k)] e λm=>StA 8 c m e λf=>LdA 8 c f λp=>R p f
theorem Tz117 (h:Vz117 prog a0 a1 w R):Cl prog 117 #[a0,a1] w R:=
 tz 8 [(.cell 4 139)] (s z (s z z)) [a0,a1] func117 h
def Vz143:VT5:=λP e f g m O w R=>
 VLoop 1 [(I 0)] w λ_ q c p=>Bv .lss c m (Dr p λk=>Bp .add f c λt=>Bp .add g c λu=>Bp .add g c λv=>Ias 4 e v λy=>LdA 4 y k λC=>Bp .add f c λD=>Ias 4 e D λE=>LdA 4 E k λF=>Ias 4 e t λG=>StA 4 G C k λJ=>Ias 4 e u λL=>StA 4 L F J λM=>Bp .add c (I 1) λN=>KS [e,f,g,m]<|q N M) (R (.tuple #[]) p)
theorem Tz143 (h:Vz143 prog a0 a1 a2 a3 a4 w R):Cl prog 143 #[a0,a1,a2,a3,a4] w R:=
 tz 38 [] (s z (b (l [10] [0,1,2,3] (s (s z (i z z)) (s (b (r (.staged [0,0,0,6,0,0,0,96,0,0,0,1536,3840,7936,0,0,0,98304,245760,507904,1048335,2096911,4194303,8388607]))) z))))) [a0,a1,a2,a3,a4] func143 h
def Vz144:VT1:=λP c w R=>
 Rg P 9 c w λf q=>VLoop 0 [] q λ_ t u=>Nx P f true 0 u λe g=>Ex e 0 λv=>Vif v (Ex e 1 λk=>Ex e 2 λy=>Cl P 176 #[c,k,y] g λm C=>Cl P 177 #[m] C λD p=>Up .not D λE=>Vif E (R (.tuple #[m,k]) p) (KS [c,f]<|t p)) (R (.tuple #[(I 0),(I (-1))]) g)
theorem Tz144 (h:Vz144 prog a0 w R):Cl prog 144 #[a0] w R:=
 tz 22 [(.tmp 2),(.tmp 3)] (s z (s (s z (b (l [] [0,8] (s z (s (i z z) (b (s z (s z (s z (i (s z z) z)))))))))) (s z z))) [a0] func144 h
def Vz145:VT1:=λP g w R=>
 Rg P 9 g w λc k=>VLoop 1 [(I 0)] k λ_ m e p=>Nx P c true 0 p λq f=>Ex q 0 λt=>Vif t (Bp .add e (I 1) λu=>KS [c]<|m u f) (R e f)
theorem Tz145 (h:Vz145 prog a0 w R):Cl prog 145 #[a0] w R:=
 tz 11 [(.tmp 2)] (s z (s z (s (s z (b (l [3] [5] (s z (s (i z z) (b z)))))) (s z z)))) [a0] func145 h
def Vz146:VT1:=λP c w R=>
 Lns c λe=>Bv .neq e (I 4) (R (.tuple #[(I 0),(I 1)]) w) (Cl P 77 #[c] w λf g=>R (.tuple #[f,(I 0)]) g)
theorem Tz146 (h:Vz146 prog a0 w R):Cl prog 146 #[a0] w R:=
 tz 9 [(.tmp 2),(.tmp 3)] (s z (s (s z (i (s z z) z)) (s z z))) [a0] func146 h
def Vz147:VT2:=λP e g w R=>
 Lnl e λk=>VLoop 2 [(I (-1)),(I 0)] w λ_ p f c m=>Bv .lss c k (Ias 5 e c λy=>LdA 5 y m λC=>New (zeroP P 80) 80 m λq D=>StA 5 q C D λt=>VJoin 1 (λ_ E u=>Vif E (Bp .add c (I 1) λF=>KS [g,e,k]<|p c F u) (Bp .add c (I 1) λG=>KS [g,e,k]<|p f G u)) (λJ12=>Fo 1 q λJ=>Ld J t λL=>Cl P 178 #[L,g] t λM v=>Vif M (Bp .eql f (I (-1)) λN=>KS [g,f,c,e,k,c]<|J12 N v) (KS [g,f,c,e,k,c]<|J12 (.bool false) v))) (Bp .eql f (I (-1)) λO=>Vif O (R (.tuple #[(I 0),(I 30)]) m) (R (.tuple #[f,(I 0)]) m))
theorem Tz147 (h:Vz147 prog a0 a1 w R):Cl prog 147 #[a0,a1] w R:=
 tz 29 [(.tmp 4),(.tmp 5)] (s z (s z (s (s z (b (l [6,11] [1,9,10] (s z (s (i z z) (s (b (s z (j [23] [1,6,7,9,10,11] z (i z z)))) z)))))) (s (s z (i (s z z) z)) (s z z))))) [a0,a1] func147 h
def Vz148:VT1:=λP c w R=>
 Bv .eql c (.string ⟨#[120]⟩) (R (.tuple #[(I 2),(I 0)]) w) (Bv .eql c (.string ⟨#[116]⟩) (R (.tuple #[(I 3),(I 0)]) w) (VJoin 1 (λ_ f e=>Vif f (Dr e λg=>Ixs c (I 1) λk=>Bp .sub k (.int .u8 48) λm=>Ci .i64 m λp=>R (.tuple #[(I 1),p]) g) (R (.tuple #[(I 0),(I 0)]) e)) (λJ7=>Lns c λq=>Bp .eql q (I 2) λt=>Vif t (Ixs c (I 0) λu=>Bv .eql u (.int .u8 99) (Ixs c (I 1) λv=>Bv .geq v (.int .u8 49) (Ixs c (I 1) λy=>Bp .leq y (.int .u8 57) λC=>KS [c]<|J7 C w) (KS [c]<|J7 (.bool false) w)) (KS [c]<|J7 (.bool false) w)) (KS [c]<|J7 (.bool false) w))))
theorem Tz148 (h:Vz148 prog a0 w R):Cl prog 148 #[a0] w R:=
 tz 33 [(.tmp 2),(.tmp 3)] (s z (s (b (s z (i (s z z) (s z (i (s z z) (j [10] [0] z (i (s (r (.staged [0,1,3,7,0,31])) z) z))))))) (s z z))) [a0] func148 h
def Vz176:VT3:=λP g k c w R=>
 Bv .eql c (.int .i32 65533) (Sst g (some k) none λm=>Cl P 205 #[m] w λe f=>Ex e 0 λu=>Ex e 1 λp=>Bv .eql p (I 1) (R (I (-1)) f) (Ci .i64 c λq=>R q f)) (Ci .i64 c λt=>R t w)
theorem Tz176 (h:Vz176 prog a0 a1 a2 w R):Cl prog 176 #[a0,a1,a2] w R:=
 tz 22 [(.tmp 6)] (s z (s (s z (i (s z (s z (i (s z z) z))) z)) (s z z))) [a0,a1,a2] func176 h
def Vz177:VT1:=λP c w R=>
 Bv .gtr c (I 32) (Bv .lss c (I 127) (Bv .neq c (I 58) (Bp .neq c (I 35) λe=>R e w) (R (.bool false) w)) (Bp .gtr c (I 160) λf=>Vif f (Bv .neq c (I 58) (Bp .neq c (I 35) λg=>R g w) (R (.bool false) w)) (R (.bool false) w))) (R (.bool false) w)
theorem Tz177 (h:Vz177 prog a0 w R):Cl prog 177 #[a0] w R:=
 tz 21 [(.tmp 2)] (s z (s z z)) [a0] func177 h
def Vz178:VT2:=λP c e w R=>
 Lns c λp=>Lns e λq=>Bmin P #[3,3] 3 #[p,q] w λk=>VLoop 2 [(.int .u8 0),(I 0)] w λ_ t m f g=>Bv .lss f k (Dr g λu=>Ixs c f λv=>Ixs e f λy=>Bp .xor v y λC=>Bp .or m C λD=>Bp .add f (I 1) λE=>KS [c,e,k]<|t D E u) (Bp .eql m (.int .u8 0) λF=>Vif F (Lns c λG=>Lns e λJ=>Bp .eql G J λL=>R L g) (R (.bool false) g))
theorem Tz178 (h:Vz178 prog a0 a1 w R):Cl prog 178 #[a0,a1] w R:=
 tz 34 [(.tmp 4)] (s z (s z (s (s z (b (l [5,12] [0,1,11] (s z (s (i z z) (s (b (s z (r (.staged [0,0,0,6,0,0,48,126,255,511])))) z)))))) (s z z)))) [a0,a1] func178 h
end Go.Proofs.YthhkodlnfogkgaaGreatDoor
