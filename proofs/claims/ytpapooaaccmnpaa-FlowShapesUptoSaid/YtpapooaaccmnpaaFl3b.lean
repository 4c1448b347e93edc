/- Layer 17: what the functions compute. -/
import Derived.Test.YtpapooaaccmnpaaFl3a
namespace Go.Proofs.Ytpapooaaccmnpaa.Ab
open Go
set_option linter.all false
abbrev nlFl3_3 : List (List Nat) := [[],[],[0],[0,2],[0,2,3],[],[],[5],[5,7],[5,7,8],[0,2,3,5,7,8],[0,2,3,5,7,8],[0,2,3,5,7,8],[0,2,3,5,7,8],[0,2,3,5,7,8],[0,2,3,5,7,8],[0,2,3,5,7,8],[0,2,3,5,7,8],[0,2,3,5,7,8],[0,2,3,5,7,8],[0,2,3,5,7,8],[0,2,3,5,7,8],[0,2,3,5,7,8],[0,2,3,5,7,8],[0,2,3,5,7,8],[0,2,3,5,7,8],[0,2,3,5,7,8],[0,2,3,5,7,8],[0,2,3,5,7,8],[0,2,3,5,7,8],[0,2,3,5,7,8],[0,2,3,5,7,8],[0,2,3,5,7,8],[0,2,3,5,7,8],[0,2,3,5,7,8],[0,2,3,5,7,8],[0,2,3,5,7,8],[0,2,3,5,7,8],[0,2,3,5,7,8],[0,2,3,5,7,8],[0,2,3,5,7,8],[0,2,3,5,7,8],[0,2,3,5,7,8],[0,2,3,5,7,8],[0,2,3,5,7,8],[0,2,3,5,7,8],[0,2,3,5,7,8],[0,2,3,5,7,8],[0,2,3,5,7,8],[0,2,3,5,7,8],[0,2,3,5,7,8],[0,2,3,5,7,8],[0,2,3,5,7,8],[0,2,3,5,7,8],[0,2,3,5,7,8],[0,2,3,5,7,8],[0,2,3,5,7,8],[0,2,3,5,7,8],[0,2,3,5,7,8],[0,2,3,5,7,8],[0,2,3,5,7,8],[0,2,3,5,7,8],[0,2,3,5,7,8],[0,2,3,5,7,8],[0,2,3,5,7,8]]
abbrev nlFl3_4 : List (List Nat) := [[],[],[0,1],[0,1,2],[0,1,2,3],[],[],[5,6],[5,6,7],[5,6,7,8],[0,1,2,3,4,5,6,7,8,9],[0,1,2,3,4,5,6,7,8,9,10],[0,1,2,3,4,5,6,7,8,9,10,11],[0,1,2,3,4,5,6,7,8,9,10,11],[0,1,2,3,4,5,6,7,8,9,10,11,12,13],[0,1,2,3,4,5,6,7,8,9,10,11,12,13,14],[0,1,2,3,4,5,6,7,8,9,10,11,12,13,14,15],[0,1,2,3,4,5,6,7,8,9,10,11],[0,1,2,3,4,5,6,7,8,9,10,11],[0,1,2,3,4,5,6,7,8,9,10,11,17,18],[0,1,2,3,4,5,6,7,8,9,10,11,17,18,19],[0,1,2,3,4,5,6,7,8,9,10,11,17,18,19,20],[0,1,2,3,4,5,6,7,8,9,10,11,12,13,14,15,16,17,18,19,20,21],[0,1,2,3,4,5,6,7,8,9,10,11,12,13,14,15,16,17,18,19,20,21,22],[0,1,2,3,4,5,6,7,8,9,10,11,12,13,14,15,16,17,18,19,20,21,22,23],[0,1,2,3,4,5,6,7,8,9,10,11,12,13,14,15,16,17,18,19,20,21,22,23,24],[0,1,2,3,4,5,6,7,8,9,10,11,12,13,14,15,16,17,18,19,20,21,22,23,24],[0,1,2,3,4,5,6,7,8,9,10,11,12,13,14,15,16,17,18,19,20,21,22,23,24,25,26],[0,1,2,3,4,5,6,7,8,9,10,11,12,13,14,15,16,17,18,19,20,21,22,23,24,25,26,27],[0,1,2,3,4,5,6,7,8,9,10,11,12,13,14,15,16,17,18,19,20,21,22,23,24,25,26,27,28],[0,1,2,3,4,5,6,7,8,9,10,11,12,13,14,15,16,17,18,19,20,21,22,23,24],[0,1,2,3,4,5,6,7,8,9,10,11,12,13,14,15,16,17,18,19,20,21,22,23,24],[0,1,2,3,4,5,6,7,8,9,10,11,12,13,14,15,16,17,18,19,20,21,22,23,24,30,31],[0,1,2,3,4,5,6,7,8,9,10,11,12,13,14,15,16,17,18,19,20,21,22,23,24,30,31,32],[0,1,2,3,4,5,6,7,8,9,10,11,12,13,14,15,16,17,18,19,20,21,22,23,24,30,31,32,33],[0,1,2,3,4,5,6,7,8,9,10,11,12,13,14,15,16,17,18,19,20,21,22,23,24,25,26,27,28,29,30,31,32,33,34],[0,1,2,3,4,5,6,7,8,9,10,11,12,13,14,15,16,17,18,19,20,21,22,23,24,25,26,27,28,29,30,31,32,33,34,35],[0,1,2,3,4,5,6,7,8,9,10,11,12,13,14,15,16,17,18,19,20,21,22,23,24,25,26,27,28,29,30,31,32,33,34,35,36],[0,1,2,3,4,5,6,7,8,9,10,11,12,13,14,15,16,17,18,19,20,21,22,23,24,25,26,27,28,29,30,31,32,33,34,35,36,37],[0,1,2,3,4,5,6,7,8,9,10,11,12,13,14,15,16,17,18,19,20,21,22,23,24,25,26,27,28,29,30,31,32,33,34,35,36,37,38],[0,1,2,3,4,5,6,7,8,9,10,11,12,13,14,15,16,17,18,19,20,21,22,23,24,25,26,27,28,29,30,31,32,33,34,35,36,37,38,39],[0,1,2,3,4,5,6,7,8,9,10,11,12,13,14,15,16,17,18,19,20,21,22,23,24,25,26,27,28,29,30,31,32,33,34,35,36,37,38,39],[0,1,2,3,4,5,6,7,8,9,10,11,12,13,14,15,16,17,18,19,20,21,22,23,24,25,26,27,28,29,30,31,32,33,34,35,36,37,38,39,40,41],[0,1,2,3,4,5,6,7,8,9,10,11,12,13,14,15,16,17,18,19,20,21,22,23,24,25,26,27,28,29,30,31,32,33,34,35,36,37,38,39,40,41,42],[0,1,2,3,4,5,6,7,8,9,10,11,12,13,14,15,16,17,18,19,20,21,22,23,24,25,26,27,28,29,30,31,32,33,34,35,36,37,38,39,40,41,42,43],[0,1,2,3,4,5,6,7,8,9,10,11,12,13,14,15,16,17,18,19,20,21,22,23,24,25,26,27,28,29,30,31,32,33,34,35,36,37,38,39],[0,1,2,3,4,5,6,7,8,9,10,11,12,13,14,15,16,17,18,19,20,21,22,23,24,25,26,27,28,29,30,31,32,33,34,35,36,37,38,39],[0,1,2,3,4,5,6,7,8,9,10,11,12,13,14,15,16,17,18,19,20,21,22,23,24,25,26,27,28,29,30,31,32,33,34,35,36,37,38,39,45,46],[0,1,2,3,4,5,6,7,8,9,10,11,12,13,14,15,16,17,18,19,20,21,22,23,24,25,26,27,28,29,30,31,32,33,34,35,36,37,38,39,45,46,47],[0,1,2,3,4,5,6,7,8,9,10,11,12,13,14,15,16,17,18,19,20,21,22,23,24,25,26,27,28,29,30,31,32,33,34,35,36,37,38,39,45,46,47,48],[0,1,2,3,4,5,6,7,8,9,10,11,12,13,14,15,16,17,18,19,20,21,22,23,24,25,26,27,28,29,30,31,32,33,34,35,36,37,38,39,40,41,42,43,44,45,46,47,48,49],[0,1,2,3,4,5,6,7,8,9,10,11,12,13,14,15,16,17,18,19,20,21,22,23,24,25,26,27,28,29,30,31,32,33,34,35,36,37,38,39,40,41,42,43,44,45,46,47,48,49,50],[0,1,2,3,4,5,6,7,8,9,10,11,12,13,14,15,16,17,18,19,20,21,22,23,24,25,26,27,28,29,30,31,32,33,34,35,36,37,38,39,40,41,42,43,44,45,46,47,48,49,50,51],[0,1,2,3,4,5,6,7,8,9,10,11,12,13,14,15,16,17,18,19,20,21,22,23,24,25,26,27,28,29,30,31,32,33,34,35,36,37,38,39,40,41,42,43,44,45,46,47,48,49,50,51,52],[0,1,2,3,4,5,6,7,8,9,10,11,12,13,14,15,16,17,18,19,20,21,22,23,24,25,26,27,28,29,30,31,32,33,34,35,36,37,38,39,40,41,42,43,44,45,46,47,48,49,50,51,52,53],[0,1,2,3,4,5,6,7,8,9,10,11,12,13,14,15,16,17,18,19,20,21,22,23,24,25,26,27,28,29,30,31,32,33,34,35,36,37,38,39,40,41,42,43,44,45,46,47,48,49,50,51,52,53],[0,1,2,3,4,5,6,7,8,9,10,11,12,13,14,15,16,17,18,19,20,21,22,23,24,25,26,27,28,29,30,31,32,33,34,35,36,37,38,39,40,41,42,43,44,45,46,47,48,49,50,51,52,53,54,55],[0,1,2,3,4,5,6,7,8,9,10,11,12,13,14,15,16,17,18,19,20,21,22,23,24,25,26,27,28,29,30,31,32,33,34,35,36,37,38,39,40,41,42,43,44,45,46,47,48,49,50,51,52,53,54,55,56],[0,1,2,3,4,5,6,7,8,9,10,11,12,13,14,15,16,17,18,19,20,21,22,23,24,25,26,27,28,29,30,31,32,33,34,35,36,37,38,39,40,41,42,43,44,45,46,47,48,49,50,51,52,53,54,55,56,57],[0,1,2,3,4,5,6,7,8,9,10,11,12,13,14,15,16,17,18,19,20,21,22,23,24,25,26,27,28,29,30,31,32,33,34,35,36,37,38,39,40,41,42,43,44,45,46,47,48,49,50,51,52,53],[0,1,2,3,4,5,6,7,8,9,10,11,12,13,14,15,16,17,18,19,20,21,22,23,24,25,26,27,28,29,30,31,32,33,34,35,36,37,38,39,40,41,42,43,44,45,46,47,48,49,50,51,52,53],[0,1,2,3,4,5,6,7,8,9,10,11,12,13,14,15,16,17,18,19,20,21,22,23,24,25,26,27,28,29,30,31,32,33,34,35,36,37,38,39,40,41,42,43,44,45,46,47,48,49,50,51,52,53,59,60],[0,1,2,3,4,5,6,7,8,9,10,11,12,13,14,15,16,17,18,19,20,21,22,23,24,25,26,27,28,29,30,31,32,33,34,35,36,37,38,39,40,41,42,43,44,45,46,47,48,49,50,51,52,53,59,60,61],[0,1,2,3,4,5,6,7,8,9,10,11,12,13,14,15,16,17,18,19,20,21,22,23,24,25,26,27,28,29,30,31,32,33,34,35,36,37,38,39,40,41,42,43,44,45,46,47,48,49,50,51,52,53,59,60,61,62],[0,1,2,3,4,5,6,7,8,9,10,11,12,13,14,15,16,17,18,19,20,21,22,23,24,25,26,27,28,29,30,31,32,33,34,35,36,37,38,39,40,41,42,43,44,45,46,47,48,49,50,51,52,53],[0,1,2,3,4,5,6,7,8,9,10,11,12,13,14,15,16,17,18,19,20,21,22,23,24,25,26,27,28,29,30,31,32,33,34,35,36,37,38,39,40,41,42,43,44,45,46,47,48,49,50,51,52,53,54,55,56,57,58,59,60,61,62,63,64],[0,1,2,3,4,5,6,7,8,9,10,11,12,13,14,15,16,17,18,19,20,21,22,23,24,25,26,27,28,29,30,31,32,33,34,35,36,37,38,39,40,41,42,43,44,45,46,47,48,49,50,51,52,53,54,55,56,57,58,59,60,61,62,63,64,65],[0,1,2,3,4,5,6,7,8,9,10,11,12,13,14,15,16,17,18,19,20,21,22,23,24,25,26,27,28,29,30,31,32,33,34,35,36,37,38,39,40,41,42,43,44,45,46,47,48,49,50,51,52,53,54,55,56,57,58,59,60,61,62,63,64,65,66]]
abbrev nlFl3_5 : List (List Nat) := [[],[],[0],[0,2],[0,2,3],[],[],[5],[5,7],[5,7,8],[0,2,3,5,7,8],[0,2,3,5,7,8],[0,2,3,5,7,8],[0,2,3,5,7,8],[0,2,3,5,7,8,12],[0,2,3,5,7,8,12,14],[0,2,3,5,7,8,12,14,15],[0,2,3,5,7,8],[0,2,3,5,7,8],[0,2,3,5,7,8,17],[0,2,3,5,7,8,17,19],[0,2,3,5,7,8,17,19,20],[0,2,3,5,7,8,12,14,15,17,19,20],[0,2,3,5,7,8,12,14,15,17,19,20],[0,2,3,5,7,8,12,14,15,17,19,20],[0,2,3,5,7,8,12,14,15,17,19,20],[0,2,3,5,7,8,12,14,15,17,19,20],[0,2,3,5,7,8,12,14,15,17,19,20],[0,2,3,5,7,8,12,14,15,17,19,20],[0,2,3,5,7,8,12,14,15,17,19,20],[0,2,3,5,7,8,12,14,15,17,19,20],[0,2,3,5,7,8,12,14,15,17,19,20],[0,2,3,5,7,8,12,14,15,17,19,20],[0,2,3,5,7,8,12,14,15,17,19,20],[0,2,3,5,7,8,12,14,15,17,19,20],[0,2,3,5,7,8,12,14,15,17,19,20],[0,2,3,5,7,8,12,14,15,17,19,20],[0,2,3,5,7,8,12,14,15,17,19,20],[0,2,3,5,7,8,12,14,15,17,19,20],[0,2,3,5,7,8,12,14,15,17,19,20],[0,2,3,5,7,8,12,14,15,17,19,20],[0,2,3,5,7,8,12,14,15,17,19,20],[0,2,3,5,7,8,12,14,15,17,19,20],[0,2,3,5,7,8,12,14,15,17,19,20],[0,2,3,5,7,8,12,14,15,17,19,20],[0,2,3,5,7,8,12,14,15,17,19,20],[0,2,3,5,7,8,12,14,15,17,19,20],[0,2,3,5,7,8,12,14,15,17,19,20],[0,2,3,5,7,8,12,14,15,17,19,20],[0,2,3,5,7,8,12,14,15,17,19,20],[0,2,3,5,7,8,12,14,15,17,19,20],[0,2,3,5,7,8,12,14,15,17,19,20],[0,2,3,5,7,8,12,14,15,17,19,20],[0,2,3,5,7,8,12,14,15,17,19,20],[0,2,3,5,7,8,12,14,15,17,19,20],[0,2,3,5,7,8,12,14,15,17,19,20],[0,2,3,5,7,8,12,14,15,17,19,20],[0,2,3,5,7,8,12,14,15,17,19,20],[0,2,3,5,7,8,12,14,15,17,19,20],[0,2,3,5,7,8,12,14,15,17,19,20],[0,2,3,5,7,8,12,14,15,17,19,20],[0,2,3,5,7,8,12,14,15,17,19,20],[0,2,3,5,7,8,12,14,15,17,19,20],[0,2,3,5,7,8,12,14,15,17,19,20],[0,2,3,5,7,8,12,14,15,17,19,20]]
abbrev nlFl3_6 : List (List Nat) := [[],[],[0],[0,2],[0,2,3],[],[],[5],[5,7],[5,7,8],[0,2,3,5,7,8],[0,2,3,5,7,8],[0,2,3,5,7,8],[0,2,3,5,7,8],[0,2,3,5,7,8,12],[0,2,3,5,7,8,12,14],[0,2,3,5,7,8,12,14,15],[0,2,3,5,7,8],[0,2,3,5,7,8],[0,2,3,5,7,8,17],[0,2,3,5,7,8,17,19],[0,2,3,5,7,8,17,19,20],[0,2,3,5,7,8,12,14,15,17,19,20],[0,2,3,5,7,8,12,14,15,17,19,20],[0,2,3,5,7,8,12,14,15,17,19,20],[0,2,3,5,7,8,12,14,15,17,19,20],[0,2,3,5,7,8,12,14,15,17,19,20],[0,2,3,5,7,8,12,14,15,17,19,20,25],[0,2,3,5,7,8,12,14,15,17,19,20,25,27],[0,2,3,5,7,8,12,14,15,17,19,20,25,27,28],[0,2,3,5,7,8,12,14,15,17,19,20],[0,2,3,5,7,8,12,14,15,17,19,20],[0,2,3,5,7,8,12,14,15,17,19,20,30],[0,2,3,5,7,8,12,14,15,17,19,20,30,32],[0,2,3,5,7,8,12,14,15,17,19,20,30,32,33],[0,2,3,5,7,8,12,14,15,17,19,20,25,27,28,30,32,33],[0,2,3,5,7,8,12,14,15,17,19,20,25,27,28,30,32,33],[0,2,3,5,7,8,12,14,15,17,19,20,25,27,28,30,32,33],[0,2,3,5,7,8,12,14,15,17,19,20,25,27,28,30,32,33],[0,2,3,5,7,8,12,14,15,17,19,20,25,27,28,30,32,33],[0,2,3,5,7,8,12,14,15,17,19,20,25,27,28,30,32,33],[0,2,3,5,7,8,12,14,15,17,19,20,25,27,28,30,32,33],[0,2,3,5,7,8,12,14,15,17,19,20,25,27,28,30,32,33],[0,2,3,5,7,8,12,14,15,17,19,20,25,27,28,30,32,33],[0,2,3,5,7,8,12,14,15,17,19,20,25,27,28,30,32,33],[0,2,3,5,7,8,12,14,15,17,19,20,25,27,28,30,32,33],[0,2,3,5,7,8,12,14,15,17,19,20,25,27,28,30,32,33],[0,2,3,5,7,8,12,14,15,17,19,20,25,27,28,30,32,33],[0,2,3,5,7,8,12,14,15,17,19,20,25,27,28,30,32,33],[0,2,3,5,7,8,12,14,15,17,19,20,25,27,28,30,32,33],[0,2,3,5,7,8,12,14,15,17,19,20,25,27,28,30,32,33],[0,2,3,5,7,8,12,14,15,17,19,20,25,27,28,30,32,33],[0,2,3,5,7,8,12,14,15,17,19,20,25,27,28,30,32,33],[0,2,3,5,7,8,12,14,15,17,19,20,25,27,28,30,32,33],[0,2,3,5,7,8,12,14,15,17,19,20,25,27,28,30,32,33],[0,2,3,5,7,8,12,14,15,17,19,20,25,27,28,30,32,33],[0,2,3,5,7,8,12,14,15,17,19,20,25,27,28,30,32,33],[0,2,3,5,7,8,12,14,15,17,19,20,25,27,28,30,32,33],[0,2,3,5,7,8,12,14,15,17,19,20,25,27,28,30,32,33],[0,2,3,5,7,8,12,14,15,17,19,20,25,27,28,30,32,33],[0,2,3,5,7,8,12,14,15,17,19,20,25,27,28,30,32,33],[0,2,3,5,7,8,12,14,15,17,19,20,25,27,28,30,32,33],[0,2,3,5,7,8,12,14,15,17,19,20,25,27,28,30,32,33],[0,2,3,5,7,8,12,14,15,17,19,20,25,27,28,30,32,33],[0,2,3,5,7,8,12,14,15,17,19,20,25,27,28,30,32,33]]
abbrev nlFl3_7 : List (List Nat) := [[],[],[0],[0,2],[0,2,3],[],[],[5],[5,7],[5,7,8],[0,2,3,5,7,8],[0,2,3,5,7,8],[0,2,3,5,7,8],[0,2,3,5,7,8],[0,2,3,5,7,8,12],[0,2,3,5,7,8,12,14],[0,2,3,5,7,8,12,14,15],[0,2,3,5,7,8],[0,2,3,5,7,8],[0,2,3,5,7,8,17],[0,2,3,5,7,8,17,19],[0,2,3,5,7,8,17,19,20],[0,2,3,5,7,8,12,14,15,17,19,20],[0,2,3,5,7,8,12,14,15,17,19,20],[0,2,3,5,7,8,12,14,15,17,19,20],[0,2,3,5,7,8,12,14,15,17,19,20],[0,2,3,5,7,8,12,14,15,17,19,20],[0,2,3,5,7,8,12,14,15,17,19,20,25],[0,2,3,5,7,8,12,14,15,17,19,20,25,27],[0,2,3,5,7,8,12,14,15,17,19,20,25,27,28],[0,2,3,5,7,8,12,14,15,17,19,20],[0,2,3,5,7,8,12,14,15,17,19,20],[0,2,3,5,7,8,12,14,15,17,19,20,30],[0,2,3,5,7,8,12,14,15,17,19,20,30,32],[0,2,3,5,7,8,12,14,15,17,19,20,30,32,33],[0,2,3,5,7,8,12,14,15,17,19,20,25,27,28,30,32,33],[0,2,3,5,7,8,12,14,15,17,19,20,25,27,28,30,32,33],[0,2,3,5,7,8,12,14,15,17,19,20,25,27,28,30,32,33],[0,2,3,5,7,8,12,14,15,17,19,20,25,27,28,30,32,33],[0,2,3,5,7,8,12,14,15,17,19,20,25,27,28,30,32,33],[0,2,3,5,7,8,12,14,15,17,19,20,25,27,28,30,32,33],[0,2,3,5,7,8,12,14,15,17,19,20,25,27,28,30,32,33],[0,2,3,5,7,8,12,14,15,17,19,20,25,27,28,30,32,33,40],[0,2,3,5,7,8,12,14,15,17,19,20,25,27,28,30,32,33,40,42],[0,2,3,5,7,8,12,14,15,17,19,20,25,27,28,30,32,33,40,42,43],[0,2,3,5,7,8,12,14,15,17,19,20,25,27,28,30,32,33],[0,2,3,5,7,8,12,14,15,17,19,20,25,27,28,30,32,33],[0,2,3,5,7,8,12,14,15,17,19,20,25,27,28,30,32,33,45],[0,2,3,5,7,8,12,14,15,17,19,20,25,27,28,30,32,33,45,47],[0,2,3,5,7,8,12,14,15,17,19,20,25,27,28,30,32,33,45,47,48],[0,2,3,5,7,8,12,14,15,17,19,20,25,27,28,30,32,33,40,42,43,45,47,48],[0,2,3,5,7,8,12,14,15,17,19,20,25,27,28,30,32,33,40,42,43,45,47,48],[0,2,3,5,7,8,12,14,15,17,19,20,25,27,28,30,32,33,40,42,43,45,47,48],[0,2,3,5,7,8,12,14,15,17,19,20,25,27,28,30,32,33,40,42,43,45,47,48],[0,2,3,5,7,8,12,14,15,17,19,20,25,27,28,30,32,33,40,42,43,45,47,48],[0,2,3,5,7,8,12,14,15,17,19,20,25,27,28,30,32,33,40,42,43,45,47,48],[0,2,3,5,7,8,12,14,15,17,19,20,25,27,28,30,32,33,40,42,43,45,47,48],[0,2,3,5,7,8,12,14,15,17,19,20,25,27,28,30,32,33,40,42,43,45,47,48],[0,2,3,5,7,8,12,14,15,17,19,20,25,27,28,30,32,33,40,42,43,45,47,48],[0,2,3,5,7,8,12,14,15,17,19,20,25,27,28,30,32,33,40,42,43,45,47,48],[0,2,3,5,7,8,12,14,15,17,19,20,25,27,28,30,32,33,40,42,43,45,47,48],[0,2,3,5,7,8,12,14,15,17,19,20,25,27,28,30,32,33,40,42,43,45,47,48],[0,2,3,5,7,8,12,14,15,17,19,20,25,27,28,30,32,33,40,42,43,45,47,48],[0,2,3,5,7,8,12,14,15,17,19,20,25,27,28,30,32,33,40,42,43,45,47,48],[0,2,3,5,7,8,12,14,15,17,19,20,25,27,28,30,32,33,40,42,43,45,47,48]]
abbrev nlFl3_8 : List (List Nat) := [[],[],[0],[0,2],[0,2,3],[],[],[5],[5,7],[5,7,8],[0,2,3,5,7,8],[0,2,3,5,7,8],[0,2,3,5,7,8],[0,2,3,5,7,8],[0,2,3,5,7,8,12],[0,2,3,5,7,8,12,14],[0,2,3,5,7,8,12,14,15],[0,2,3,5,7,8],[0,2,3,5,7,8],[0,2,3,5,7,8,17],[0,2,3,5,7,8,17,19],[0,2,3,5,7,8,17,19,20],[0,2,3,5,7,8,12,14,15,17,19,20],[0,2,3,5,7,8,12,14,15,17,19,20],[0,2,3,5,7,8,12,14,15,17,19,20],[0,2,3,5,7,8,12,14,15,17,19,20],[0,2,3,5,7,8,12,14,15,17,19,20],[0,2,3,5,7,8,12,14,15,17,19,20,25],[0,2,3,5,7,8,12,14,15,17,19,20,25,27],[0,2,3,5,7,8,12,14,15,17,19,20,25,27,28],[0,2,3,5,7,8,12,14,15,17,19,20],[0,2,3,5,7,8,12,14,15,17,19,20],[0,2,3,5,7,8,12,14,15,17,19,20,30],[0,2,3,5,7,8,12,14,15,17,19,20,30,32],[0,2,3,5,7,8,12,14,15,17,19,20,30,32,33],[0,2,3,5,7,8,12,14,15,17,19,20,25,27,28,30,32,33],[0,2,3,5,7,8,12,14,15,17,19,20,25,27,28,30,32,33],[0,2,3,5,7,8,12,14,15,17,19,20,25,27,28,30,32,33],[0,2,3,5,7,8,12,14,15,17,19,20,25,27,28,30,32,33],[0,2,3,5,7,8,12,14,15,17,19,20,25,27,28,30,32,33],[0,2,3,5,7,8,12,14,15,17,19,20,25,27,28,30,32,33],[0,2,3,5,7,8,12,14,15,17,19,20,25,27,28,30,32,33],[0,2,3,5,7,8,12,14,15,17,19,20,25,27,28,30,32,33,40],[0,2,3,5,7,8,12,14,15,17,19,20,25,27,28,30,32,33,40,42],[0,2,3,5,7,8,12,14,15,17,19,20,25,27,28,30,32,33,40,42,43],[0,2,3,5,7,8,12,14,15,17,19,20,25,27,28,30,32,33],[0,2,3,5,7,8,12,14,15,17,19,20,25,27,28,30,32,33],[0,2,3,5,7,8,12,14,15,17,19,20,25,27,28,30,32,33,45],[0,2,3,5,7,8,12,14,15,17,19,20,25,27,28,30,32,33,45,47],[0,2,3,5,7,8,12,14,15,17,19,20,25,27,28,30,32,33,45,47,48],[0,2,3,5,7,8,12,14,15,17,19,20,25,27,28,30,32,33,40,42,43,45,47,48],[0,2,3,5,7,8,12,14,15,17,19,20,25,27,28,30,32,33,40,42,43,45,47,48],[0,2,3,5,7,8,12,14,15,17,19,20,25,27,28,30,32,33,40,42,43,45,47,48],[0,2,3,5,7,8,12,14,15,17,19,20,25,27,28,30,32,33,40,42,43,45,47,48],[0,2,3,5,7,8,12,14,15,17,19,20,25,27,28,30,32,33,40,42,43,45,47,48],[0,2,3,5,7,8,12,14,15,17,19,20,25,27,28,30,32,33,40,42,43,45,47,48],[0,2,3,5,7,8,12,14,15,17,19,20,25,27,28,30,32,33,40,42,43,45,47,48,54],[0,2,3,5,7,8,12,14,15,17,19,20,25,27,28,30,32,33,40,42,43,45,47,48,54,56],[0,2,3,5,7,8,12,14,15,17,19,20,25,27,28,30,32,33,40,42,43,45,47,48,54,56,57],[0,2,3,5,7,8,12,14,15,17,19,20,25,27,28,30,32,33,40,42,43,45,47,48],[0,2,3,5,7,8,12,14,15,17,19,20,25,27,28,30,32,33,40,42,43,45,47,48],[0,2,3,5,7,8,12,14,15,17,19,20,25,27,28,30,32,33,40,42,43,45,47,48,59],[0,2,3,5,7,8,12,14,15,17,19,20,25,27,28,30,32,33,40,42,43,45,47,48,59,61],[0,2,3,5,7,8,12,14,15,17,19,20,25,27,28,30,32,33,40,42,43,45,47,48,59,61,62],[0,2,3,5,7,8,12,14,15,17,19,20,25,27,28,30,32,33,40,42,43,45,47,48]]
abbrev nlFl3_9 : List (List Nat) := [[],[],[0],[0,2],[0,2,3],[],[],[5],[5,7],[5,7,8],[0,2,3,5,7,8],[0,2,3,5,7,8],[0,2,3,5,7,8],[0,2,3,5,7,8],[0,2,3,5,7,8,12],[0,2,3,5,7,8,12,14],[0,2,3,5,7,8,12,14,15],[0,2,3,5,7,8],[0,2,3,5,7,8],[0,2,3,5,7,8,17],[0,2,3,5,7,8,17,19],[0,2,3,5,7,8,17,19,20],[0,2,3,5,7,8,12,14,15,17,19,20],[0,2,3,5,7,8,12,14,15,17,19,20],[0,2,3,5,7,8,12,14,15,17,19,20],[0,2,3,5,7,8,12,14,15,17,19,20],[0,2,3,5,7,8,12,14,15,17,19,20],[0,2,3,5,7,8,12,14,15,17,19,20,25],[0,2,3,5,7,8,12,14,15,17,19,20,25,27],[0,2,3,5,7,8,12,14,15,17,19,20,25,27,28],[0,2,3,5,7,8,12,14,15,17,19,20],[0,2,3,5,7,8,12,14,15,17,19,20],[0,2,3,5,7,8,12,14,15,17,19,20,30],[0,2,3,5,7,8,12,14,15,17,19,20,30,32],[0,2,3,5,7,8,12,14,15,17,19,20,30,32,33],[0,2,3,5,7,8,12,14,15,17,19,20,25,27,28,30,32,33],[0,2,3,5,7,8,12,14,15,17,19,20,25,27,28,30,32,33],[0,2,3,5,7,8,12,14,15,17,19,20,25,27,28,30,32,33],[0,2,3,5,7,8,12,14,15,17,19,20,25,27,28,30,32,33],[0,2,3,5,7,8,12,14,15,17,19,20,25,27,28,30,32,33],[0,2,3,5,7,8,12,14,15,17,19,20,25,27,28,30,32,33],[0,2,3,5,7,8,12,14,15,17,19,20,25,27,28,30,32,33],[0,2,3,5,7,8,12,14,15,17,19,20,25,27,28,30,32,33],[0,2,3,5,7,8,12,14,15,17,19,20,25,27,28,30,32,33],[0,2,3,5,7,8,12,14,15,17,19,20,25,27,28,30,32,33],[0,2,3,5,7,8,12,14,15,17,19,20,25,27,28,30,32,33],[0,2,3,5,7,8,12,14,15,17,19,20,25,27,28,30,32,33],[0,2,3,5,7,8,12,14,15,17,19,20,25,27,28,30,32,33],[0,2,3,5,7,8,12,14,15,17,19,20,25,27,28,30,32,33],[0,2,3,5,7,8,12,14,15,17,19,20,25,27,28,30,32,33],[0,2,3,5,7,8,12,14,15,17,19,20,25,27,28,30,32,33],[0,2,3,5,7,8,12,14,15,17,19,20,25,27,28,30,32,33],[0,2,3,5,7,8,12,14,15,17,19,20,25,27,28,30,32,33],[0,2,3,5,7,8,12,14,15,17,19,20,25,27,28,30,32,33],[0,2,3,5,7,8,12,14,15,17,19,20,25,27,28,30,32,33],[0,2,3,5,7,8,12,14,15,17,19,20,25,27,28,30,32,33],[0,2,3,5,7,8,12,14,15,17,19,20,25,27,28,30,32,33,54],[0,2,3,5,7,8,12,14,15,17,19,20,25,27,28,30,32,33,54,56],[0,2,3,5,7,8,12,14,15,17,19,20,25,27,28,30,32,33,54,56,57],[0,2,3,5,7,8,12,14,15,17,19,20,25,27,28,30,32,33],[0,2,3,5,7,8,12,14,15,17,19,20,25,27,28,30,32,33],[0,2,3,5,7,8,12,14,15,17,19,20,25,27,28,30,32,33,59],[0,2,3,5,7,8,12,14,15,17,19,20,25,27,28,30,32,33,59,61],[0,2,3,5,7,8,12,14,15,17,19,20,25,27,28,30,32,33,59,61,62],[0,2,3,5,7,8,12,14,15,17,19,20,25,27,28,30,32,33]]
noncomputable def r11_Exps_b (g0 : (List TApiExpr) → (List TApiExpr) → (Bool) → Option (Bool)) (a0 : List TApiExpr) (a1 : List TApiExpr) (a2 : Bool) : Option (Bool) :=
  (bif ((a0.length : Int) != (a1.length : Int)) then some false else (Option.bind (α := (Unit) ⊕ (Bool)) (loopM (fun (s132 : Int) => (bif (decide (s132 < (a0.length : Int))) then (Option.bind (α := Bool) ((idx a0 s132).bind fun x238 => ((idx a1 s132).bind fun x239 => (bif (x238.gOp != x239.gOp) then some true else ((idx a0 s132).bind fun x241 => ((idx a1 s132).bind fun x242 => (bif (x241.gN != x242.gN) then some true else ((idx a0 s132).bind fun x244 => ((idx a1 s132).bind fun x245 => (bif (!decide (x244.gName = x245.gName)) then some true else (bif a2 then ((idx a0 s132).bind fun x248 => ((idx a1 s132).bind fun x249 => (bif (x248.gAt != x249.gAt) then some true else ((idx a0 s132).bind fun x251 => ((idx a1 s132).bind fun x252 => ((g0 x251.gKids x252.gKids a2).bind fun x253 => some (!x253))))))) else ((idx a0 s132).bind fun x254 => ((idx a1 s132).bind fun x255 => ((g0 x254.gKids x255.gKids a2).bind fun x256 => some (!x256)))))))))))))) fun y237 => (bif y237 then some (.done (.inr false)) else some (.next (IntKind.i64.wrap (s132 + (1 : Int)))))) else some (.done (.inl ())))) (0 : Int)) (Sum.elim (fun y131 => some true) (fun r => some r))))
set_option maxRecDepth 100000 in
set_option maxHeartbeats 2000000 in
theorem r11_Exps_b_ok (g0 : (List TApiExpr) → (List TApiExpr) → (Bool) → Option (Bool)) (hg0 : ∀ (a0 : List TApiExpr) (a1 : List TApiExpr) (a2 : Bool) (r : Bool) (h0 : g0 a0 a1 a2 = some r), CallsD Try.prog 17 [.lst 5 (a0.map eTApiExpr) .no, .lst 5 (a1.map eTApiExpr) .no, .v (.bool a2)] [] [] (fun d h k => d = .v (.bool r) ∧ h = [] ∧ k = [])) (a0 : List TApiExpr) (a1 : List TApiExpr) (a2 : Bool) (r : Bool) (h0 : r11_Exps_b g0 a0 a1 a2 = some r) : CallsD Try.prog 17 [.lst 5 (a0.map eTApiExpr) .no, .lst 5 (a1.map eTApiExpr) .no, .v (.bool a2)] [] [] (fun d h k => d = .v (.bool r) ∧ h = [] ∧ k = []) := by
  have hm := yes_of h0
  unfold r11_Exps_b at hm
  clear h0
  refine enterX htab Try.func17 rfl rfl rfl rfl rfl (fun C => ?_)
  refine wpD_seq ?_
  refine wpD_region ?_
  refine p_pure htab rfl rfl rfl rfl ?_
  refine ops_nil ?_
  refine then_normal ?_
  refine wpD_seq ?_
  refine wpD_seq ?_
  refine wpD_region ?_
  refine p_pure htab rfl rfl rfl rfl ?_
  refine p_lenL htab rfl rfl rfl rfl rfl rfl rfl (by first | exact map_len | rfl) ?_
  refine p_pure htab rfl rfl rfl rfl ?_
  refine p_lenL htab rfl rfl rfl rfl rfl rfl rfl (by first | exact map_len | rfl) ?_
  refine p_pure htab rfl rfl rfl rfl ?_
  refine ops_nil ?_
  refine then_normal ?_
  refine wpD_cond rfl (fun hc2 => ?_) (fun hc2 => ?_)
  · replace hm := yes_t hc2 hm
    refine wpD_seq ?_
    refine wpD_region ?_
    refine p_pure htab rfl rfl rfl rfl ?_
    refine ops_nil ?_
    refine then_normal ?_
    refine wpD_ret ?_
    refine then_ret ?_
    have er3 := yes_eq hm; subst er3
    refine retX.of (s' := ⟨[(6, .v (.bool false))], [], []⟩) (WkS.perm (WkS.cons rfl (Wk.refl _) (WkS.nil)) (List.Perm.refl _) (List.Perm.refl _)) (retD_mk (hh := []) (.inl rfl) (resL_cons (resOne_tmp rfl) (resL_nil)) (List.nil_sublist _) (List.Sublist.refl _) ?_)
    exact ⟨rfl, rfl, rfl⟩
  · replace hm := yes_f hc2 hm
    refine wpD_skip ?_
    refine then_normal ?_
    refine wpD_seq ?_
    refine wpD_seq ?_
    refine wpD_region ?_
    refine p_pure htab rfl rfl rfl rfl ?_
    refine ops_nil ?_
    refine then_normal ?_
    obtain ⟨x131, q131, ho131⟩ := yes_bind hm
    refine wpD_midX (τ := Unit) (Y := Unit) (fun y131 z131 => (⟨[], [], []⟩ : S)) x131 ?_ ?_
    · clear hm; have hm := yes_of q131
      refine wpD_block ?_
      obtain ⟨u132, hl132, hq132⟩ := yes_m hm
      refine loop_M (Y := Unit) hl132 (fun s132 z132 => (⟨[(0, .lst 5 (a0.map eTApiExpr) .no), (1, .lst 5 (a1.map eTApiExpr) .no), (2, .v (.bool a2)), (7, .v (.int .i64 s132))], [], []⟩ : S)) ?_ ?_
      · skip
        exact WkX.of () (WkS.perm (WkS.cons rfl (Wk.refl _) (WkS.cons rfl (Wk.refl _) (WkS.cons rfl (Wk.refl _) (WkS.cons rfl (Wk.refl _) (WkS.nil))))) (List.Perm.refl _) (List.Perm.refl _))
      · intro G132 s132 z132 hm
        refine wpD_seq ?_
        refine wpD_seq ?_
        refine wpD_region ?_
        refine p_pure htab rfl rfl rfl rfl ?_
        refine p_pure htab rfl rfl rfl rfl ?_
        refine p_lenL htab rfl rfl rfl rfl rfl rfl rfl (by first | exact map_len | rfl) ?_
        refine p_pure htab rfl rfl rfl rfl ?_
        refine ops_nil ?_
        refine then_normal ?_
        refine wpD_cond rfl (fun hc217 => ?_) (fun hc217 => ?_)
        · replace hm := yes_t hc217 hm
          refine wpD_skip ?_
          refine then_normal ?_
          refine wpD_seq ?_
          refine wpD_block ?_
          refine wpD_seq ?_
          obtain ⟨y237, q237, ho237⟩ := yes_bind hm
          refine wpD_mid (Y := Unit) (fun z237 => (⟨[(0, .lst 5 (a0.map eTApiExpr) .no), (1, .lst 5 (a1.map eTApiExpr) .no), (2, .v (.bool a2)), (7, .v (.int .i64 s132)), (86, .v (.bool y237))], [], []⟩ : S)) ?_ ?_
          · clear hm; have hm := yes_of q237
            obtain ⟨x238, q238, hm⟩ := yes_bind hm
            obtain ⟨x239, q239, hm⟩ := yes_bind hm
            refine bycB (x238.gOp != x239.gOp) (fun hs240 => ?_) (fun hs240 => ?_)
            · replace hm := yes_t hs240 hm
              refine wpD_draws 65 [] nlFl3_3 [0,2,3,5,7,8] nlFl3_4 (by kernel_rfl) (by kernel_rfl) (by kernel_rfl) (by rfl) (by rfl) (by kernel_rfl) ?_
              apply Exists.intro
              apply Exists.intro
              apply Exists.intro
              apply Exists.intro
              apply Exists.intro
              apply Exists.intro
              intro bs
              refine z_e rfl rfl (ex_pure htab rfl) rfl rfl rfl rfl rfl rfl ?_
              refine z_q rfl rfl (ex_pure htab rfl) rfl rfl rfl rfl rfl rfl ?_
              refine z_e rfl rfl (Ex.wk (x_elem htab rfl rfl rfl rfl rfl rfl rfl (idx_nonneg q238) (idx_map q238)) (Wk.of_eq (congrArg D.el (eTApiExpr_eq x238)))) rfl rfl rfl rfl rfl rfl ?_
              refine z_e rfl rfl (ex_pure htab rfl) rfl rfl rfl rfl rfl rfl ?_
              refine z_qM rfl rfl (xm_loadEl htab rfl rfl rfl rfl rfl) rfl rfl rfl rfl rfl rfl ?_
              refine z_e rfl rfl (ex_pure htab rfl) rfl rfl rfl rfl rfl rfl ?_
              refine z_q rfl rfl (ex_pure htab rfl) rfl rfl rfl rfl rfl rfl ?_
              refine z_e rfl rfl (Ex.wk (x_elem htab rfl rfl rfl rfl rfl rfl rfl (idx_nonneg q239) (idx_map q239)) (Wk.of_eq (congrArg D.el (eTApiExpr_eq x239)))) rfl rfl rfl rfl rfl rfl ?_
              refine z_e rfl rfl (ex_pure htab rfl) rfl rfl rfl rfl rfl rfl ?_
              refine z_qM rfl rfl (xm_loadEl htab rfl rfl rfl rfl rfl) rfl rfl rfl rfl rfl rfl ?_
              refine z_q rfl rfl (ex_pure htab rfl) rfl rfl rfl rfl rfl rfl ?_
              refine z_q rfl rfl (ex_pure htab rfl) rfl rfl rfl rfl rfl rfl ?_
              refine z_known (j := 30) (b' := true) rfl hs240 ?_
              refine z_skip rfl rfl rfl rfl ?_
              refine z_skip rfl rfl rfl rfl ?_
              refine z_skip rfl rfl rfl rfl ?_
              refine z_skip rfl rfl rfl rfl ?_
              refine z_skip rfl rfl rfl rfl ?_
              refine z_skip rfl rfl rfl rfl ?_
              refine z_skip rfl rfl rfl rfl ?_
              refine z_skip rfl rfl rfl rfl ?_
              refine z_skip rfl rfl rfl rfl ?_
              refine z_skip rfl rfl rfl rfl ?_
              refine z_skip rfl rfl rfl rfl ?_
              refine z_q rfl rfl (x_pickT rfl rfl rfl) rfl rfl rfl rfl rfl rfl ?_
              refine z_q rfl rfl (ex_pure htab rfl) rfl rfl rfl rfl rfl rfl ?_
              refine z_skip rfl rfl rfl rfl ?_
              refine z_skip rfl rfl rfl rfl ?_
              refine z_skip rfl rfl rfl rfl ?_
              refine z_skip rfl rfl rfl rfl ?_
              refine z_skip rfl rfl rfl rfl ?_
              refine z_skip rfl rfl rfl rfl ?_
              refine z_skip rfl rfl rfl rfl ?_
              refine z_skip rfl rfl rfl rfl ?_
              refine z_skip rfl rfl rfl rfl ?_
              refine z_skip rfl rfl rfl rfl ?_
              refine z_skip rfl rfl rfl rfl ?_
              refine z_q rfl rfl (x_pickT rfl rfl rfl) rfl rfl rfl rfl rfl rfl ?_
              refine z_q rfl rfl (ex_pure htab rfl) rfl rfl rfl rfl rfl rfl ?_
              refine z_skip rfl rfl rfl rfl ?_
              refine z_skip rfl rfl rfl rfl ?_
              refine z_skip rfl rfl rfl rfl ?_
              refine z_skip rfl rfl rfl rfl ?_
              refine z_skip rfl rfl rfl rfl ?_
              refine z_skip rfl rfl rfl rfl ?_
              refine z_skip rfl rfl rfl rfl ?_
              refine z_skip rfl rfl rfl rfl ?_
              refine z_skip rfl rfl rfl rfl ?_
              refine z_skip rfl rfl rfl rfl ?_
              refine z_skip rfl rfl rfl rfl ?_
              refine z_skip rfl rfl rfl rfl ?_
              refine z_skip rfl rfl rfl rfl ?_
              refine z_skip rfl rfl rfl rfl ?_
              refine z_q rfl rfl (x_pickT rfl rfl rfl) rfl rfl rfl rfl rfl rfl ?_
              refine z_q rfl rfl (ex_pure htab rfl) rfl rfl rfl rfl rfl rfl ?_
              refine z_skip rfl rfl rfl rfl ?_
              refine z_skip rfl rfl rfl rfl ?_
              refine z_skip rfl rfl rfl rfl ?_
              refine z_skip rfl rfl rfl rfl ?_
              refine z_skip rfl rfl rfl rfl ?_
              refine z_skip rfl rfl rfl rfl ?_
              refine z_skip rfl rfl rfl rfl ?_
              refine z_skip rfl rfl rfl rfl ?_
              refine z_skip rfl rfl rfl rfl ?_
              refine z_skip rfl rfl rfl rfl ?_
              refine z_skip rfl rfl rfl rfl ?_
              refine z_nil rfl rfl (fun e he => by simp [isAl] at he) ?_
              refine p_skip rfl rfl rfl ?_
              refine p_skip rfl rfl rfl ?_
              refine p_pickT rfl rfl rfl rfl rfl rfl ?_
              refine ops_nil ?_
              have e237 := yes_eq hm; subst e237
              refine ⟨rfl, ?_⟩
              exact WkX.of () (WkS.perm (WkS.cons rfl (Wk.refl _) (WkS.cons rfl (Wk.refl _) (WkS.cons rfl (Wk.refl _) (WkS.cons rfl (Wk.refl _) (WkS.cons rfl (Wk.refl _) (WkS.nil)))))) (List.Perm.refl _) (List.Perm.refl _))
            · replace hm := yes_f hs240 hm
              obtain ⟨x241, q241, hm⟩ := yes_bind hm
              obtain ⟨x242, q242, hm⟩ := yes_bind hm
              refine bycB (x241.gN != x242.gN) (fun hs243 => ?_) (fun hs243 => ?_)
              · replace hm := yes_t hs243 hm
                refine wpD_draws 65 [] nlFl3_5 [0,2,3,5,7,8,12,14,15,17,19,20] nlFl3_4 (by kernel_rfl) (by kernel_rfl) (by kernel_rfl) (by rfl) (by rfl) (by kernel_rfl) ?_
                apply Exists.intro
                apply Exists.intro
                apply Exists.intro
                apply Exists.intro
                apply Exists.intro
                apply Exists.intro
                apply Exists.intro
                apply Exists.intro
                apply Exists.intro
                apply Exists.intro
                apply Exists.intro
                apply Exists.intro
                intro bs
                refine z_e rfl rfl (ex_pure htab rfl) rfl rfl rfl rfl rfl rfl ?_
                refine z_q rfl rfl (ex_pure htab rfl) rfl rfl rfl rfl rfl rfl ?_
                refine z_e rfl rfl (Ex.wk (x_elem htab rfl rfl rfl rfl rfl rfl rfl (idx_nonneg q238) (idx_map q238)) (Wk.of_eq (congrArg D.el (eTApiExpr_eq x238)))) rfl rfl rfl rfl rfl rfl ?_
                refine z_e rfl rfl (ex_pure htab rfl) rfl rfl rfl rfl rfl rfl ?_
                refine z_qM rfl rfl (xm_loadEl htab rfl rfl rfl rfl rfl) rfl rfl rfl rfl rfl rfl ?_
                refine z_e rfl rfl (ex_pure htab rfl) rfl rfl rfl rfl rfl rfl ?_
                refine z_q rfl rfl (ex_pure htab rfl) rfl rfl rfl rfl rfl rfl ?_
                refine z_e rfl rfl (Ex.wk (x_elem htab rfl rfl rfl rfl rfl rfl rfl (idx_nonneg q239) (idx_map q239)) (Wk.of_eq (congrArg D.el (eTApiExpr_eq x239)))) rfl rfl rfl rfl rfl rfl ?_
                refine z_e rfl rfl (ex_pure htab rfl) rfl rfl rfl rfl rfl rfl ?_
                refine z_qM rfl rfl (xm_loadEl htab rfl rfl rfl rfl rfl) rfl rfl rfl rfl rfl rfl ?_
                refine z_q rfl rfl (ex_pure htab rfl) rfl rfl rfl rfl rfl rfl ?_
                refine z_q rfl rfl (ex_pure htab rfl) rfl rfl rfl rfl rfl rfl ?_
                refine z_known (j := 30) (b' := false) rfl hs240 ?_
                refine z_e rfl rfl (ex_pure htab rfl) rfl rfl rfl rfl rfl rfl ?_
                refine z_q rfl rfl (ex_pure htab rfl) rfl rfl rfl rfl rfl rfl ?_
                refine z_e rfl rfl (Ex.wk (x_elem htab rfl rfl rfl rfl rfl rfl rfl (idx_nonneg q241) (idx_map q241)) (Wk.of_eq (congrArg D.el (eTApiExpr_eq x241)))) rfl rfl rfl rfl rfl rfl ?_
                refine z_e rfl rfl (ex_pure htab rfl) rfl rfl rfl rfl rfl rfl ?_
                refine z_qM rfl rfl (xm_loadEl htab rfl rfl rfl rfl rfl) rfl rfl rfl rfl rfl rfl ?_
                refine z_e rfl rfl (ex_pure htab rfl) rfl rfl rfl rfl rfl rfl ?_
                refine z_q rfl rfl (ex_pure htab rfl) rfl rfl rfl rfl rfl rfl ?_
                refine z_e rfl rfl (Ex.wk (x_elem htab rfl rfl rfl rfl rfl rfl rfl (idx_nonneg q242) (idx_map q242)) (Wk.of_eq (congrArg D.el (eTApiExpr_eq x242)))) rfl rfl rfl rfl rfl rfl ?_
                refine z_e rfl rfl (ex_pure htab rfl) rfl rfl rfl rfl rfl rfl ?_
                refine z_qM rfl rfl (xm_loadEl htab rfl rfl rfl rfl rfl) rfl rfl rfl rfl rfl rfl ?_
                refine z_q rfl rfl (ex_pure htab rfl) rfl rfl rfl rfl rfl rfl ?_
                refine z_q rfl rfl (x_pickF rfl rfl rfl) rfl rfl rfl rfl rfl rfl ?_
                refine z_q rfl rfl (ex_pure htab rfl) rfl rfl rfl rfl rfl rfl ?_
                refine z_known (j := 43) (b' := true) rfl hs243 ?_
                refine z_skip rfl rfl rfl rfl ?_
                refine z_skip rfl rfl rfl rfl ?_
                refine z_skip rfl rfl rfl rfl ?_
                refine z_skip rfl rfl rfl rfl ?_
                refine z_skip rfl rfl rfl rfl ?_
                refine z_skip rfl rfl rfl rfl ?_
                refine z_skip rfl rfl rfl rfl ?_
                refine z_skip rfl rfl rfl rfl ?_
                refine z_skip rfl rfl rfl rfl ?_
                refine z_skip rfl rfl rfl rfl ?_
                refine z_skip rfl rfl rfl rfl ?_
                refine z_q rfl rfl (x_pickT rfl rfl rfl) rfl rfl rfl rfl rfl rfl ?_
                refine z_q rfl rfl (ex_pure htab rfl) rfl rfl rfl rfl rfl rfl ?_
                refine z_skip rfl rfl rfl rfl ?_
                refine z_skip rfl rfl rfl rfl ?_
                refine z_skip rfl rfl rfl rfl ?_
                refine z_skip rfl rfl rfl rfl ?_
                refine z_skip rfl rfl rfl rfl ?_
                refine z_skip rfl rfl rfl rfl ?_
                refine z_skip rfl rfl rfl rfl ?_
                refine z_skip rfl rfl rfl rfl ?_
                refine z_skip rfl rfl rfl rfl ?_
                refine z_skip rfl rfl rfl rfl ?_
                refine z_skip rfl rfl rfl rfl ?_
                refine z_skip rfl rfl rfl rfl ?_
                refine z_skip rfl rfl rfl rfl ?_
                refine z_skip rfl rfl rfl rfl ?_
                refine z_q rfl rfl (x_pickT rfl rfl rfl) rfl rfl rfl rfl rfl rfl ?_
                refine z_q rfl rfl (ex_pure htab rfl) rfl rfl rfl rfl rfl rfl ?_
                refine z_skip rfl rfl rfl rfl ?_
                refine z_skip rfl rfl rfl rfl ?_
                refine z_skip rfl rfl rfl rfl ?_
                refine z_skip rfl rfl rfl rfl ?_
                refine z_skip rfl rfl rfl rfl ?_
                refine z_skip rfl rfl rfl rfl ?_
                refine z_skip rfl rfl rfl rfl ?_
                refine z_skip rfl rfl rfl rfl ?_
                refine z_skip rfl rfl rfl rfl ?_
                refine z_skip rfl rfl rfl rfl ?_
                refine z_skip rfl rfl rfl rfl ?_
                refine z_nil rfl rfl (fun e he => by simp [isAl] at he) ?_
                refine p_skip rfl rfl rfl ?_
                refine p_skip rfl rfl rfl ?_
                refine p_pickT rfl rfl rfl rfl rfl rfl ?_
                refine ops_nil ?_
                have e237 := yes_eq hm; subst e237
                refine ⟨rfl, ?_⟩
                exact WkX.of () (WkS.perm (WkS.cons rfl (Wk.refl _) (WkS.cons rfl (Wk.refl _) (WkS.cons rfl (Wk.refl _) (WkS.cons rfl (Wk.refl _) (WkS.cons rfl (Wk.refl _) (WkS.nil)))))) (List.Perm.refl _) (List.Perm.refl _))
              · replace hm := yes_f hs243 hm
                obtain ⟨x244, q244, hm⟩ := yes_bind hm
                obtain ⟨x245, q245, hm⟩ := yes_bind hm
                refine bycB (!decide (x244.gName = x245.gName)) (fun hs246 => ?_) (fun hs246 => ?_)
                · replace hm := yes_t hs246 hm
                  refine wpD_draws 65 [] nlFl3_6 [0,2,3,5,7,8,12,14,15,17,19,20,25,27,28,30,32,33] nlFl3_4 (by kernel_rfl) (by kernel_rfl) (by kernel_rfl) (by rfl) (by rfl) (by kernel_rfl) ?_
                  apply Exists.intro
                  apply Exists.intro
                  apply Exists.intro
                  apply Exists.intro
                  apply Exists.intro
                  apply Exists.intro
                  apply Exists.intro
                  apply Exists.intro
                  apply Exists.intro
                  apply Exists.intro
                  apply Exists.intro
                  apply Exists.intro
                  apply Exists.intro
                  apply Exists.intro
                  apply Exists.intro
                  apply Exists.intro
                  apply Exists.intro
                  apply Exists.intro
                  intro bs
                  refine z_e rfl rfl (ex_pure htab rfl) rfl rfl rfl rfl rfl rfl ?_
                  refine z_q rfl rfl (ex_pure htab rfl) rfl rfl rfl rfl rfl rfl ?_
                  refine z_e rfl rfl (Ex.wk (x_elem htab rfl rfl rfl rfl rfl rfl rfl (idx_nonneg q238) (idx_map q238)) (Wk.of_eq (congrArg D.el (eTApiExpr_eq x238)))) rfl rfl rfl rfl rfl rfl ?_
                  refine z_e rfl rfl (ex_pure htab rfl) rfl rfl rfl rfl rfl rfl ?_
                  refine z_qM rfl rfl (xm_loadEl htab rfl rfl rfl rfl rfl) rfl rfl rfl rfl rfl rfl ?_
                  refine z_e rfl rfl (ex_pure htab rfl) rfl rfl rfl rfl rfl rfl ?_
                  refine z_q rfl rfl (ex_pure htab rfl) rfl rfl rfl rfl rfl rfl ?_
                  refine z_e rfl rfl (Ex.wk (x_elem htab rfl rfl rfl rfl rfl rfl rfl (idx_nonneg q239) (idx_map q239)) (Wk.of_eq (congrArg D.el (eTApiExpr_eq x239)))) rfl rfl rfl rfl rfl rfl ?_
                  refine z_e rfl rfl (ex_pure htab rfl) rfl rfl rfl rfl rfl rfl ?_
                  refine z_qM rfl rfl (xm_loadEl htab rfl rfl rfl rfl rfl) rfl rfl rfl rfl rfl rfl ?_
                  refine z_q rfl rfl (ex_pure htab rfl) rfl rfl rfl rfl rfl rfl ?_
                  refine z_q rfl rfl (ex_pure htab rfl) rfl rfl rfl rfl rfl rfl ?_
                  refine z_known (j := 30) (b' := false) rfl hs240 ?_
                  refine z_e rfl rfl (ex_pure htab rfl) rfl rfl rfl rfl rfl rfl ?_
                  refine z_q rfl rfl (ex_pure htab rfl) rfl rfl rfl rfl rfl rfl ?_
                  refine z_e rfl rfl (Ex.wk (x_elem htab rfl rfl rfl rfl rfl rfl rfl (idx_nonneg q241) (idx_map q241)) (Wk.of_eq (congrArg D.el (eTApiExpr_eq x241)))) rfl rfl rfl rfl rfl rfl ?_
                  refine z_e rfl rfl (ex_pure htab rfl) rfl rfl rfl rfl rfl rfl ?_
                  refine z_qM rfl rfl (xm_loadEl htab rfl rfl rfl rfl rfl) rfl rfl rfl rfl rfl rfl ?_
                  refine z_e rfl rfl (ex_pure htab rfl) rfl rfl rfl rfl rfl rfl ?_
                  refine z_q rfl rfl (ex_pure htab rfl) rfl rfl rfl rfl rfl rfl ?_
                  refine z_e rfl rfl (Ex.wk (x_elem htab rfl rfl rfl rfl rfl rfl rfl (idx_nonneg q242) (idx_map q242)) (Wk.of_eq (congrArg D.el (eTApiExpr_eq x242)))) rfl rfl rfl rfl rfl rfl ?_
                  refine z_e rfl rfl (ex_pure htab rfl) rfl rfl rfl rfl rfl rfl ?_
                  refine z_qM rfl rfl (xm_loadEl htab rfl rfl rfl rfl rfl) rfl rfl rfl rfl rfl rfl ?_
                  refine z_q rfl rfl (ex_pure htab rfl) rfl rfl rfl rfl rfl rfl ?_
                  refine z_q rfl rfl (x_pickF rfl rfl rfl) rfl rfl rfl rfl rfl rfl ?_
                  refine z_q rfl rfl (ex_pure htab rfl) rfl rfl rfl rfl rfl rfl ?_
                  refine z_known (j := 43) (b' := false) rfl hs243 ?_
                  refine z_e rfl rfl (ex_pure htab rfl) rfl rfl rfl rfl rfl rfl ?_
                  refine z_q rfl rfl (ex_pure htab rfl) rfl rfl rfl rfl rfl rfl ?_
                  refine z_e rfl rfl (Ex.wk (x_elem htab rfl rfl rfl rfl rfl rfl rfl (idx_nonneg q244) (idx_map q244)) (Wk.of_eq (congrArg D.el (eTApiExpr_eq x244)))) rfl rfl rfl rfl rfl rfl ?_
                  refine z_e rfl rfl (ex_pure htab rfl) rfl rfl rfl rfl rfl rfl ?_
                  refine z_qM rfl rfl (xm_loadEl htab rfl rfl rfl rfl rfl) rfl rfl rfl rfl rfl rfl ?_
                  refine z_e rfl rfl (ex_pure htab rfl) rfl rfl rfl rfl rfl rfl ?_
                  refine z_q rfl rfl (ex_pure htab rfl) rfl rfl rfl rfl rfl rfl ?_
                  refine z_e rfl rfl (Ex.wk (x_elem htab rfl rfl rfl rfl rfl rfl rfl (idx_nonneg q245) (idx_map q245)) (Wk.of_eq (congrArg D.el (eTApiExpr_eq x245)))) rfl rfl rfl rfl rfl rfl ?_
                  refine z_e rfl rfl (ex_pure htab rfl) rfl rfl rfl rfl rfl rfl ?_
                  refine z_qM rfl rfl (xm_loadEl htab rfl rfl rfl rfl rfl) rfl rfl rfl rfl rfl rfl ?_
                  refine z_q rfl rfl (ex_pure htab rfl) rfl rfl rfl rfl rfl rfl ?_
                  refine z_q rfl rfl (x_pickF rfl rfl rfl) rfl rfl rfl rfl rfl rfl ?_
                  refine z_q rfl rfl (ex_pure htab rfl) rfl rfl rfl rfl rfl rfl ?_
                  refine z_known (j := 56) (b' := true) rfl hs246 ?_
                  refine z_skip rfl rfl rfl rfl ?_
                  refine z_skip rfl rfl rfl rfl ?_
                  refine z_skip rfl rfl rfl rfl ?_
                  refine z_skip rfl rfl rfl rfl ?_
                  refine z_skip rfl rfl rfl rfl ?_
                  refine z_skip rfl rfl rfl rfl ?_
                  refine z_skip rfl rfl rfl rfl ?_
                  refine z_skip rfl rfl rfl rfl ?_
                  refine z_skip rfl rfl rfl rfl ?_
                  refine z_skip rfl rfl rfl rfl ?_
                  refine z_skip rfl rfl rfl rfl ?_
                  refine z_skip rfl rfl rfl rfl ?_
                  refine z_skip rfl rfl rfl rfl ?_
                  refine z_skip rfl rfl rfl rfl ?_
                  refine z_q rfl rfl (x_pickT rfl rfl rfl) rfl rfl rfl rfl rfl rfl ?_
                  refine z_q rfl rfl (ex_pure htab rfl) rfl rfl rfl rfl rfl rfl ?_
                  refine z_skip rfl rfl rfl rfl ?_
                  refine z_skip rfl rfl rfl rfl ?_
                  refine z_skip rfl rfl rfl rfl ?_
                  refine z_skip rfl rfl rfl rfl ?_
                  refine z_skip rfl rfl rfl rfl ?_
                  refine z_skip rfl rfl rfl rfl ?_
                  refine z_skip rfl rfl rfl rfl ?_
                  refine z_skip rfl rfl rfl rfl ?_
                  refine z_skip rfl rfl rfl rfl ?_
                  refine z_skip rfl rfl rfl rfl ?_
                  refine z_skip rfl rfl rfl rfl ?_
                  refine z_nil rfl rfl (fun e he => by simp [isAl] at he) ?_
                  refine p_skip rfl rfl rfl ?_
                  refine p_skip rfl rfl rfl ?_
                  refine p_pickT rfl rfl rfl rfl rfl rfl ?_
                  refine ops_nil ?_
                  have e237 := yes_eq hm; subst e237
                  refine ⟨rfl, ?_⟩
                  exact WkX.of () (WkS.perm (WkS.cons rfl (Wk.refl _) (WkS.cons rfl (Wk.refl _) (WkS.cons rfl (Wk.refl _) (WkS.cons rfl (Wk.refl _) (WkS.cons rfl (Wk.refl _) (WkS.nil)))))) (List.Perm.refl _) (List.Perm.refl _))
                · replace hm := yes_f hs246 hm
                  refine bycB a2 (fun hs247 => ?_) (fun hs247 => ?_)
                  · replace hm := yes_t hs247 hm
                    obtain ⟨x248, q248, hm⟩ := yes_bind hm
                    obtain ⟨x249, q249, hm⟩ := yes_bind hm
                    refine bycB (x248.gAt != x249.gAt) (fun hs250 => ?_) (fun hs250 => ?_)
                    · replace hm := yes_t hs250 hm
                      refine wpD_draws 65 [] nlFl3_7 [0,2,3,5,7,8,12,14,15,17,19,20,25,27,28,30,32,33,40,42,43,45,47,48] nlFl3_4 (by kernel_rfl) (by kernel_rfl) (by kernel_rfl) (by rfl) (by rfl) (by kernel_rfl) ?_
                      apply Exists.intro
                      apply Exists.intro
                      apply Exists.intro
                      apply Exists.intro
                      apply Exists.intro
                      apply Exists.intro
                      apply Exists.intro
                      apply Exists.intro
                      apply Exists.intro
                      apply Exists.intro
                      apply Exists.intro
                      apply Exists.intro
                      apply Exists.intro
                      apply Exists.intro
                      apply Exists.intro
                      apply Exists.intro
                      apply Exists.intro
                      apply Exists.intro
                      apply Exists.intro
                      apply Exists.intro
                      apply Exists.intro
                      apply Exists.intro
                      apply Exists.intro
                      apply Exists.intro
                      intro bs
                      refine z_e rfl rfl (ex_pure htab rfl) rfl rfl rfl rfl rfl rfl ?_
                      refine z_q rfl rfl (ex_pure htab rfl) rfl rfl rfl rfl rfl rfl ?_
                      refine z_e rfl rfl (Ex.wk (x_elem htab rfl rfl rfl rfl rfl rfl rfl (idx_nonneg q238) (idx_map q238)) (Wk.of_eq (congrArg D.el (eTApiExpr_eq x238)))) rfl rfl rfl rfl rfl rfl ?_
                      refine z_e rfl rfl (ex_pure htab rfl) rfl rfl rfl rfl rfl rfl ?_
                      refine z_qM rfl rfl (xm_loadEl htab rfl rfl rfl rfl rfl) rfl rfl rfl rfl rfl rfl ?_
                      refine z_e rfl rfl (ex_pure htab rfl) rfl rfl rfl rfl rfl rfl ?_
                      refine z_q rfl rfl (ex_pure htab rfl) rfl rfl rfl rfl rfl rfl ?_
                      refine z_e rfl rfl (Ex.wk (x_elem htab rfl rfl rfl rfl rfl rfl rfl (idx_nonneg q239) (idx_map q239)) (Wk.of_eq (congrArg D.el (eTApiExpr_eq x239)))) rfl rfl rfl rfl rfl rfl ?_
                      refine z_e rfl rfl (ex_pure htab rfl) rfl rfl rfl rfl rfl rfl ?_
                      refine z_qM rfl rfl (xm_loadEl htab rfl rfl rfl rfl rfl) rfl rfl rfl rfl rfl rfl ?_
                      refine z_q rfl rfl (ex_pure htab rfl) rfl rfl rfl rfl rfl rfl ?_
                      refine z_q rfl rfl (ex_pure htab rfl) rfl rfl rfl rfl rfl rfl ?_
                      refine z_known (j := 30) (b' := false) rfl hs240 ?_
                      refine z_e rfl rfl (ex_pure htab rfl) rfl rfl rfl rfl rfl rfl ?_
                      refine z_q rfl rfl (ex_pure htab rfl) rfl rfl rfl rfl rfl rfl ?_
                      refine z_e rfl rfl (Ex.wk (x_elem htab rfl rfl rfl rfl rfl rfl rfl (idx_nonneg q241) (idx_map q241)) (Wk.of_eq (congrArg D.el (eTApiExpr_eq x241)))) rfl rfl rfl rfl rfl rfl ?_
                      refine z_e rfl rfl (ex_pure htab rfl) rfl rfl rfl rfl rfl rfl ?_
                      refine z_qM rfl rfl (xm_loadEl htab rfl rfl rfl rfl rfl) rfl rfl rfl rfl rfl rfl ?_
                      refine z_e rfl rfl (ex_pure htab rfl) rfl rfl rfl rfl rfl rfl ?_
                      refine z_q rfl rfl (ex_pure htab rfl) rfl rfl rfl rfl rfl rfl ?_
                      refine z_e rfl rfl (Ex.wk (x_elem htab rfl rfl rfl rfl rfl rfl rfl (idx_nonneg q242) (idx_map q242)) (Wk.of_eq (congrArg D.el (eTApiExpr_eq x242)))) rfl rfl rfl rfl rfl rfl ?_
                      refine z_e rfl rfl (ex_pure htab rfl) rfl rfl rfl rfl rfl rfl ?_
                      refine z_qM rfl rfl (xm_loadEl htab rfl rfl rfl rfl rfl) rfl rfl rfl rfl rfl rfl ?_
                      refine z_q rfl rfl (ex_pure htab rfl) rfl rfl rfl rfl rfl rfl ?_
                      refine z_q rfl rfl (x_pickF rfl rfl rfl) rfl rfl rfl rfl rfl rfl ?_
                      refine z_q rfl rfl (ex_pure htab rfl) rfl rfl rfl rfl rfl rfl ?_
                      refine z_known (j := 43) (b' := false) rfl hs243 ?_
                      refine z_e rfl rfl (ex_pure htab rfl) rfl rfl rfl rfl rfl rfl ?_
                      refine z_q rfl rfl (ex_pure htab rfl) rfl rfl rfl rfl rfl rfl ?_
                      refine z_e rfl rfl (Ex.wk (x_elem htab rfl rfl rfl rfl rfl rfl rfl (idx_nonneg q244) (idx_map q244)) (Wk.of_eq (congrArg D.el (eTApiExpr_eq x244)))) rfl rfl rfl rfl rfl rfl ?_
                      refine z_e rfl rfl (ex_pure htab rfl) rfl rfl rfl rfl rfl rfl ?_
                      refine z_qM rfl rfl (xm_loadEl htab rfl rfl rfl rfl rfl) rfl rfl rfl rfl rfl rfl ?_
                      refine z_e rfl rfl (ex_pure htab rfl) rfl rfl rfl rfl rfl rfl ?_
                      refine z_q rfl rfl (ex_pure htab rfl) rfl rfl rfl rfl rfl rfl ?_
                      refine z_e rfl rfl (Ex.wk (x_elem htab rfl rfl rfl rfl rfl rfl rfl (idx_nonneg q245) (idx_map q245)) (Wk.of_eq (congrArg D.el (eTApiExpr_eq x245)))) rfl rfl rfl rfl rfl rfl ?_
                      refine z_e rfl rfl (ex_pure htab rfl) rfl rfl rfl rfl rfl rfl ?_
                      refine z_qM rfl rfl (xm_loadEl htab rfl rfl rfl rfl rfl) rfl rfl rfl rfl rfl rfl ?_
                      refine z_q rfl rfl (ex_pure htab rfl) rfl rfl rfl rfl rfl rfl ?_
                      refine z_q rfl rfl (x_pickF rfl rfl rfl) rfl rfl rfl rfl rfl rfl ?_
                      refine z_q rfl rfl (ex_pure htab rfl) rfl rfl rfl rfl rfl rfl ?_
                      refine z_known (j := 56) (b' := false) rfl hs246 ?_
                      refine z_q rfl rfl (ex_pure htab rfl) rfl rfl rfl rfl rfl rfl ?_
                      refine z_q rfl rfl (ex_pure htab rfl) rfl rfl rfl rfl rfl rfl ?_
                      refine z_known (j := 58) (b' := true) rfl hs247 ?_
                      refine z_e rfl rfl (ex_pure htab rfl) rfl rfl rfl rfl rfl rfl ?_
                      refine z_q rfl rfl (ex_pure htab rfl) rfl rfl rfl rfl rfl rfl ?_
                      refine z_e rfl rfl (Ex.wk (x_elem htab rfl rfl rfl rfl rfl rfl rfl (idx_nonneg q248) (idx_map q248)) (Wk.of_eq (congrArg D.el (eTApiExpr_eq x248)))) rfl rfl rfl rfl rfl rfl ?_
                      refine z_e rfl rfl (ex_pure htab rfl) rfl rfl rfl rfl rfl rfl ?_
                      refine z_qM rfl rfl (xm_loadEl htab rfl rfl rfl rfl rfl) rfl rfl rfl rfl rfl rfl ?_
                      refine z_e rfl rfl (ex_pure htab rfl) rfl rfl rfl rfl rfl rfl ?_
                      refine z_q rfl rfl (ex_pure htab rfl) rfl rfl rfl rfl rfl rfl ?_
                      refine z_e rfl rfl (Ex.wk (x_elem htab rfl rfl rfl rfl rfl rfl rfl (idx_nonneg q249) (idx_map q249)) (Wk.of_eq (congrArg D.el (eTApiExpr_eq x249)))) rfl rfl rfl rfl rfl rfl ?_
                      refine z_e rfl rfl (ex_pure htab rfl) rfl rfl rfl rfl rfl rfl ?_
                      refine z_qM rfl rfl (xm_loadEl htab rfl rfl rfl rfl rfl) rfl rfl rfl rfl rfl rfl ?_
                      refine z_q rfl rfl (ex_pure htab rfl) rfl rfl rfl rfl rfl rfl ?_
                      refine z_q rfl rfl (x_pickT rfl rfl rfl) rfl rfl rfl rfl rfl rfl ?_
                      refine z_q rfl rfl (x_pickF rfl rfl rfl) rfl rfl rfl rfl rfl rfl ?_
                      refine z_q rfl rfl (ex_pure htab rfl) rfl rfl rfl rfl rfl rfl ?_
                      refine z_known (j := 72) (b' := true) rfl hs250 ?_
                      refine z_skip rfl rfl rfl rfl ?_
                      refine z_skip rfl rfl rfl rfl ?_
                      refine z_skip rfl rfl rfl rfl ?_
                      refine z_skip rfl rfl rfl rfl ?_
                      refine z_skip rfl rfl rfl rfl ?_
                      refine z_skip rfl rfl rfl rfl ?_
                      refine z_skip rfl rfl rfl rfl ?_
                      refine z_skip rfl rfl rfl rfl ?_
                      refine z_skip rfl rfl rfl rfl ?_
                      refine z_skip rfl rfl rfl rfl ?_
                      refine z_skip rfl rfl rfl rfl ?_
                      refine z_nil rfl rfl (fun e he => by simp [isAl] at he) ?_
                      refine p_skip rfl rfl rfl ?_
                      refine p_skip rfl rfl rfl ?_
                      refine p_pickT rfl rfl rfl rfl rfl rfl ?_
                      refine ops_nil ?_
                      have e237 := yes_eq hm; subst e237
                      refine ⟨rfl, ?_⟩
                      exact WkX.of () (WkS.perm (WkS.cons rfl (Wk.refl _) (WkS.cons rfl (Wk.refl _) (WkS.cons rfl (Wk.refl _) (WkS.cons rfl (Wk.refl _) (WkS.cons rfl (Wk.refl _) (WkS.nil)))))) (List.Perm.refl _) (List.Perm.refl _))
                    · replace hm := yes_f hs250 hm
                      obtain ⟨x251, q251, hm⟩ := yes_bind hm
                      obtain ⟨x252, q252, hm⟩ := yes_bind hm
                      refine wpD_draws 65 [] nlFl3_8 [0,2,3,5,7,8,12,14,15,17,19,20,25,27,28,30,32,33,40,42,43,45,47,48,54,56,57,58,59,61,62,63] nlFl3_4 (by kernel_rfl) (by kernel_rfl) (by kernel_rfl) (by rfl) (by rfl) (by kernel_rfl) ?_
                      apply Exists.intro
                      apply Exists.intro
                      apply Exists.intro
                      apply Exists.intro
                      apply Exists.intro
                      apply Exists.intro
                      apply Exists.intro
                      apply Exists.intro
                      apply Exists.intro
                      apply Exists.intro
                      apply Exists.intro
                      apply Exists.intro
                      apply Exists.intro
                      apply Exists.intro
                      apply Exists.intro
                      apply Exists.intro
                      apply Exists.intro
                      apply Exists.intro
                      apply Exists.intro
                      apply Exists.intro
                      apply Exists.intro
                      apply Exists.intro
                      apply Exists.intro
                      apply Exists.intro
                      apply Exists.intro
                      apply Exists.intro
                      apply Exists.intro
                      apply Exists.intro
                      apply Exists.intro
                      apply Exists.intro
                      apply Exists.intro
                      apply Exists.intro
                      intro bs
                      refine z_e rfl rfl (ex_pure htab rfl) rfl rfl rfl rfl rfl rfl ?_
                      refine z_q rfl rfl (ex_pure htab rfl) rfl rfl rfl rfl rfl rfl ?_
                      refine z_e rfl rfl (Ex.wk (x_elem htab rfl rfl rfl rfl rfl rfl rfl (idx_nonneg q238) (idx_map q238)) (Wk.of_eq (congrArg D.el (eTApiExpr_eq x238)))) rfl rfl rfl rfl rfl rfl ?_
                      refine z_e rfl rfl (ex_pure htab rfl) rfl rfl rfl rfl rfl rfl ?_
                      refine z_qM rfl rfl (xm_loadEl htab rfl rfl rfl rfl rfl) rfl rfl rfl rfl rfl rfl ?_
                      refine z_e rfl rfl (ex_pure htab rfl) rfl rfl rfl rfl rfl rfl ?_
                      refine z_q rfl rfl (ex_pure htab rfl) rfl rfl rfl rfl rfl rfl ?_
                      refine z_e rfl rfl (Ex.wk (x_elem htab rfl rfl rfl rfl rfl rfl rfl (idx_nonneg q239) (idx_map q239)) (Wk.of_eq (congrArg D.el (eTApiExpr_eq x239)))) rfl rfl rfl rfl rfl rfl ?_
                      refine z_e rfl rfl (ex_pure htab rfl) rfl rfl rfl rfl rfl rfl ?_
                      refine z_qM rfl rfl (xm_loadEl htab rfl rfl rfl rfl rfl) rfl rfl rfl rfl rfl rfl ?_
                      refine z_q rfl rfl (ex_pure htab rfl) rfl rfl rfl rfl rfl rfl ?_
                      refine z_q rfl rfl (ex_pure htab rfl) rfl rfl rfl rfl rfl rfl ?_
                      refine z_known (j := 30) (b' := false) rfl hs240 ?_
                      refine z_e rfl rfl (ex_pure htab rfl) rfl rfl rfl rfl rfl rfl ?_
                      refine z_q rfl rfl (ex_pure htab rfl) rfl rfl rfl rfl rfl rfl ?_
                      refine z_e rfl rfl (Ex.wk (x_elem htab rfl rfl rfl rfl rfl rfl rfl (idx_nonneg q241) (idx_map q241)) (Wk.of_eq (congrArg D.el (eTApiExpr_eq x241)))) rfl rfl rfl rfl rfl rfl ?_
                      refine z_e rfl rfl (ex_pure htab rfl) rfl rfl rfl rfl rfl rfl ?_
                      refine z_qM rfl rfl (xm_loadEl htab rfl rfl rfl rfl rfl) rfl rfl rfl rfl rfl rfl ?_
                      refine z_e rfl rfl (ex_pure htab rfl) rfl rfl rfl rfl rfl rfl ?_
                      refine z_q rfl rfl (ex_pure htab rfl) rfl rfl rfl rfl rfl rfl ?_
                      refine z_e rfl rfl (Ex.wk (x_elem htab rfl rfl rfl rfl rfl rfl rfl (idx_nonneg q242) (idx_map q242)) (Wk.of_eq (congrArg D.el (eTApiExpr_eq x242)))) rfl rfl rfl rfl rfl rfl ?_
                      refine z_e rfl rfl (ex_pure htab rfl) rfl rfl rfl rfl rfl rfl ?_
                      refine z_qM rfl rfl (xm_loadEl htab rfl rfl rfl rfl rfl) rfl rfl rfl rfl rfl rfl ?_
                      refine z_q rfl rfl (ex_pure htab rfl) rfl rfl rfl rfl rfl rfl ?_
                      refine z_q rfl rfl (x_pickF rfl rfl rfl) rfl rfl rfl rfl rfl rfl ?_
                      refine z_q rfl rfl (ex_pure htab rfl) rfl rfl rfl rfl rfl rfl ?_
                      refine z_known (j := 43) (b' := false) rfl hs243 ?_
                      refine z_e rfl rfl (ex_pure htab rfl) rfl rfl rfl rfl rfl rfl ?_
                      refine z_q rfl rfl (ex_pure htab rfl) rfl rfl rfl rfl rfl rfl ?_
                      refine z_e rfl rfl (Ex.wk (x_elem htab rfl rfl rfl rfl rfl rfl rfl (idx_nonneg q244) (idx_map q244)) (Wk.of_eq (congrArg D.el (eTApiExpr_eq x244)))) rfl rfl rfl rfl rfl rfl ?_
                      refine z_e rfl rfl (ex_pure htab rfl) rfl rfl rfl rfl rfl rfl ?_
                      refine z_qM rfl rfl (xm_loadEl htab rfl rfl rfl rfl rfl) rfl rfl rfl rfl rfl rfl ?_
                      refine z_e rfl rfl (ex_pure htab rfl) rfl rfl rfl rfl rfl rfl ?_
                      refine z_q rfl rfl (ex_pure htab rfl) rfl rfl rfl rfl rfl rfl ?_
                      refine z_e rfl rfl (Ex.wk (x_elem htab rfl rfl rfl rfl rfl rfl rfl (idx_nonneg q245) (idx_map q245)) (Wk.of_eq (congrArg D.el (eTApiExpr_eq x245)))) rfl rfl rfl rfl rfl rfl ?_
                      refine z_e rfl rfl (ex_pure htab rfl) rfl rfl rfl rfl rfl rfl ?_
                      refine z_qM rfl rfl (xm_loadEl htab rfl rfl rfl rfl rfl) rfl rfl rfl rfl rfl rfl ?_
                      refine z_q rfl rfl (ex_pure htab rfl) rfl rfl rfl rfl rfl rfl ?_
                      refine z_q rfl rfl (x_pickF rfl rfl rfl) rfl rfl rfl rfl rfl rfl ?_
                      refine z_q rfl rfl (ex_pure htab rfl) rfl rfl rfl rfl rfl rfl ?_
                      refine z_known (j := 56) (b' := false) rfl hs246 ?_
                      refine z_q rfl rfl (ex_pure htab rfl) rfl rfl rfl rfl rfl rfl ?_
                      refine z_q rfl rfl (ex_pure htab rfl) rfl rfl rfl rfl rfl rfl ?_
                      refine z_known (j := 58) (b' := true) rfl hs247 ?_
                      refine z_e rfl rfl (ex_pure htab rfl) rfl rfl rfl rfl rfl rfl ?_
                      refine z_q rfl rfl (ex_pure htab rfl) rfl rfl rfl rfl rfl rfl ?_
                      refine z_e rfl rfl (Ex.wk (x_elem htab rfl rfl rfl rfl rfl rfl rfl (idx_nonneg q248) (idx_map q248)) (Wk.of_eq (congrArg D.el (eTApiExpr_eq x248)))) rfl rfl rfl rfl rfl rfl ?_
                      refine z_e rfl rfl (ex_pure htab rfl) rfl rfl rfl rfl rfl rfl ?_
                      refine z_qM rfl rfl (xm_loadEl htab rfl rfl rfl rfl rfl) rfl rfl rfl rfl rfl rfl ?_
                      refine z_e rfl rfl (ex_pure htab rfl) rfl rfl rfl rfl rfl rfl ?_
                      refine z_q rfl rfl (ex_pure htab rfl) rfl rfl rfl rfl rfl rfl ?_
                      refine z_e rfl rfl (Ex.wk (x_elem htab rfl rfl rfl rfl rfl rfl rfl (idx_nonneg q249) (idx_map q249)) (Wk.of_eq (congrArg D.el (eTApiExpr_eq x249)))) rfl rfl rfl rfl rfl rfl ?_
                      refine z_e rfl rfl (ex_pure htab rfl) rfl rfl rfl rfl rfl rfl ?_
                      refine z_qM rfl rfl (xm_loadEl htab rfl rfl rfl rfl rfl) rfl rfl rfl rfl rfl rfl ?_
                      refine z_q rfl rfl (ex_pure htab rfl) rfl rfl rfl rfl rfl rfl ?_
                      refine z_q rfl rfl (x_pickT rfl rfl rfl) rfl rfl rfl rfl rfl rfl ?_
                      refine z_q rfl rfl (x_pickF rfl rfl rfl) rfl rfl rfl rfl rfl rfl ?_
                      refine z_q rfl rfl (ex_pure htab rfl) rfl rfl rfl rfl rfl rfl ?_
                      refine z_known (j := 72) (b' := false) rfl hs250 ?_
                      refine z_e rfl rfl (ex_pure htab rfl) rfl rfl rfl rfl rfl rfl ?_
                      refine z_q rfl rfl (ex_pure htab rfl) rfl rfl rfl rfl rfl rfl ?_
                      refine z_e rfl rfl (Ex.wk (x_elem htab rfl rfl rfl rfl rfl rfl rfl (idx_nonneg q251) (idx_map q251)) (Wk.of_eq (congrArg D.el (eTApiExpr_eq x251)))) rfl rfl rfl rfl rfl rfl ?_
                      refine z_e rfl rfl (ex_pure htab rfl) rfl rfl rfl rfl rfl rfl ?_
                      refine z_eM rfl rfl (xm_loadEl htab rfl rfl rfl rfl rfl) rfl rfl rfl rfl rfl rfl ?_
                      refine z_e rfl rfl (ex_pure htab rfl) rfl rfl rfl rfl rfl rfl ?_
                      refine z_q rfl rfl (ex_pure htab rfl) rfl rfl rfl rfl rfl rfl ?_
                      refine z_e rfl rfl (Ex.wk (x_elem htab rfl rfl rfl rfl rfl rfl rfl (idx_nonneg q252) (idx_map q252)) (Wk.of_eq (congrArg D.el (eTApiExpr_eq x252)))) rfl rfl rfl rfl rfl rfl ?_
                      refine z_e rfl rfl (ex_pure htab rfl) rfl rfl rfl rfl rfl rfl ?_
                      refine z_eM rfl rfl (xm_loadEl htab rfl rfl rfl rfl rfl) rfl rfl rfl rfl rfl rfl ?_
                      refine z_q rfl rfl (ex_pure htab rfl) rfl rfl rfl rfl rfl rfl ?_
                      refine z_nil rfl rfl (fun e he => by simp [isAl] at he) ?_
                      obtain ⟨x253, q253, hm⟩ := yes_bind hm
                      refine p_call0 (hg0 x251.gKids x252.gKids a2 x253 q253) rfl rfl rfl rfl rfl (WkL.refl _) ?_
                      rintro _ rfl
                      refine p_pure htab rfl rfl rfl rfl ?_
                      refine p_pickF rfl rfl rfl rfl rfl rfl ?_
                      refine ops_nil ?_
                      have e237 := yes_eq hm; subst e237
                      refine ⟨rfl, ?_⟩
                      exact WkX.of () (WkS.perm (WkS.cons rfl (Wk.refl _) (WkS.cons rfl (Wk.refl _) (WkS.cons rfl (Wk.refl _) (WkS.cons rfl (Wk.refl _) (WkS.cons rfl (Wk.refl _) (WkS.nil)))))) (List.Perm.refl _) (List.Perm.refl _))
                  · replace hm := yes_f hs247 hm
                    obtain ⟨x254, q254, hm⟩ := yes_bind hm
                    obtain ⟨x255, q255, hm⟩ := yes_bind hm
                    refine wpD_draws 65 [] nlFl3_9 [0,2,3,5,7,8,12,14,15,17,19,20,25,27,28,30,32,33,54,56,57,58,59,61,62,63] nlFl3_4 (by kernel_rfl) (by kernel_rfl) (by kernel_rfl) (by rfl) (by rfl) (by kernel_rfl) ?_
                    apply Exists.intro
                    apply Exists.intro
                    apply Exists.intro
                    apply Exists.intro
                    apply Exists.intro
                    apply Exists.intro
                    apply Exists.intro
                    apply Exists.intro
                    apply Exists.intro
                    apply Exists.intro
                    apply Exists.intro
                    apply Exists.intro
                    apply Exists.intro
                    apply Exists.intro
                    apply Exists.intro
                    apply Exists.intro
                    apply Exists.intro
                    apply Exists.intro
                    apply Exists.intro
                    apply Exists.intro
                    apply Exists.intro
                    apply Exists.intro
                    apply Exists.intro
                    apply Exists.intro
                    apply Exists.intro
                    apply Exists.intro
                    intro bs
                    refine z_e rfl rfl (ex_pure htab rfl) rfl rfl rfl rfl rfl rfl ?_
                    refine z_q rfl rfl (ex_pure htab rfl) rfl rfl rfl rfl rfl rfl ?_
                    refine z_e rfl rfl (Ex.wk (x_elem htab rfl rfl rfl rfl rfl rfl rfl (idx_nonneg q238) (idx_map q238)) (Wk.of_eq (congrArg D.el (eTApiExpr_eq x238)))) rfl rfl rfl rfl rfl rfl ?_
                    refine z_e rfl rfl (ex_pure htab rfl) rfl rfl rfl rfl rfl rfl ?_
                    refine z_qM rfl rfl (xm_loadEl htab rfl rfl rfl rfl rfl) rfl rfl rfl rfl rfl rfl ?_
                    refine z_e rfl rfl (ex_pure htab rfl) rfl rfl rfl rfl rfl rfl ?_
                    refine z_q rfl rfl (ex_pure htab rfl) rfl rfl rfl rfl rfl rfl ?_
                    refine z_e rfl rfl (Ex.wk (x_elem htab rfl rfl rfl rfl rfl rfl rfl (idx_nonneg q239) (idx_map q239)) (Wk.of_eq (congrArg D.el (eTApiExpr_eq x239)))) rfl rfl rfl rfl rfl rfl ?_
                    refine z_e rfl rfl (ex_pure htab rfl) rfl rfl rfl rfl rfl rfl ?_
                    refine z_qM rfl rfl (xm_loadEl htab rfl rfl rfl rfl rfl) rfl rfl rfl rfl rfl rfl ?_
                    refine z_q rfl rfl (ex_pure htab rfl) rfl rfl rfl rfl rfl rfl ?_
                    refine z_q rfl rfl (ex_pure htab rfl) rfl rfl rfl rfl rfl rfl ?_
                    refine z_known (j := 30) (b' := false) rfl hs240 ?_
                    refine z_e rfl rfl (ex_pure htab rfl) rfl rfl rfl rfl rfl rfl ?_
                    refine z_q rfl rfl (ex_pure htab rfl) rfl rfl rfl rfl rfl rfl ?_
                    refine z_e rfl rfl (Ex.wk (x_elem htab rfl rfl rfl rfl rfl rfl rfl (idx_nonneg q241) (idx_map q241)) (Wk.of_eq (congrArg D.el (eTApiExpr_eq x241)))) rfl rfl rfl rfl rfl rfl ?_
                    refine z_e rfl rfl (ex_pure htab rfl) rfl rfl rfl rfl rfl rfl ?_
                    refine z_qM rfl rfl (xm_loadEl htab rfl rfl rfl rfl rfl) rfl rfl rfl rfl rfl rfl ?_
                    refine z_e rfl rfl (ex_pure htab rfl) rfl rfl rfl rfl rfl rfl ?_
                    refine z_q rfl rfl (ex_pure htab rfl) rfl rfl rfl rfl rfl rfl ?_
                    refine z_e rfl rfl (Ex.wk (x_elem htab rfl rfl rfl rfl rfl rfl rfl (idx_nonneg q242) (idx_map q242)) (Wk.of_eq (congrArg D.el (eTApiExpr_eq x242)))) rfl rfl rfl rfl rfl rfl ?_
                    refine z_e rfl rfl (ex_pure htab rfl) rfl rfl rfl rfl rfl rfl ?_
                    refine z_qM rfl rfl (xm_loadEl htab rfl rfl rfl rfl rfl) rfl rfl rfl rfl rfl rfl ?_
                    refine z_q rfl rfl (ex_pure htab rfl) rfl rfl rfl rfl rfl rfl ?_
                    refine z_q rfl rfl (x_pickF rfl rfl rfl) rfl rfl rfl rfl rfl rfl ?_
                    refine z_q rfl rfl (ex_pure htab rfl) rfl rfl rfl rfl rfl rfl ?_
                    refine z_known (j := 43) (b' := false) rfl hs243 ?_
                    refine z_e rfl rfl (ex_pure htab rfl) rfl rfl rfl rfl rfl rfl ?_
                    refine z_q rfl rfl (ex_pure htab rfl) rfl rfl rfl rfl rfl rfl ?_
                    refine z_e rfl rfl (Ex.wk (x_elem htab rfl rfl rfl rfl rfl rfl rfl (idx_nonneg q244) (idx_map q244)) (Wk.of_eq (congrArg D.el (eTApiExpr_eq x244)))) rfl rfl rfl rfl rfl rfl ?_
                    refine z_e rfl rfl (ex_pure htab rfl) rfl rfl rfl rfl rfl rfl ?_
                    refine z_qM rfl rfl (xm_loadEl htab rfl rfl rfl rfl rfl) rfl rfl rfl rfl rfl rfl ?_
                    refine z_e rfl rfl (ex_pure htab rfl) rfl rfl rfl rfl rfl rfl ?_
                    refine z_q rfl rfl (ex_pure htab rfl) rfl rfl rfl rfl rfl rfl ?_
                    refine z_e rfl rfl (Ex.wk (x_elem htab rfl rfl rfl rfl rfl rfl rfl (idx_nonneg q245) (idx_map q245)) (Wk.of_eq (congrArg D.el (eTApiExpr_eq x245)))) rfl rfl rfl rfl rfl rfl ?_
                    refine z_e rfl rfl (ex_pure htab rfl) rfl rfl rfl rfl rfl rfl ?_
                    refine z_qM rfl rfl (xm_loadEl htab rfl rfl rfl rfl rfl) rfl rfl rfl rfl rfl rfl ?_
                    refine z_q rfl rfl (ex_pure htab rfl) rfl rfl rfl rfl rfl rfl ?_
                    refine z_q rfl rfl (x_pickF rfl rfl rfl) rfl rfl rfl rfl rfl rfl ?_
                    refine z_q rfl rfl (ex_pure htab rfl) rfl rfl rfl rfl rfl rfl ?_
                    refine z_known (j := 56) (b' := false) rfl hs246 ?_
                    refine z_q rfl rfl (ex_pure htab rfl) rfl rfl rfl rfl rfl rfl ?_
                    refine z_q rfl rfl (ex_pure htab rfl) rfl rfl rfl rfl rfl rfl ?_
                    refine z_known (j := 58) (b' := false) rfl hs247 ?_
                    refine z_skip rfl rfl rfl rfl ?_
                    refine z_skip rfl rfl rfl rfl ?_
                    refine z_skip rfl rfl rfl rfl ?_
                    refine z_skip rfl rfl rfl rfl ?_
                    refine z_skip rfl rfl rfl rfl ?_
                    refine z_skip rfl rfl rfl rfl ?_
                    refine z_skip rfl rfl rfl rfl ?_
                    refine z_skip rfl rfl rfl rfl ?_
                    refine z_skip rfl rfl rfl rfl ?_
                    refine z_skip rfl rfl rfl rfl ?_
                    refine z_skip rfl rfl rfl rfl ?_
                    refine z_q rfl rfl (x_pickF rfl rfl rfl) rfl rfl rfl rfl rfl rfl ?_
                    refine z_q rfl rfl (x_pickF rfl rfl rfl) rfl rfl rfl rfl rfl rfl ?_
                    refine z_q rfl rfl (ex_pure htab rfl) rfl rfl rfl rfl rfl rfl ?_
                    refine z_e rfl rfl (ex_pure htab rfl) rfl rfl rfl rfl rfl rfl ?_
                    refine z_q rfl rfl (ex_pure htab rfl) rfl rfl rfl rfl rfl rfl ?_
                    refine z_e rfl rfl (Ex.wk (x_elem htab rfl rfl rfl rfl rfl rfl rfl (idx_nonneg q254) (idx_map q254)) (Wk.of_eq (congrArg D.el (eTApiExpr_eq x254)))) rfl rfl rfl rfl rfl rfl ?_
                    refine z_e rfl rfl (ex_pure htab rfl) rfl rfl rfl rfl rfl rfl ?_
                    refine z_eM rfl rfl (xm_loadEl htab rfl rfl rfl rfl rfl) rfl rfl rfl rfl rfl rfl ?_
                    refine z_e rfl rfl (ex_pure htab rfl) rfl rfl rfl rfl rfl rfl ?_
                    refine z_q rfl rfl (ex_pure htab rfl) rfl rfl rfl rfl rfl rfl ?_
                    refine z_e rfl rfl (Ex.wk (x_elem htab rfl rfl rfl rfl rfl rfl rfl (idx_nonneg q255) (idx_map q255)) (Wk.of_eq (congrArg D.el (eTApiExpr_eq x255)))) rfl rfl rfl rfl rfl rfl ?_
                    refine z_e rfl rfl (ex_pure htab rfl) rfl rfl rfl rfl rfl rfl ?_
                    refine z_eM rfl rfl (xm_loadEl htab rfl rfl rfl rfl rfl) rfl rfl rfl rfl rfl rfl ?_
                    refine z_q rfl rfl (ex_pure htab rfl) rfl rfl rfl rfl rfl rfl ?_
                    refine z_nil rfl rfl (fun e he => by simp [isAl] at he) ?_
                    obtain ⟨x256, q256, hm⟩ := yes_bind hm
                    refine p_call0 (hg0 x254.gKids x255.gKids a2 x256 q256) rfl rfl rfl rfl rfl (WkL.refl _) ?_
                    rintro _ rfl
                    refine p_pure htab rfl rfl rfl rfl ?_
                    refine p_pickF rfl rfl rfl rfl rfl rfl ?_
                    refine ops_nil ?_
                    have e237 := yes_eq hm; subst e237
                    refine ⟨rfl, ?_⟩
                    exact WkX.of () (WkS.perm (WkS.cons rfl (Wk.refl _) (WkS.cons rfl (Wk.refl _) (WkS.cons rfl (Wk.refl _) (WkS.cons rfl (Wk.refl _) (WkS.cons rfl (Wk.refl _) (WkS.nil)))))) (List.Perm.refl _) (List.Perm.refl _))
          · intro s237 hw237; clear hm; have hm := ho237; clear q237 ho237
            refine then_normal ?_
            refine wpD_wkX hw237 (fun z237 => ?_)
            refine wpD_cond rfl (fun hc257 => ?_) (fun hc257 => ?_)
            · replace hm := yes_t hc257 hm
              refine wpD_seq ?_
              refine wpD_region ?_
              refine p_pure htab rfl rfl rfl rfl ?_
              refine ops_nil ?_
              refine then_normal ?_
              refine wpD_ret ?_
              refine block_ret ?_
              refine then_ret ?_
              have e132 := lp_done hm; subst e132; clear hm; have hm := hq132
              refine then_ret ?_
              refine block_ret ?_
              have e131 := yes_eq hm; subst e131; refine midX_inr ?_; clear hm; have hm := ho131; simp only [Sum.elim_inr] at hm
              refine then_ret ?_
              have er258 := yes_eq hm; subst er258
              refine retX.of (s' := ⟨[(6, .v (.bool false))], [], []⟩) (WkS.perm (WkS.cons rfl (Wk.refl _) (WkS.nil)) (List.Perm.refl _) (List.Perm.refl _)) (retD_mk (hh := []) (.inl rfl) (resL_cons (resOne_tmp rfl) (resL_nil)) (List.nil_sublist _) (List.Sublist.refl _) ?_)
              exact ⟨rfl, rfl, rfl⟩
            · replace hm := yes_f hc257 hm
              refine wpD_skip ?_
              refine block_normal ?_
              refine then_normal ?_
              refine wpD_region ?_
              refine p_pure htab rfl rfl rfl rfl ?_
              refine p_pure htab rfl rfl rfl rfl ?_
              refine p_pure htab rfl rfl rfl rfl ?_
              refine ops_nil ?_
              refine then_normal ⟨_, lp_next hm, ?_⟩
              exact WkX.of () (WkS.perm (WkS.cons rfl (Wk.refl _) (WkS.cons rfl (Wk.refl _) (WkS.cons rfl (Wk.refl _) (WkS.cons rfl (Wk.refl _) (WkS.nil))))) (List.Perm.refl _) (List.Perm.refl _))
        · replace hm := yes_f hc217 hm
          refine wpD_exit ?_
          refine then_exit ?_
          have e132 := lp_done hm; subst e132; clear hm; have hm := hq132
          refine then_exit ?_
          refine block_hit ?_
          have e131 := yes_eq hm; subst e131
          refine midX_inl ?_
          exact WkX.of () (WkS.perm (WkS.nil) (List.Perm.refl _) (List.Perm.refl _))
    · intro y131 s131 hx131 hw131; subst hx131; clear hm; have hm := ho131; simp only [Sum.elim_inl] at hm; clear q131 ho131
      refine then_normal ?_
      refine wpD_wkX hw131 (fun z131 => ?_)
      refine wpD_seq ?_
      refine wpD_region ?_
      refine p_pure htab rfl rfl rfl rfl ?_
      refine ops_nil ?_
      refine then_normal ?_
      refine wpD_ret ?_
      have er259 := yes_eq hm; subst er259
      refine retX.of (s' := ⟨[(6, .v (.bool true))], [], []⟩) (WkS.perm (WkS.cons rfl (Wk.refl _) (WkS.nil)) (List.Perm.refl _) (List.Perm.refl _)) (retD_mk (hh := []) (.inl rfl) (resL_cons (resOne_tmp rfl) (resL_nil)) (List.nil_sublist _) (List.Sublist.refl _) ?_)
      exact ⟨rfl, rfl, rfl⟩
noncomputable def r11_Exps_g : Nat → ((List TApiExpr) → (List TApiExpr) → (Bool) → Option (Bool))
  | 0 => (fun _ _ _ => none)
  | n + 1 => (r11_Exps_b ((r11_Exps_g n)))
theorem r11_Exps_g_ok : ∀ n, (∀ (a0 : List TApiExpr) (a1 : List TApiExpr) (a2 : Bool) (r : Bool) (h0 : (r11_Exps_g n) a0 a1 a2 = some r), CallsD Try.prog 17 [.lst 5 (a0.map eTApiExpr) .no, .lst 5 (a1.map eTApiExpr) .no, .v (.bool a2)] [] [] (fun d h k => d = .v (.bool r) ∧ h = [] ∧ k = []))
  | 0 => fun _ _ _ _ h0 => by cases h0
  | n + 1 => by
    have ih := r11_Exps_g_ok n
    exact r11_Exps_b_ok (r11_Exps_g n) ih
theorem r11_Exps_g_le : ∀ n, (∀ (a0 : List TApiExpr) (a1 : List TApiExpr) (a2 : Bool), Le ((r11_Exps_g n) a0 a1 a2) ((r11_Exps_g (n + 1)) a0 a1 a2))
  | 0 => fun _ _ _ => Le.none _
  | n + 1 => by
    have ih := r11_Exps_g_le n
    exact fun a0 a1 a2 => by show Le (r11_Exps_b ((r11_Exps_g n)) a0 a1 a2) (r11_Exps_b ((r11_Exps_g (n + 1))) a0 a1 a2); unfold r11_Exps_b; repeat (first | exact Le.refl _ | exact ih _ _ _ | assumption | (refine Le.bind ?_ (fun _ => ?_)) | (refine Le.cond ?_ ?_) | (refine Le.loop (fun _ => ?_)) | (refine Le.elim (fun _ => ?_) (fun _ => ?_)))
noncomputable def r11_Exps (a0 : List TApiExpr) (a1 : List TApiExpr) (a2 : Bool) : Option (Bool) := anyN fun n => (r11_Exps_g n) a0 a1 a2
theorem r11_Exps_of (a0 : List TApiExpr) (a1 : List TApiExpr) (a2 : Bool) {r : Bool} (n : Nat) (h : (r11_Exps_g n) a0 a1 a2 = some r) : r11_Exps a0 a1 a2 = some r := anyN_of (fun m => (r11_Exps_g_le m) a0 a1 a2) h
theorem r11_Exps_ok (a0 : List TApiExpr) (a1 : List TApiExpr) (a2 : Bool) (r : Bool) (h0 : r11_Exps a0 a1 a2 = some r) : CallsD Try.prog 17 [.lst 5 (a0.map eTApiExpr) .no, .lst 5 (a1.map eTApiExpr) .no, .v (.bool a2)] [] [] (fun d h k => d = .v (.bool r) ∧ h = [] ∧ k = []) :=
  let ⟨n, hn⟩ := anyN_inv h0; (r11_Exps_g_ok n) a0 a1 a2  r hn
noncomputable def r17_SameEdge (a0 : TApiEdge) (a1 : TApiEdge) : Option (Bool) :=
  (bif (a0.gFrom == a1.gFrom) then (bif (a0.gTo == a1.gTo) then (bif (a0.gKind == a1.gKind) then (bif (decide (a0.gName = a1.gName)) then (bif (decide (a0.gFunc = a1.gFunc)) then ((r11_Exps a0.gExps a1.gExps true).bind fun x8 => some x8) else some false) else some false) else some false) else some false) else some false)
set_option maxRecDepth 100000 in
set_option maxHeartbeats 2000000 in
theorem r17_SameEdge_ok (a0 : TApiEdge) (a1 : TApiEdge) (r : Bool) (h0 : r17_SameEdge a0 a1 = some r) : CallsD Try.prog 14 [eTApiEdge a0, eTApiEdge a1] [] [] (fun d h k => d = .v (.bool r) ∧ h = [] ∧ k = []) := by
  have hm := yes_of h0
  unfold r17_SameEdge at hm
  clear h0
  refine enterX htab Try.func14 rfl rfl rfl rfl rfl (fun C => ?_)
  refine wpD_seq ?_
  refine wpD_region ?_
  refine p_box rfl rfl rfl rfl rfl rfl rfl (fun b1 => ?_)
  refine p_box rfl rfl rfl rfl rfl rfl rfl (fun b2 => ?_)
  refine p_pure htab rfl rfl rfl rfl ?_
  refine ops_nil ?_
  refine then_normal ?_
  refine wpD_seq ?_
  refine wpD_region ?_
  refine p_pure htab rfl rfl rfl rfl ?_
  refine p_load 0 htab rfl rfl rfl rfl rfl rfl rfl rfl ?_
  refine p_pure htab rfl rfl rfl rfl ?_
  refine p_load 1 htab rfl rfl rfl rfl rfl rfl rfl rfl ?_
  refine p_pure htab rfl rfl rfl rfl ?_
  refine p_pure htab rfl rfl rfl rfl ?_
  refine p_split (i := 10) rfl (fun hg3 => ?_) (fun hg3 => ?_)
  · replace hm := yes_t hg3 hm
    refine p_pure htab rfl rfl rfl rfl ?_
    refine p_load 0 htab rfl rfl rfl rfl rfl rfl rfl rfl ?_
    refine p_pure htab rfl rfl rfl rfl ?_
    refine p_load 1 htab rfl rfl rfl rfl rfl rfl rfl rfl ?_
    refine p_pure htab rfl rfl rfl rfl ?_
    refine p_pickT rfl rfl rfl rfl rfl rfl ?_
    refine p_pure htab rfl rfl rfl rfl ?_
    refine p_split (i := 17) rfl (fun hg4 => ?_) (fun hg4 => ?_)
    · replace hm := yes_t hg4 hm
      refine p_pure htab rfl rfl rfl rfl ?_
      refine p_load 0 htab rfl rfl rfl rfl rfl rfl rfl rfl ?_
      refine p_pure htab rfl rfl rfl rfl ?_
      refine p_load 1 htab rfl rfl rfl rfl rfl rfl rfl rfl ?_
      refine p_pure htab rfl rfl rfl rfl ?_
      refine p_pickT rfl rfl rfl rfl rfl rfl ?_
      refine p_pure htab rfl rfl rfl rfl ?_
      refine p_split (i := 24) rfl (fun hg5 => ?_) (fun hg5 => ?_)
      · replace hm := yes_t hg5 hm
        refine p_pure htab rfl rfl rfl rfl ?_
        refine p_load 0 htab rfl rfl rfl rfl rfl rfl rfl rfl ?_
        refine p_pure htab rfl rfl rfl rfl ?_
        refine p_load 1 htab rfl rfl rfl rfl rfl rfl rfl rfl ?_
        refine p_pure htab rfl rfl rfl rfl ?_
        refine p_pickT rfl rfl rfl rfl rfl rfl ?_
        refine p_pure htab rfl rfl rfl rfl ?_
        refine p_split (i := 31) rfl (fun hg6 => ?_) (fun hg6 => ?_)
        · replace hm := yes_t hg6 hm
          refine p_pure htab rfl rfl rfl rfl ?_
          refine p_load 0 htab rfl rfl rfl rfl rfl rfl rfl rfl ?_
          refine p_pure htab rfl rfl rfl rfl ?_
          refine p_load 1 htab rfl rfl rfl rfl rfl rfl rfl rfl ?_
          refine p_pure htab rfl rfl rfl rfl ?_
          refine p_pickT rfl rfl rfl rfl rfl rfl ?_
          refine p_pure htab rfl rfl rfl rfl ?_
          refine p_split (i := 38) rfl (fun hg7 => ?_) (fun hg7 => ?_)
          · replace hm := yes_t hg7 hm
            refine p_pure htab rfl rfl rfl rfl ?_
            refine p_load 0 htab rfl rfl rfl rfl rfl rfl rfl rfl ?_
            refine p_pure htab rfl rfl rfl rfl ?_
            refine p_load 1 htab rfl rfl rfl rfl rfl rfl rfl rfl ?_
            obtain ⟨x8, q8, hm⟩ := yes_bind hm
            refine p_call0 (r11_Exps_ok a0.gExps a1.gExps true x8 q8) rfl rfl rfl rfl rfl (WkL.refl _) ?_
            rintro _ rfl
            refine p_pickT rfl rfl rfl rfl rfl rfl ?_
            refine p_pure htab rfl rfl rfl rfl ?_
            refine ops_nil ?_
            refine then_normal ?_
            refine wpD_ret ?_
            have er9 := yes_eq hm; subst er9
            refine retX.of (s' := ⟨[(4, .v (.bool x8))], [], []⟩) (WkS.perm (WkS.cons rfl (Wk.refl _) (WkS.nil)) (List.Perm.refl _) (List.Perm.refl _)) (retD_mk (hh := []) (.inl rfl) (resL_cons (resOne_tmp rfl) (resL_nil)) (List.nil_sublist _) (List.Sublist.refl _) ?_)
            exact ⟨rfl, rfl, rfl⟩
          · replace hm := yes_f hg7 hm
            refine p_skip rfl rfl rfl ?_
            refine p_skip rfl rfl rfl ?_
            refine p_skip rfl rfl rfl ?_
            refine p_skip rfl rfl rfl ?_
            refine p_skip rfl rfl rfl ?_
            refine p_pickF rfl rfl rfl rfl rfl rfl ?_
            refine p_pure htab rfl rfl rfl rfl ?_
            refine ops_nil ?_
            refine then_normal ?_
            refine wpD_ret ?_
            have er10 := yes_eq hm; subst er10
            refine retX.of (s' := ⟨[(4, .v (.bool false))], [], []⟩) (WkS.perm (WkS.cons rfl (Wk.refl _) (WkS.nil)) (List.Perm.refl _) (List.Perm.refl _)) (retD_mk (hh := []) (.inl rfl) (resL_cons (resOne_tmp rfl) (resL_nil)) (List.nil_sublist _) (List.Sublist.refl _) ?_)
            exact ⟨rfl, rfl, rfl⟩
        · replace hm := yes_f hg6 hm
          refine p_skip rfl rfl rfl ?_
          refine p_skip rfl rfl rfl ?_
          refine p_skip rfl rfl rfl ?_
          refine p_skip rfl rfl rfl ?_
          refine p_skip rfl rfl rfl ?_
          refine p_pickF rfl rfl rfl rfl rfl rfl ?_
          refine p_pure htab rfl rfl rfl rfl ?_
          refine p_skip rfl rfl rfl ?_
          refine p_skip rfl rfl rfl ?_
          refine p_skip rfl rfl rfl ?_
          refine p_skip rfl rfl rfl ?_
          refine p_skip rfl rfl rfl ?_
          refine p_pickF rfl rfl rfl rfl rfl rfl ?_
          refine p_pure htab rfl rfl rfl rfl ?_
          refine ops_nil ?_
          refine then_normal ?_
          refine wpD_ret ?_
          have er11 := yes_eq hm; subst er11
          refine retX.of (s' := ⟨[(4, .v (.bool false))], [], []⟩) (WkS.perm (WkS.cons rfl (Wk.refl _) (WkS.nil)) (List.Perm.refl _) (List.Perm.refl _)) (retD_mk (hh := []) (.inl rfl) (resL_cons (resOne_tmp rfl) (resL_nil)) (List.nil_sublist _) (List.Sublist.refl _) ?_)
          exact ⟨rfl, rfl, rfl⟩
      · replace hm := yes_f hg5 hm
        refine p_skip rfl rfl rfl ?_
        refine p_skip rfl rfl rfl ?_
        refine p_skip rfl rfl rfl ?_
        refine p_skip rfl rfl rfl ?_
        refine p_skip rfl rfl rfl ?_
        refine p_pickF rfl rfl rfl rfl rfl rfl ?_
        refine p_pure htab rfl rfl rfl rfl ?_
        refine p_skip rfl rfl rfl ?_
        refine p_skip rfl rfl rfl ?_
        refine p_skip rfl rfl rfl ?_
        refine p_skip rfl rfl rfl ?_
        refine p_skip rfl rfl rfl ?_
        refine p_pickF rfl rfl rfl rfl rfl rfl ?_
        refine p_pure htab rfl rfl rfl rfl ?_
        refine p_skip rfl rfl rfl ?_
        refine p_skip rfl rfl rfl ?_
        refine p_skip rfl rfl rfl ?_
        refine p_skip rfl rfl rfl ?_
        refine p_skip rfl rfl rfl ?_
        refine p_pickF rfl rfl rfl rfl rfl rfl ?_
        refine p_pure htab rfl rfl rfl rfl ?_
        refine ops_nil ?_
        refine then_normal ?_
        refine wpD_ret ?_
        have er12 := yes_eq hm; subst er12
        refine retX.of (s' := ⟨[(4, .v (.bool false))], [], []⟩) (WkS.perm (WkS.cons rfl (Wk.refl _) (WkS.nil)) (List.Perm.refl _) (List.Perm.refl _)) (retD_mk (hh := []) (.inl rfl) (resL_cons (resOne_tmp rfl) (resL_nil)) (List.nil_sublist _) (List.Sublist.refl _) ?_)
        exact ⟨rfl, rfl, rfl⟩
    · replace hm := yes_f hg4 hm
      refine p_skip rfl rfl rfl ?_
      refine p_skip rfl rfl rfl ?_
      refine p_skip rfl rfl rfl ?_
      refine p_skip rfl rfl rfl ?_
      refine p_skip rfl rfl rfl ?_
      refine p_pickF rfl rfl rfl rfl rfl rfl ?_
      refine p_pure htab rfl rfl rfl rfl ?_
      refine p_skip rfl rfl rfl ?_
      refine p_skip rfl rfl rfl ?_
      refine p_skip rfl rfl rfl ?_
      refine p_skip rfl rfl rfl ?_
      refine p_skip rfl rfl rfl ?_
      refine p_pickF rfl rfl rfl rfl rfl rfl ?_
      refine p_pure htab rfl rfl rfl rfl ?_
      refine p_skip rfl rfl rfl ?_
      refine p_skip rfl rfl rfl ?_
      refine p_skip rfl rfl rfl ?_
      refine p_skip rfl rfl rfl ?_
      refine p_skip rfl rfl rfl ?_
      refine p_pickF rfl rfl rfl rfl rfl rfl ?_
      refine p_pure htab rfl rfl rfl rfl ?_
      refine p_skip rfl rfl rfl ?_
      refine p_skip rfl rfl rfl ?_
      refine p_skip rfl rfl rfl ?_
      refine p_skip rfl rfl rfl ?_
      refine p_skip rfl rfl rfl ?_
      refine p_pickF rfl rfl rfl rfl rfl rfl ?_
      refine p_pure htab rfl rfl rfl rfl ?_
      refine ops_nil ?_
      refine then_normal ?_
      refine wpD_ret ?_
      have er13 := yes_eq hm; subst er13
      refine retX.of (s' := ⟨[(4, .v (.bool false))], [], []⟩) (WkS.perm (WkS.cons rfl (Wk.refl _) (WkS.nil)) (List.Perm.refl _) (List.Perm.refl _)) (retD_mk (hh := []) (.inl rfl) (resL_cons (resOne_tmp rfl) (resL_nil)) (List.nil_sublist _) (List.Sublist.refl _) ?_)
      exact ⟨rfl, rfl, rfl⟩
  · replace hm := yes_f hg3 hm
    refine p_skip rfl rfl rfl ?_
    refine p_skip rfl rfl rfl ?_
    refine p_skip rfl rfl rfl ?_
    refine p_skip rfl rfl rfl ?_
    refine p_skip rfl rfl rfl ?_
    refine p_pickF rfl rfl rfl rfl rfl rfl ?_
    refine p_pure htab rfl rfl rfl rfl ?_
    refine p_skip rfl rfl rfl ?_
    refine p_skip rfl rfl rfl ?_
    refine p_skip rfl rfl rfl ?_
    refine p_skip rfl rfl rfl ?_
    refine p_skip rfl rfl rfl ?_
    refine p_pickF rfl rfl rfl rfl rfl rfl ?_
    refine p_pure htab rfl rfl rfl rfl ?_
    refine p_skip rfl rfl rfl ?_
    refine p_skip rfl rfl rfl ?_
    refine p_skip rfl rfl rfl ?_
    refine p_skip rfl rfl rfl ?_
    refine p_skip rfl rfl rfl ?_
    refine p_pickF rfl rfl rfl rfl rfl rfl ?_
    refine p_pure htab rfl rfl rfl rfl ?_
    refine p_skip rfl rfl rfl ?_
    refine p_skip rfl rfl rfl ?_
    refine p_skip rfl rfl rfl ?_
    refine p_skip rfl rfl rfl ?_
    refine p_skip rfl rfl rfl ?_
    refine p_pickF rfl rfl rfl rfl rfl rfl ?_
    refine p_pure htab rfl rfl rfl rfl ?_
    refine p_skip rfl rfl rfl ?_
    refine p_skip rfl rfl rfl ?_
    refine p_skip rfl rfl rfl ?_
    refine p_skip rfl rfl rfl ?_
    refine p_skip rfl rfl rfl ?_
    refine p_pickF rfl rfl rfl rfl rfl rfl ?_
    refine p_pure htab rfl rfl rfl rfl ?_
    refine ops_nil ?_
    refine then_normal ?_
    refine wpD_ret ?_
    have er14 := yes_eq hm; subst er14
    refine retX.of (s' := ⟨[(4, .v (.bool false))], [], []⟩) (WkS.perm (WkS.cons rfl (Wk.refl _) (WkS.nil)) (List.Perm.refl _) (List.Perm.refl _)) (retD_mk (hh := []) (.inl rfl) (resL_cons (resOne_tmp rfl) (resL_nil)) (List.nil_sublist _) (List.Sublist.refl _) ?_)
    exact ⟨rfl, rfl, rfl⟩
noncomputable def r17_Same (a0 : TApiGraph) (a1 : TApiGraph) : Option (Bool) :=
  (Option.bind (α := Bool) (bif (!decide (a0.gFunc = a1.gFunc)) then some true else (bif (a0.gNodes != a1.gNodes) then some true else (bif (a0.gMany != a1.gMany) then some true else (bif ((a0.gEdges.length : Int) != (a1.gEdges.length : Int)) then some true else some ((a0.gVars.length : Int) != (a1.gVars.length : Int)))))) fun y7 => (bif y7 then some false else (Option.bind (α := (Unit) ⊕ (Bool)) (loopM (fun (s35 : Int) => (bif (decide (s35 < (a0.gEdges.length : Int))) then ((idx a0.gEdges s35).bind fun x49 => ((idx a1.gEdges s35).bind fun x50 => ((r17_SameEdge x49 x50).bind fun x51 => (bif (!x51) then some (.done (.inr false)) else some (.next (IntKind.i64.wrap (s35 + (1 : Int)))))))) else some (.done (.inl ())))) (0 : Int)) (Sum.elim (fun y34 => (Option.bind (α := (Unit) ⊕ (Bool)) (loopM (fun (s71 : Int) => (bif (decide (s71 < (a0.gVars.length : Int))) then ((idx a0.gVars s71).bind fun x83 => ((idx a1.gVars s71).bind fun x84 => (bif (!(decide (x83.gName = x84.gName) && (x83.gPtr == x84.gPtr && true))) then some (.done (.inr false)) else some (.next (IntKind.i64.wrap (s71 + (1 : Int))))))) else some (.done (.inl ())))) (0 : Int)) (Sum.elim (fun y70 => some true) (fun r => some r)))) (fun r => some r)))))
set_option maxRecDepth 100000 in
set_option maxHeartbeats 2000000 in
theorem r17_Same_ok (a0 : TApiGraph) (a1 : TApiGraph) (r : Bool) (h0 : r17_Same a0 a1 = some r) : CallsD Try.prog 6 [eTApiGraph a0, eTApiGraph a1] [] [] (fun d h k => d = .v (.bool r) ∧ h = [] ∧ k = []) := by
  have hm := yes_of h0
  unfold r17_Same at hm
  clear h0
  refine enterX htab Try.func6 rfl rfl rfl rfl rfl (fun C => ?_)
  refine wpD_seq ?_
  refine wpD_region ?_
  refine p_box rfl rfl rfl rfl rfl rfl rfl (fun b1 => ?_)
  refine p_box rfl rfl rfl rfl rfl rfl rfl (fun b2 => ?_)
  refine p_pure htab rfl rfl rfl rfl ?_
  refine ops_nil ?_
  refine then_normal ?_
  refine wpD_seq ?_
  refine wpD_seq ?_
  obtain ⟨y7, q7, ho7⟩ := yes_bind hm
  refine wpD_mid (Y := Unit) (fun z7 => (⟨[(2, .ptr b1 0), (3, .ptr b2 0), (43, .v (.bool y7))], [(b1, Blk.cells [.v (.string a0.gFunc), .v (.int .i64 a0.gNodes), .lst 6 (a0.gEdges.map eTApiEdge) .no, .lst 2 (a0.gVars.map eTApiVar) .no, .v (.int .i64 a0.gMany)] 28), (b2, Blk.cells [.v (.string a1.gFunc), .v (.int .i64 a1.gNodes), .lst 6 (a1.gEdges.map eTApiEdge) .no, .lst 2 (a1.gVars.map eTApiVar) .no, .v (.int .i64 a1.gMany)] 28)], []⟩ : S)) ?_ ?_
  · clear hm; have hm := yes_of q7
    refine wpD_region ?_
    refine p_pure htab rfl rfl rfl rfl ?_
    refine p_load 0 htab rfl rfl rfl rfl rfl rfl rfl rfl ?_
    refine p_pure htab rfl rfl rfl rfl ?_
    refine p_load 1 htab rfl rfl rfl rfl rfl rfl rfl rfl ?_
    refine p_pure htab rfl rfl rfl rfl ?_
    refine p_pure htab rfl rfl rfl rfl ?_
    refine p_split (i := 12) rfl (fun hg8 => ?_) (fun hg8 => ?_)
    · replace hm := yes_t hg8 hm
      refine p_skip rfl rfl rfl ?_
      refine p_skip rfl rfl rfl ?_
      refine p_skip rfl rfl rfl ?_
      refine p_skip rfl rfl rfl ?_
      refine p_skip rfl rfl rfl ?_
      refine p_pickT rfl rfl rfl rfl rfl rfl ?_
      refine p_pure htab rfl rfl rfl rfl ?_
      refine p_skip rfl rfl rfl ?_
      refine p_skip rfl rfl rfl ?_
      refine p_skip rfl rfl rfl ?_
      refine p_skip rfl rfl rfl ?_
      refine p_skip rfl rfl rfl ?_
      refine p_pickT rfl rfl rfl rfl rfl rfl ?_
      refine p_pure htab rfl rfl rfl rfl ?_
      refine p_skip rfl rfl rfl ?_
      refine p_skip rfl rfl rfl ?_
      refine p_skip rfl rfl rfl ?_
      refine p_skip rfl rfl rfl ?_
      refine p_skip rfl rfl rfl ?_
      refine p_skip rfl rfl rfl ?_
      refine p_skip rfl rfl rfl ?_
      refine p_pickT rfl rfl rfl rfl rfl rfl ?_
      refine p_pure htab rfl rfl rfl rfl ?_
      refine p_skip rfl rfl rfl ?_
      refine p_skip rfl rfl rfl ?_
      refine p_skip rfl rfl rfl ?_
      refine p_skip rfl rfl rfl ?_
      refine p_skip rfl rfl rfl ?_
      refine p_skip rfl rfl rfl ?_
      refine p_skip rfl rfl rfl ?_
      refine p_pickT rfl rfl rfl rfl rfl rfl ?_
      refine ops_nil ?_
      have e7 := yes_eq hm; subst e7
      refine ⟨rfl, ?_⟩
      exact WkX.of () (WkS.perm (WkS.cons rfl (Wk.refl _) (WkS.cons rfl (Wk.refl _) (WkS.cons rfl (Wk.refl _) (WkS.nil)))) (List.Perm.refl _) (List.Perm.refl _))
    · replace hm := yes_f hg8 hm
      refine p_pure htab rfl rfl rfl rfl ?_
      refine p_load 0 htab rfl rfl rfl rfl rfl rfl rfl rfl ?_
      refine p_pure htab rfl rfl rfl rfl ?_
      refine p_load 1 htab rfl rfl rfl rfl rfl rfl rfl rfl ?_
      refine p_pure htab rfl rfl rfl rfl ?_
      refine p_pickF rfl rfl rfl rfl rfl rfl ?_
      refine p_pure htab rfl rfl rfl rfl ?_
      refine p_split (i := 19) rfl (fun hg9 => ?_) (fun hg9 => ?_)
      · replace hm := yes_t hg9 hm
        refine p_skip rfl rfl rfl ?_
        refine p_skip rfl rfl rfl ?_
        refine p_skip rfl rfl rfl ?_
        refine p_skip rfl rfl rfl ?_
        refine p_skip rfl rfl rfl ?_
        refine p_pickT rfl rfl rfl rfl rfl rfl ?_
        refine p_pure htab rfl rfl rfl rfl ?_
        refine p_skip rfl rfl rfl ?_
        refine p_skip rfl rfl rfl ?_
        refine p_skip rfl rfl rfl ?_
        refine p_skip rfl rfl rfl ?_
        refine p_skip rfl rfl rfl ?_
        refine p_skip rfl rfl rfl ?_
        refine p_skip rfl rfl rfl ?_
        refine p_pickT rfl rfl rfl rfl rfl rfl ?_
        refine p_pure htab rfl rfl rfl rfl ?_
        refine p_skip rfl rfl rfl ?_
        refine p_skip rfl rfl rfl ?_
        refine p_skip rfl rfl rfl ?_
        refine p_skip rfl rfl rfl ?_
        refine p_skip rfl rfl rfl ?_
        refine p_skip rfl rfl rfl ?_
        refine p_skip rfl rfl rfl ?_
        refine p_pickT rfl rfl rfl rfl rfl rfl ?_
        refine ops_nil ?_
        have e7 := yes_eq hm; subst e7
        refine ⟨rfl, ?_⟩
        exact WkX.of () (WkS.perm (WkS.cons rfl (Wk.refl _) (WkS.cons rfl (Wk.refl _) (WkS.cons rfl (Wk.refl _) (WkS.nil)))) (List.Perm.refl _) (List.Perm.refl _))
      · replace hm := yes_f hg9 hm
        refine p_pure htab rfl rfl rfl rfl ?_
        refine p_load 0 htab rfl rfl rfl rfl rfl rfl rfl rfl ?_
        refine p_pure htab rfl rfl rfl rfl ?_
        refine p_load 1 htab rfl rfl rfl rfl rfl rfl rfl rfl ?_
        refine p_pure htab rfl rfl rfl rfl ?_
        refine p_pickF rfl rfl rfl rfl rfl rfl ?_
        refine p_pure htab rfl rfl rfl rfl ?_
        refine p_split (i := 26) rfl (fun hg10 => ?_) (fun hg10 => ?_)
        · replace hm := yes_t hg10 hm
          refine p_skip rfl rfl rfl ?_
          refine p_skip rfl rfl rfl ?_
          refine p_skip rfl rfl rfl ?_
          refine p_skip rfl rfl rfl ?_
          refine p_skip rfl rfl rfl ?_
          refine p_skip rfl rfl rfl ?_
          refine p_skip rfl rfl rfl ?_
          refine p_pickT rfl rfl rfl rfl rfl rfl ?_
          refine p_pure htab rfl rfl rfl rfl ?_
          refine p_skip rfl rfl rfl ?_
          refine p_skip rfl rfl rfl ?_
          refine p_skip rfl rfl rfl ?_
          refine p_skip rfl rfl rfl ?_
          refine p_skip rfl rfl rfl ?_
          refine p_skip rfl rfl rfl ?_
          refine p_skip rfl rfl rfl ?_
          refine p_pickT rfl rfl rfl rfl rfl rfl ?_
          refine ops_nil ?_
          have e7 := yes_eq hm; subst e7
          refine ⟨rfl, ?_⟩
          exact WkX.of () (WkS.perm (WkS.cons rfl (Wk.refl _) (WkS.cons rfl (Wk.refl _) (WkS.cons rfl (Wk.refl _) (WkS.nil)))) (List.Perm.refl _) (List.Perm.refl _))
        · replace hm := yes_f hg10 hm
          refine p_pure htab rfl rfl rfl rfl ?_
          refine p_load 0 htab rfl rfl rfl rfl rfl rfl rfl rfl ?_
          refine p_lenL htab rfl rfl rfl rfl rfl rfl rfl (by first | exact map_len | rfl) ?_
          refine p_pure htab rfl rfl rfl rfl ?_
          refine p_load 1 htab rfl rfl rfl rfl rfl rfl rfl rfl ?_
          refine p_lenL htab rfl rfl rfl rfl rfl rfl rfl (by first | exact map_len | rfl) ?_
          refine p_pure htab rfl rfl rfl rfl ?_
          refine p_pickF rfl rfl rfl rfl rfl rfl ?_
          refine p_pure htab rfl rfl rfl rfl ?_
          refine p_split (i := 35) rfl (fun hg11 => ?_) (fun hg11 => ?_)
          · replace hm := yes_t hg11 hm
            refine p_skip rfl rfl rfl ?_
            refine p_skip rfl rfl rfl ?_
            refine p_skip rfl rfl rfl ?_
            refine p_skip rfl rfl rfl ?_
            refine p_skip rfl rfl rfl ?_
            refine p_skip rfl rfl rfl ?_
            refine p_skip rfl rfl rfl ?_
            refine p_pickT rfl rfl rfl rfl rfl rfl ?_
            refine ops_nil ?_
            have e7 := yes_eq hm; subst e7
            refine ⟨rfl, ?_⟩
            exact WkX.of () (WkS.perm (WkS.cons rfl (Wk.refl _) (WkS.cons rfl (Wk.refl _) (WkS.cons rfl (Wk.refl _) (WkS.nil)))) (List.Perm.refl _) (List.Perm.refl _))
          · replace hm := yes_f hg11 hm
            refine p_pure htab rfl rfl rfl rfl ?_
            refine p_load 0 htab rfl rfl rfl rfl rfl rfl rfl rfl ?_
            refine p_lenL htab rfl rfl rfl rfl rfl rfl rfl (by first | exact map_len | rfl) ?_
            refine p_pure htab rfl rfl rfl rfl ?_
            refine p_load 1 htab rfl rfl rfl rfl rfl rfl rfl rfl ?_
            refine p_lenL htab rfl rfl rfl rfl rfl rfl rfl (by first | exact map_len | rfl) ?_
            refine p_pure htab rfl rfl rfl rfl ?_
            refine p_pickF rfl rfl rfl rfl rfl rfl ?_
            refine ops_nil ?_
            have e7 := yes_eq hm; subst e7
            refine ⟨rfl, ?_⟩
            exact WkX.of () (WkS.perm (WkS.cons rfl (Wk.refl _) (WkS.cons rfl (Wk.refl _) (WkS.cons rfl (Wk.refl _) (WkS.nil)))) (List.Perm.refl _) (List.Perm.refl _))
  · intro s7 hw7; clear hm; have hm := ho7; clear q7 ho7
    refine then_normal ?_
    refine wpD_wkX hw7 (fun z7 => ?_)
    refine wpD_cond rfl (fun hc13 => ?_) (fun hc13 => ?_)
    · replace hm := yes_t hc13 hm
      refine wpD_seq ?_
      refine wpD_region ?_
      refine p_pure htab rfl rfl rfl rfl ?_
      refine ops_nil ?_
      refine then_normal ?_
      refine wpD_ret ?_
      refine then_ret ?_
      have er14 := yes_eq hm; subst er14
      refine retX.of (s' := ⟨[(4, .v (.bool false))], [], []⟩) (WkS.perm (WkS.cons rfl (Wk.refl _) (WkS.nil)) (List.Perm.refl _) (List.Perm.refl _)) (retD_mk (hh := []) (.inl rfl) (resL_cons (resOne_tmp rfl) (resL_nil)) (List.nil_sublist _) (List.Sublist.refl _) ?_)
      exact ⟨rfl, rfl, rfl⟩
    · replace hm := yes_f hc13 hm
      refine wpD_skip ?_
      refine then_normal ?_
      refine wpD_seq ?_
      refine wpD_seq ?_
      refine wpD_region ?_
      refine p_pure htab rfl rfl rfl rfl ?_
      refine ops_nil ?_
      refine then_normal ?_
      obtain ⟨x34, q34, ho34⟩ := yes_bind hm
      refine wpD_midX (τ := Unit) (Y := Unit) (fun y34 z34 => (⟨[(2, .ptr b1 0), (3, .ptr b2 0)], [(b1, Blk.cells [.v (.string a0.gFunc), .v (.int .i64 a0.gNodes), .lst 6 (a0.gEdges.map eTApiEdge) .no, .lst 2 (a0.gVars.map eTApiVar) .no, .v (.int .i64 a0.gMany)] 28), (b2, Blk.cells [.v (.string a1.gFunc), .v (.int .i64 a1.gNodes), .lst 6 (a1.gEdges.map eTApiEdge) .no, .lst 2 (a1.gVars.map eTApiVar) .no, .v (.int .i64 a1.gMany)] 28)], []⟩ : S)) x34 ?_ ?_
      · clear hm; have hm := yes_of q34
        refine wpD_block ?_
        obtain ⟨u35, hl35, hq35⟩ := yes_m hm
        refine loop_M (Y := Unit) hl35 (fun s35 z35 => (⟨[(2, .ptr b1 0), (3, .ptr b2 0), (5, .v (.int .i64 s35))], [(b1, Blk.cells [.v (.string a0.gFunc), .v (.int .i64 a0.gNodes), .lst 6 (a0.gEdges.map eTApiEdge) .no, .lst 2 (a0.gVars.map eTApiVar) .no, .v (.int .i64 a0.gMany)] 28), (b2, Blk.cells [.v (.string a1.gFunc), .v (.int .i64 a1.gNodes), .lst 6 (a1.gEdges.map eTApiEdge) .no, .lst 2 (a1.gVars.map eTApiVar) .no, .v (.int .i64 a1.gMany)] 28)], []⟩ : S)) ?_ ?_
        · skip
          exact WkX.of () (WkS.perm (WkS.cons rfl (Wk.refl _) (WkS.cons rfl (Wk.refl _) (WkS.cons rfl (Wk.refl _) (WkS.nil)))) (List.Perm.refl _) (List.Perm.refl _))
        · intro G35 s35 z35 hm
          refine wpD_seq ?_
          refine wpD_seq ?_
          refine wpD_region ?_
          refine p_pure htab rfl rfl rfl rfl ?_
          refine p_pure htab rfl rfl rfl rfl ?_
          refine p_load 0 htab rfl rfl rfl rfl rfl rfl rfl rfl ?_
          refine p_lenL htab rfl rfl rfl rfl rfl rfl rfl (by first | exact map_len | rfl) ?_
          refine p_pure htab rfl rfl rfl rfl ?_
          refine ops_nil ?_
          refine then_normal ?_
          refine wpD_cond rfl (fun hc48 => ?_) (fun hc48 => ?_)
          · replace hm := yes_t hc48 hm
            refine wpD_skip ?_
            refine then_normal ?_
            refine wpD_seq ?_
            refine wpD_block ?_
            refine wpD_seq ?_
            obtain ⟨x49, q49, hm⟩ := yes_bind hm
            obtain ⟨x50, q50, hm⟩ := yes_bind hm
            refine wpD_draws 10 [] [[],[0],[],[0,1],[0,1,3],[],[5],[],[5,6],[5,6,8]] [0,1,3,4,5,6,8,9] [[],[0],[],[0,1,2],[0,1,2,3],[],[5],[],[5,6,7],[5,6,7,8],[0,1,2,3,4,5,6,7,8,9],[0,1,2,3,4,5,6,7,8,9,10]] (by kernel_rfl) (by kernel_rfl) (by kernel_rfl) (by rfl) (by rfl) (by kernel_rfl) ?_
            apply Exists.intro
            apply Exists.intro
            apply Exists.intro
            apply Exists.intro
            apply Exists.intro
            apply Exists.intro
            apply Exists.intro
            apply Exists.intro
            intro bs
            refine z_e rfl rfl (ex_pure htab rfl) rfl rfl rfl rfl rfl rfl ?_
            refine z_eM rfl rfl (xm_load 0 htab rfl rfl rfl rfl rfl) rfl rfl rfl rfl rfl rfl ?_
            refine z_q rfl rfl (ex_pure htab rfl) rfl rfl rfl rfl rfl rfl ?_
            refine z_e rfl rfl (x_elem htab rfl rfl rfl rfl rfl rfl rfl (idx_nonneg q49) (idx_map q49)) rfl rfl rfl rfl rfl rfl ?_
            refine z_eM rfl rfl (xm_loadEl (d := eTApiEdge x49) htab rfl rfl rfl rfl rfl) rfl rfl rfl rfl rfl rfl ?_
            refine z_e rfl rfl (ex_pure htab rfl) rfl rfl rfl rfl rfl rfl ?_
            refine z_eM rfl rfl (xm_load 1 htab rfl rfl rfl rfl rfl) rfl rfl rfl rfl rfl rfl ?_
            refine z_q rfl rfl (ex_pure htab rfl) rfl rfl rfl rfl rfl rfl ?_
            refine z_e rfl rfl (x_elem htab rfl rfl rfl rfl rfl rfl rfl (idx_nonneg q50) (idx_map q50)) rfl rfl rfl rfl rfl rfl ?_
            refine z_eM rfl rfl (xm_loadEl (d := eTApiEdge x50) htab rfl rfl rfl rfl rfl) rfl rfl rfl rfl rfl rfl ?_
            refine z_nil rfl rfl (fun e he => by simp [isAl] at he) ?_
            obtain ⟨x51, q51, hm⟩ := yes_bind hm
            refine p_call0 (r17_SameEdge_ok x49 x50 x51 q51) rfl rfl rfl rfl rfl (WkL.refl _) ?_
            rintro _ rfl
            refine p_pure htab rfl rfl rfl rfl ?_
            refine ops_nil ?_
            refine then_normal ?_
            refine wpD_cond rfl (fun hc52 => ?_) (fun hc52 => ?_)
            · replace hm := yes_t hc52 hm
              refine wpD_seq ?_
              refine wpD_region ?_
              refine p_pure htab rfl rfl rfl rfl ?_
              refine ops_nil ?_
              refine then_normal ?_
              refine wpD_ret ?_
              refine block_ret ?_
              refine then_ret ?_
              have e35 := lp_done hm; subst e35; clear hm; have hm := hq35
              refine then_ret ?_
              refine block_ret ?_
              have e34 := yes_eq hm; subst e34; refine midX_inr ?_; clear hm; have hm := ho34; simp only [Sum.elim_inr] at hm
              refine then_ret ?_
              have er53 := yes_eq hm; subst er53
              refine retX.of (s' := ⟨[(4, .v (.bool false))], [], []⟩) (WkS.perm (WkS.cons rfl (Wk.refl _) (WkS.nil)) (List.Perm.refl _) (List.Perm.refl _)) (retD_mk (hh := []) (.inl rfl) (resL_cons (resOne_tmp rfl) (resL_nil)) (List.nil_sublist _) (List.Sublist.refl _) ?_)
              exact ⟨rfl, rfl, rfl⟩
            · replace hm := yes_f hc52 hm
              refine wpD_skip ?_
              refine block_normal ?_
              refine then_normal ?_
              refine wpD_region ?_
              refine p_pure htab rfl rfl rfl rfl ?_
              refine p_pure htab rfl rfl rfl rfl ?_
              refine p_pure htab rfl rfl rfl rfl ?_
              refine ops_nil ?_
              refine then_normal ⟨_, lp_next hm, ?_⟩
              exact WkX.of () (WkS.perm (WkS.cons rfl (Wk.refl _) (WkS.cons rfl (Wk.refl _) (WkS.cons rfl (Wk.refl _) (WkS.nil)))) (List.Perm.refl _) (List.Perm.refl _))
          · replace hm := yes_f hc48 hm
            refine wpD_exit ?_
            refine then_exit ?_
            have e35 := lp_done hm; subst e35; clear hm; have hm := hq35
            refine then_exit ?_
            refine block_hit ?_
            have e34 := yes_eq hm; subst e34
            refine midX_inl ?_
            exact WkX.of () (WkS.perm (WkS.cons rfl (Wk.refl _) (WkS.cons rfl (Wk.refl _) (WkS.nil))) (List.Perm.refl _) (List.Perm.refl _))
      · intro y34 s34 hx34 hw34; subst hx34; clear hm; have hm := ho34; simp only [Sum.elim_inl] at hm; clear q34 ho34
        refine then_normal ?_
        refine wpD_wkX hw34 (fun z34 => ?_)
        refine wpD_seq ?_
        refine wpD_seq ?_
        refine wpD_region ?_
        refine p_pure htab rfl rfl rfl rfl ?_
        refine ops_nil ?_
        refine then_normal ?_
        obtain ⟨x70, q70, ho70⟩ := yes_bind hm
        refine wpD_midX (τ := Unit) (Y := Unit) (fun y70 z70 => (⟨[], [(b1, Blk.cells [.v (.string a0.gFunc), .v (.int .i64 a0.gNodes), .lst 6 (a0.gEdges.map eTApiEdge) .no, .lst 2 (a0.gVars.map eTApiVar) .no, .v (.int .i64 a0.gMany)] 28), (b2, Blk.cells [.v (.string a1.gFunc), .v (.int .i64 a1.gNodes), .lst 6 (a1.gEdges.map eTApiEdge) .no, .lst 2 (a1.gVars.map eTApiVar) .no, .v (.int .i64 a1.gMany)] 28)], []⟩ : S)) x70 ?_ ?_
        · clear hm; have hm := yes_of q70
          refine wpD_block ?_
          obtain ⟨u71, hl71, hq71⟩ := yes_m hm
          refine loop_M (Y := Unit) hl71 (fun s71 z71 => (⟨[(2, .ptr b1 0), (3, .ptr b2 0), (6, .v (.int .i64 s71))], [(b1, Blk.cells [.v (.string a0.gFunc), .v (.int .i64 a0.gNodes), .lst 6 (a0.gEdges.map eTApiEdge) .no, .lst 2 (a0.gVars.map eTApiVar) .no, .v (.int .i64 a0.gMany)] 28), (b2, Blk.cells [.v (.string a1.gFunc), .v (.int .i64 a1.gNodes), .lst 6 (a1.gEdges.map eTApiEdge) .no, .lst 2 (a1.gVars.map eTApiVar) .no, .v (.int .i64 a1.gMany)] 28)], []⟩ : S)) ?_ ?_
          · skip
            exact WkX.of () (WkS.perm (WkS.cons rfl (Wk.refl _) (WkS.cons rfl (Wk.refl _) (WkS.cons rfl (Wk.refl _) (WkS.nil)))) (List.Perm.refl _) (List.Perm.refl _))
          · intro G71 s71 z71 hm
            refine wpD_seq ?_
            refine wpD_seq ?_
            refine wpD_region ?_
            refine p_pure htab rfl rfl rfl rfl ?_
            refine p_pure htab rfl rfl rfl rfl ?_
            refine p_load 0 htab rfl rfl rfl rfl rfl rfl rfl rfl ?_
            refine p_lenL htab rfl rfl rfl rfl rfl rfl rfl (by first | exact map_len | rfl) ?_
            refine p_pure htab rfl rfl rfl rfl ?_
            refine ops_nil ?_
            refine then_normal ?_
            refine wpD_cond rfl (fun hc82 => ?_) (fun hc82 => ?_)
            · replace hm := yes_t hc82 hm
              refine wpD_skip ?_
              refine then_normal ?_
              refine wpD_seq ?_
              refine wpD_block ?_
              refine wpD_seq ?_
              obtain ⟨x83, q83, hm⟩ := yes_bind hm
              obtain ⟨x84, q84, hm⟩ := yes_bind hm
              refine wpD_draws 10 [] [[],[0],[],[0,1],[0,1,3],[],[5],[],[5,6],[5,6,8]] [0,1,3,4,5,6,8,9] [[],[0],[],[0,1,2],[0,1,2,3],[],[5],[],[5,6,7],[5,6,7,8],[0,1,2,3,4,5,6,7,8,9]] (by kernel_rfl) (by kernel_rfl) (by kernel_rfl) (by rfl) (by rfl) (by kernel_rfl) ?_
              apply Exists.intro
              apply Exists.intro
              apply Exists.intro
              apply Exists.intro
              apply Exists.intro
              apply Exists.intro
              apply Exists.intro
              apply Exists.intro
              intro bs
              refine z_e rfl rfl (ex_pure htab rfl) rfl rfl rfl rfl rfl rfl ?_
              refine z_eM rfl rfl (xm_load 0 htab rfl rfl rfl rfl rfl) rfl rfl rfl rfl rfl rfl ?_
              refine z_q rfl rfl (ex_pure htab rfl) rfl rfl rfl rfl rfl rfl ?_
              refine z_e rfl rfl (x_elem htab rfl rfl rfl rfl rfl rfl rfl (idx_nonneg q83) (idx_map q83)) rfl rfl rfl rfl rfl rfl ?_
              refine z_eM rfl rfl (xm_loadEl (d := eTApiVar x83) htab rfl rfl rfl rfl rfl) rfl rfl rfl rfl rfl rfl ?_
              refine z_e rfl rfl (ex_pure htab rfl) rfl rfl rfl rfl rfl rfl ?_
              refine z_eM rfl rfl (xm_load 1 htab rfl rfl rfl rfl rfl) rfl rfl rfl rfl rfl rfl ?_
              refine z_q rfl rfl (ex_pure htab rfl) rfl rfl rfl rfl rfl rfl ?_
              refine z_e rfl rfl (x_elem htab rfl rfl rfl rfl rfl rfl rfl (idx_nonneg q84) (idx_map q84)) rfl rfl rfl rfl rfl rfl ?_
              refine z_eM rfl rfl (xm_loadEl (d := eTApiVar x84) htab rfl rfl rfl rfl rfl) rfl rfl rfl rfl rfl rfl ?_
              refine z_nil rfl rfl (fun e he => by simp [isAl] at he) ?_
              refine p_eqS htab rfl rfl rfl rfl rfl eqt52 rfl rfl rfl rfl rfl ?_
              refine ops_nil ?_
              refine then_normal ?_
              refine wpD_cond rfl (fun hc85 => ?_) (fun hc85 => ?_)
              · replace hm := yes_t hc85 hm
                refine wpD_seq ?_
                refine wpD_region ?_
                refine p_pure htab rfl rfl rfl rfl ?_
                refine ops_nil ?_
                refine then_normal ?_
                refine wpD_ret ?_
                refine block_ret ?_
                refine then_ret ?_
                have e71 := lp_done hm; subst e71; clear hm; have hm := hq71
                refine then_ret ?_
                refine block_ret ?_
                have e70 := yes_eq hm; subst e70; refine midX_inr ?_; clear hm; have hm := ho70; simp only [Sum.elim_inr] at hm
                refine then_ret ?_
                have er86 := yes_eq hm; subst er86
                refine retX.of (s' := ⟨[(4, .v (.bool false))], [], []⟩) (WkS.perm (WkS.cons rfl (Wk.refl _) (WkS.nil)) (List.Perm.refl _) (List.Perm.refl _)) (retD_mk (hh := []) (.inl rfl) (resL_cons (resOne_tmp rfl) (resL_nil)) (List.nil_sublist _) (List.Sublist.refl _) ?_)
                exact ⟨rfl, rfl, rfl⟩
              · replace hm := yes_f hc85 hm
                refine wpD_skip ?_
                refine block_normal ?_
                refine then_normal ?_
                refine wpD_region ?_
                refine p_pure htab rfl rfl rfl rfl ?_
                refine p_pure htab rfl rfl rfl rfl ?_
                refine p_pure htab rfl rfl rfl rfl ?_
                refine ops_nil ?_
                refine then_normal ⟨_, lp_next hm, ?_⟩
                exact WkX.of () (WkS.perm (WkS.cons rfl (Wk.refl _) (WkS.cons rfl (Wk.refl _) (WkS.cons rfl (Wk.refl _) (WkS.nil)))) (List.Perm.refl _) (List.Perm.refl _))
            · replace hm := yes_f hc82 hm
              refine wpD_exit ?_
              refine then_exit ?_
              have e71 := lp_done hm; subst e71; clear hm; have hm := hq71
              refine then_exit ?_
              refine block_hit ?_
              have e70 := yes_eq hm; subst e70
              refine midX_inl ?_
              exact WkX.of () (WkS.perm (WkS.nil) (List.Perm.refl _) (List.Perm.refl _))
        · intro y70 s70 hx70 hw70; subst hx70; clear hm; have hm := ho70; simp only [Sum.elim_inl] at hm; clear q70 ho70
          refine then_normal ?_
          refine wpD_wkX hw70 (fun z70 => ?_)
          refine wpD_seq ?_
          refine wpD_region ?_
          refine p_pure htab rfl rfl rfl rfl ?_
          refine ops_nil ?_
          refine then_normal ?_
          refine wpD_ret ?_
          have er87 := yes_eq hm; subst er87
          refine retX.of (s' := ⟨[(4, .v (.bool true))], [], []⟩) (WkS.perm (WkS.cons rfl (Wk.refl _) (WkS.nil)) (List.Perm.refl _) (List.Perm.refl _)) (retD_mk (hh := []) (.inl rfl) (resL_cons (resOne_tmp rfl) (resL_nil)) (List.nil_sublist _) (List.Sublist.refl _) ?_)
          exact ⟨rfl, rfl, rfl⟩
noncomputable def flow_Places (a0 : TApiFunc) : Option (List Int) :=
  ((flow_of a0).bind fun x5 => some x5.gPlaces)
set_option maxRecDepth 100000 in
set_option maxHeartbeats 2000000 in
theorem flow_Places_ok (a0 : TApiFunc) (r : List Int) (h0 : flow_Places a0 = some r) : CallsD Try.prog 9 [eTApiFunc a0] [] [] (fun d h k => ∃ y0, d = .lst 1 (r.map eI64) (.cur y0) ∧ h = [] ∧ k = [(1, y0)]) := by
  have hm := yes_of h0
  unfold flow_Places at hm
  clear h0
  refine enterX htab Try.func9 rfl rfl rfl rfl rfl (fun C => ?_)
  refine wpD_seq ?_
  refine wpD_region ?_
  refine p_box rfl rfl rfl rfl rfl rfl rfl (fun b1 => ?_)
  refine p_pure htab rfl rfl rfl rfl ?_
  refine ops_nil ?_
  refine then_normal ?_
  refine wpD_seq ?_
  refine wpD_region ?_
  refine p_load (d := eTApiFunc a0) 0 htab rfl rfl rfl rfl rfl rfl rfl rfl ?_
  obtain ⟨x5, q5, hm⟩ := yes_bind hm
  refine p_callG (flow_of_ok a0 x5 q5) rfl rfl rfl rfl rfl (WkL.refl _) (List.Perm.refl _) (List.Perm.refl _) ?_
  rintro _ _ _ ⟨w2, w3, w4, rfl, rfl, rfl⟩
  refine p_pure htab rfl rfl rfl rfl ?_
  refine p_pure htab rfl rfl rfl rfl ?_
  refine p_load 0 htab rfl rfl rfl rfl rfl rfl rfl rfl ?_
  refine p_pure htab rfl rfl rfl rfl ?_
  refine ops_nil ?_
  refine then_normal ?_
  refine wpD_ret ?_
  have er6 := yes_eq hm; subst er6
  refine retX.of (s' := ⟨[(2, .lst 1 (x5.gPlaces.map eI64) (.cur w4))], [], [(1, w4)]⟩) (WkS.perm (WkS.cons rfl (Wk.refl _) (WkS.nil)) (List.Perm.refl _) ((perm_at (j := 1) rfl).trans (List.Perm.cons _ (List.Perm.refl _)))) (retD_mk (hh := []) (.inl rfl) (resL_cons (resOne_tmp rfl) (resL_nil)) (List.nil_sublist _) (List.Sublist.refl _) ?_)
  exact ⟨w4, rfl, rfl, rfl⟩
theorem flow_Places_ok0 (a0 : TApiFunc) (r : List Int) (h0 : flow_Places a0 = some r) : CallsD Try.prog 9 [eTApiFunc a0] [] [] (fun d h k => d = .lst 1 (r.map eI64) .no ∧ h = [] ∧ k = []) :=
  (flow_Places_ok a0 r h0).drop fun d h k ⟨y0, e, _, _⟩ => by subst e; exact Wk.no
noncomputable def r11_Ints (a0 : List Int) (a1 : List Int) : Option (Bool) :=
  (bif ((a0.length : Int) != (a1.length : Int)) then some false else (Option.bind (α := (Unit) ⊕ (Bool)) (loopM (fun (s21 : Int) => (bif (decide (s21 < (a0.length : Int))) then ((idx a0 s21).bind fun x33 => ((idx a1 s21).bind fun x34 => (bif (x33 != x34) then some (.done (.inr false)) else some (.next (IntKind.i64.wrap (s21 + (1 : Int))))))) else some (.done (.inl ())))) (0 : Int)) (Sum.elim (fun y20 => some true) (fun r => some r))))
set_option maxRecDepth 100000 in
set_option maxHeartbeats 2000000 in
theorem r11_Ints_ok (a0 : List Int) (a1 : List Int) (r : Bool) (h0 : r11_Ints a0 a1 = some r) : CallsD Try.prog 8 [.lst 1 (a0.map eI64) .no, .lst 1 (a1.map eI64) .no] [] [] (fun d h k => d = .v (.bool r) ∧ h = [] ∧ k = []) := by
  have hm := yes_of h0
  unfold r11_Ints at hm
  clear h0
  refine enterX htab Try.func8 rfl rfl rfl rfl rfl (fun C => ?_)
  refine wpD_seq ?_
  refine wpD_region ?_
  refine p_pure htab rfl rfl rfl rfl ?_
  refine ops_nil ?_
  refine then_normal ?_
  refine wpD_seq ?_
  refine wpD_seq ?_
  refine wpD_region ?_
  refine p_pure htab rfl rfl rfl rfl ?_
  refine p_lenL htab rfl rfl rfl rfl rfl rfl rfl (by first | exact map_len | rfl) ?_
  refine p_pure htab rfl rfl rfl rfl ?_
  refine p_lenL htab rfl rfl rfl rfl rfl rfl rfl (by first | exact map_len | rfl) ?_
  refine p_pure htab rfl rfl rfl rfl ?_
  refine ops_nil ?_
  refine then_normal ?_
  refine wpD_cond rfl (fun hc2 => ?_) (fun hc2 => ?_)
  · replace hm := yes_t hc2 hm
    refine wpD_seq ?_
    refine wpD_region ?_
    refine p_pure htab rfl rfl rfl rfl ?_
    refine ops_nil ?_
    refine then_normal ?_
    refine wpD_ret ?_
    refine then_ret ?_
    have er3 := yes_eq hm; subst er3
    refine retX.of (s' := ⟨[(4, .v (.bool false))], [], []⟩) (WkS.perm (WkS.cons rfl (Wk.refl _) (WkS.nil)) (List.Perm.refl _) (List.Perm.refl _)) (retD_mk (hh := []) (.inl rfl) (resL_cons (resOne_tmp rfl) (resL_nil)) (List.nil_sublist _) (List.Sublist.refl _) ?_)
    exact ⟨rfl, rfl, rfl⟩
  · replace hm := yes_f hc2 hm
    refine wpD_skip ?_
    refine then_normal ?_
    refine wpD_seq ?_
    refine wpD_seq ?_
    refine wpD_region ?_
    refine p_pure htab rfl rfl rfl rfl ?_
    refine ops_nil ?_
    refine then_normal ?_
    obtain ⟨x20, q20, ho20⟩ := yes_bind hm
    refine wpD_midX (τ := Unit) (Y := Unit) (fun y20 z20 => (⟨[], [], []⟩ : S)) x20 ?_ ?_
    · clear hm; have hm := yes_of q20
      refine wpD_block ?_
      obtain ⟨u21, hl21, hq21⟩ := yes_m hm
      refine loop_M (Y := Unit) hl21 (fun s21 z21 => (⟨[(0, .lst 1 (a0.map eI64) .no), (1, .lst 1 (a1.map eI64) .no), (5, .v (.int .i64 s21))], [], []⟩ : S)) ?_ ?_
      · skip
        exact WkX.of () (WkS.perm (WkS.cons rfl (Wk.refl _) (WkS.cons rfl (Wk.refl _) (WkS.cons rfl (Wk.refl _) (WkS.nil)))) (List.Perm.refl _) (List.Perm.refl _))
      · intro G21 s21 z21 hm
        refine wpD_seq ?_
        refine wpD_seq ?_
        refine wpD_region ?_
        refine p_pure htab rfl rfl rfl rfl ?_
        refine p_pure htab rfl rfl rfl rfl ?_
        refine p_lenL htab rfl rfl rfl rfl rfl rfl rfl (by first | exact map_len | rfl) ?_
        refine p_pure htab rfl rfl rfl rfl ?_
        refine ops_nil ?_
        refine then_normal ?_
        refine wpD_cond rfl (fun hc32 => ?_) (fun hc32 => ?_)
        · replace hm := yes_t hc32 hm
          refine wpD_skip ?_
          refine then_normal ?_
          refine wpD_seq ?_
          refine wpD_block ?_
          refine wpD_seq ?_
          obtain ⟨x33, q33, hm⟩ := yes_bind hm
          obtain ⟨x34, q34, hm⟩ := yes_bind hm
          refine wpD_draws 8 [] [[],[],[0],[0,2],[],[],[4],[4,6]] [0,2,4,6] [[],[],[0,1],[0,1,2],[],[],[4,5],[4,5,6],[0,1,2,3,4,5,6,7]] (by kernel_rfl) (by kernel_rfl) (by kernel_rfl) (by rfl) (by rfl) (by kernel_rfl) ?_
          apply Exists.intro
          apply Exists.intro
          apply Exists.intro
          apply Exists.intro
          intro bs
          refine z_e rfl rfl (ex_pure htab rfl) rfl rfl rfl rfl rfl rfl ?_
          refine z_q rfl rfl (ex_pure htab rfl) rfl rfl rfl rfl rfl rfl ?_
          refine z_e rfl rfl (x_elem htab rfl rfl rfl rfl rfl rfl rfl (idx_nonneg q33) (idx_map q33)) rfl rfl rfl rfl rfl rfl ?_
          refine z_qM rfl rfl (xm_loadEl htab rfl rfl rfl rfl rfl) rfl rfl rfl rfl rfl rfl ?_
          refine z_e rfl rfl (ex_pure htab rfl) rfl rfl rfl rfl rfl rfl ?_
          refine z_q rfl rfl (ex_pure htab rfl) rfl rfl rfl rfl rfl rfl ?_
          refine z_e rfl rfl (x_elem htab rfl rfl rfl rfl rfl rfl rfl (idx_nonneg q34) (idx_map q34)) rfl rfl rfl rfl rfl rfl ?_
          refine z_qM rfl rfl (xm_loadEl htab rfl rfl rfl rfl rfl) rfl rfl rfl rfl rfl rfl ?_
          refine z_nil rfl rfl (fun e he => by simp [isAl] at he) ?_
          refine p_pure htab rfl rfl rfl rfl ?_
          refine ops_nil ?_
          refine then_normal ?_
          refine wpD_cond rfl (fun hc35 => ?_) (fun hc35 => ?_)
          · replace hm := yes_t hc35 hm
            refine wpD_seq ?_
            refine wpD_region ?_
            refine p_pure htab rfl rfl rfl rfl ?_
            refine ops_nil ?_
            refine then_normal ?_
            refine wpD_ret ?_
            refine block_ret ?_
            refine then_ret ?_
            have e21 := lp_done hm; subst e21; clear hm; have hm := hq21
            refine then_ret ?_
            refine block_ret ?_
            have e20 := yes_eq hm; subst e20; refine midX_inr ?_; clear hm; have hm := ho20; simp only [Sum.elim_inr] at hm
            refine then_ret ?_
            have er36 := yes_eq hm; subst er36
            refine retX.of (s' := ⟨[(4, .v (.bool false))], [], []⟩) (WkS.perm (WkS.cons rfl (Wk.refl _) (WkS.nil)) (List.Perm.refl _) (List.Perm.refl _)) (retD_mk (hh := []) (.inl rfl) (resL_cons (resOne_tmp rfl) (resL_nil)) (List.nil_sublist _) (List.Sublist.refl _) ?_)
            exact ⟨rfl, rfl, rfl⟩
          · replace hm := yes_f hc35 hm
            refine wpD_skip ?_
            refine block_normal ?_
            refine then_normal ?_
            refine wpD_region ?_
            refine p_pure htab rfl rfl rfl rfl ?_
            refine p_pure htab rfl rfl rfl rfl ?_
            refine p_pure htab rfl rfl rfl rfl ?_
            refine ops_nil ?_
            refine then_normal ⟨_, lp_next hm, ?_⟩
            exact WkX.of () (WkS.perm (WkS.cons rfl (Wk.refl _) (WkS.cons rfl (Wk.refl _) (WkS.cons rfl (Wk.refl _) (WkS.nil)))) (List.Perm.refl _) (List.Perm.refl _))
        · replace hm := yes_f hc32 hm
          refine wpD_exit ?_
          refine then_exit ?_
          have e21 := lp_done hm; subst e21; clear hm; have hm := hq21
          refine then_exit ?_
          refine block_hit ?_
          have e20 := yes_eq hm; subst e20
          refine midX_inl ?_
          exact WkX.of () (WkS.perm (WkS.nil) (List.Perm.refl _) (List.Perm.refl _))
    · intro y20 s20 hx20 hw20; subst hx20; clear hm; have hm := ho20; simp only [Sum.elim_inl] at hm; clear q20 ho20
      refine then_normal ?_
      refine wpD_wkX hw20 (fun z20 => ?_)
      refine wpD_seq ?_
      refine wpD_region ?_
      refine p_pure htab rfl rfl rfl rfl ?_
      refine ops_nil ?_
      refine then_normal ?_
      refine wpD_ret ?_
      have er37 := yes_eq hm; subst er37
      refine retX.of (s' := ⟨[(4, .v (.bool true))], [], []⟩) (WkS.perm (WkS.cons rfl (Wk.refl _) (WkS.nil)) (List.Perm.refl _) (List.Perm.refl _)) (retD_mk (hh := []) (.inl rfl) (resL_cons (resOne_tmp rfl) (resL_nil)) (List.nil_sublist _) (List.Sublist.refl _) ?_)
      exact ⟨rfl, rfl, rfl⟩
noncomputable def l17_lives : Option (Bool) :=
  ((flow_Graph (⟨ByteArray.empty, [], [], ([(⟨(8 : Int), ByteArray.empty, ByteArray.empty, ([(⟨(1 : Int), (3 : Int), ByteArray.empty, [], (0 : Int)⟩ : TApiExpr)] : List TApiExpr), [], [], (0 : Int)⟩ : TApiStmt)] : List TApiStmt), (0 : Int)⟩ : TApiFunc)).bind fun x2 => (bif (x2.gNodes == (3 : Int)) then (bif ((x2.gEdges.length : Int) == (2 : Int)) then ((idx x2.gEdges (0 : Int)).bind fun x6 => (bif (x6.gTo == (1 : Int)) then ((idx x2.gEdges (1 : Int)).bind fun x8 => some (x8.gFrom == (2 : Int))) else some false)) else some false) else some false))
set_option maxRecDepth 100000 in
set_option maxHeartbeats 2000000 in
theorem l17_lives_ok  (r : Bool) (h0 : l17_lives = some r) : CallsD Try.prog 10 [] [] [] (fun d h k => d = .v (.bool r) ∧ h = [] ∧ k = []) := by
  have hm := yes_of h0
  unfold l17_lives at hm
  clear h0
  refine enterX htab Try.func10 rfl rfl rfl rfl rfl (fun C => ?_)
  refine wpD_seq ?_
  refine wpD_region ?_
  refine p_pure htab rfl rfl rfl rfl ?_
  refine ops_nil ?_
  refine then_normal ?_
  refine wpD_seq ?_
  refine wpD_region ?_
  refine p_build (r := [.v (.int .i64 (1 : Int)), .v (.int .i64 (3 : Int)), .v (.string ByteArray.empty), .lst 1 [] .full, .v (.int .i64 (0 : Int))]) htab rfl rfl rfl rfl rfl rfl rfl rfl rfl ?_
  refine p_lit htab rfl rfl rfl rfl rfl rfl rfl rfl rfl rfl rfl rfl rfl rfl ?_
  refine p_eq (i := 3) (d' := .lst 5 (([(⟨(1 : Int), (3 : Int), ByteArray.empty, [], (0 : Int)⟩ : TApiExpr)] : List TApiExpr).map eTApiExpr) .full) rfl (Wk.lst0 (.cons (WkC.trans (WkC.agg (WkR.cons (WkC.refl _) rfl (WkR.cons (WkC.refl _) rfl (WkR.cons (WkC.refl _) rfl (WkR.cons (WkC.nil) rfl (WkR.cons (WkC.refl _) rfl (WkR.nil))))))) (WkC.of_eq (eTApiExpr_eq (⟨(1 : Int), (3 : Int), ByteArray.empty, [], (0 : Int)⟩ : TApiExpr)).symm)) (.nil))) ?_
  refine p_build (r := [.v (.int .i64 (8 : Int)), .v (.string ByteArray.empty), .v (.string ByteArray.empty), .lst 5 (([(⟨(1 : Int), (3 : Int), ByteArray.empty, [], (0 : Int)⟩ : TApiExpr)] : List TApiExpr).map eTApiExpr) .full, .lst 1 [] .full, .lst 1 [] .full, .v (.int .i64 (0 : Int))]) htab rfl rfl rfl rfl rfl rfl rfl rfl rfl ?_
  refine p_lit htab rfl rfl rfl rfl rfl rfl rfl rfl rfl rfl rfl rfl rfl rfl ?_
  refine p_eq (i := 5) (d' := .lst 7 (([(⟨(8 : Int), ByteArray.empty, ByteArray.empty, ([(⟨(1 : Int), (3 : Int), ByteArray.empty, [], (0 : Int)⟩ : TApiExpr)] : List TApiExpr), [], [], (0 : Int)⟩ : TApiStmt)] : List TApiStmt).map eTApiStmt) .full) rfl (Wk.lst0 (.cons (WkC.trans (WkC.agg (WkR.cons (WkC.refl _) rfl (WkR.cons (WkC.refl _) rfl (WkR.cons (WkC.refl _) rfl (WkR.cons (WkC.no) rfl (WkR.cons (WkC.nil) rfl (WkR.cons (WkC.nil) rfl (WkR.cons (WkC.refl _) rfl (WkR.nil))))))))) (WkC.of_eq (eTApiStmt_eq (⟨(8 : Int), ByteArray.empty, ByteArray.empty, ([(⟨(1 : Int), (3 : Int), ByteArray.empty, [], (0 : Int)⟩ : TApiExpr)] : List TApiExpr), [], [], (0 : Int)⟩ : TApiStmt)).symm)) (.nil))) ?_
  refine p_build (r := [.v (.string ByteArray.empty), .lst 1 [] .full, .lst 1 [] .full, .lst 7 (([(⟨(8 : Int), ByteArray.empty, ByteArray.empty, ([(⟨(1 : Int), (3 : Int), ByteArray.empty, [], (0 : Int)⟩ : TApiExpr)] : List TApiExpr), [], [], (0 : Int)⟩ : TApiStmt)] : List TApiStmt).map eTApiStmt) .full, .v (.int .i64 (0 : Int))]) htab rfl rfl rfl rfl rfl rfl rfl rfl rfl ?_
  obtain ⟨x2, q2, hm⟩ := yes_bind hm
  refine p_callG (flow_Graph_ok (⟨ByteArray.empty, [], [], ([(⟨(8 : Int), ByteArray.empty, ByteArray.empty, ([(⟨(1 : Int), (3 : Int), ByteArray.empty, [], (0 : Int)⟩ : TApiExpr)] : List TApiExpr), [], [], (0 : Int)⟩ : TApiStmt)] : List TApiStmt), (0 : Int)⟩ : TApiFunc) x2 q2) rfl rfl rfl rfl rfl (WkL.cons (Wk.agg (WkR.cons (WkC.refl _) rfl (WkR.cons (WkC.nil) rfl (WkR.cons (WkC.nil) rfl (WkR.cons (WkC.no) rfl (WkR.cons (WkC.refl _) rfl (WkR.nil))))))) (WkL.refl _)) (List.Perm.refl _) (List.Perm.refl _) ?_
  rintro _ _ _ ⟨w1, rfl, rfl, rfl⟩
  refine p_alloc htab rfl rfl rfl rfl rfl rfl rfl (fun b3 => ?_)
  refine p_store (ds' := [.v (.string x2.gFunc), .v (.int .i64 x2.gNodes), .lst 6 (x2.gEdges.map eTApiEdge) (.cur w1), .lst 2 (x2.gVars.map eTApiVar) .no, .v (.int .i64 x2.gMany)]) (h' := [(b3, Blk.cells [.v (.string x2.gFunc), .v (.int .i64 x2.gNodes), .lst 6 (x2.gEdges.map eTApiEdge) (.cur w1), .lst 2 (x2.gVars.map eTApiVar) .no, .v (.int .i64 x2.gMany)] 28)]) 0 htab rfl rfl rfl rfl rfl rfl rfl rfl rfl rfl rfl rfl ?_
  refine ops_nil ?_
  refine then_normal ?_
  refine wpD_seq ?_
  refine wpD_region ?_
  refine p_pure htab rfl rfl rfl rfl ?_
  refine p_load 0 htab rfl rfl rfl rfl rfl rfl rfl rfl ?_
  refine p_pure htab rfl rfl rfl rfl ?_
  refine p_pure htab rfl rfl rfl rfl ?_
  refine p_split (i := 11) rfl (fun hg4 => ?_) (fun hg4 => ?_)
  · replace hm := yes_t hg4 hm
    refine p_pure htab rfl rfl rfl rfl ?_
    refine p_load 0 htab rfl rfl rfl rfl rfl rfl rfl rfl ?_
    refine p_lenL htab rfl rfl rfl rfl rfl rfl rfl (by first | exact map_len | rfl) ?_
    refine p_pure htab rfl rfl rfl rfl ?_
    refine p_pickT rfl rfl rfl rfl rfl rfl ?_
    refine p_pure htab rfl rfl rfl rfl ?_
    refine p_split (i := 17) rfl (fun hg5 => ?_) (fun hg5 => ?_)
    · replace hm := yes_t hg5 hm
      refine p_pure htab rfl rfl rfl rfl ?_
      refine p_load 0 htab rfl rfl rfl rfl rfl rfl rfl rfl ?_
      obtain ⟨x6, q6, hm⟩ := yes_bind hm
      refine p_elem htab rfl rfl rfl rfl rfl rfl rfl rfl rfl rfl (idx_nonneg q6) (idx_map q6) ?_
      refine p_pure htab rfl rfl rfl rfl ?_
      refine p_loadEl htab rfl rfl rfl rfl rfl rfl rfl rfl ?_
      refine p_pure htab rfl rfl rfl rfl ?_
      refine p_pickT rfl rfl rfl rfl rfl rfl ?_
      refine p_pure htab rfl rfl rfl rfl ?_
      refine p_split (i := 25) rfl (fun hg7 => ?_) (fun hg7 => ?_)
      · replace hm := yes_t hg7 hm
        refine p_pure htab rfl rfl rfl rfl ?_
        refine p_load 0 htab rfl rfl rfl rfl rfl rfl rfl rfl ?_
        obtain ⟨x8, q8, hm⟩ := yes_bind hm
        refine p_elem htab rfl rfl rfl rfl rfl rfl rfl rfl rfl rfl (idx_nonneg q8) (idx_map q8) ?_
        refine p_pure htab rfl rfl rfl rfl ?_
        refine p_loadEl htab rfl rfl rfl rfl rfl rfl rfl rfl ?_
        refine p_pure htab rfl rfl rfl rfl ?_
        refine p_pickT rfl rfl rfl rfl rfl rfl ?_
        refine p_pure htab rfl rfl rfl rfl ?_
        refine ops_nil ?_
        refine then_normal ?_
        refine wpD_ret ?_
        have er9 := yes_eq hm; subst er9
        refine retX.of (s' := ⟨[(0, .v (.bool (x8.gFrom == (2 : Int))))], [], []⟩) (WkS.perm (WkS.cons rfl (Wk.refl _) (WkS.nil)) (List.Perm.refl _) (List.Perm.refl _)) (retD_mk (hh := []) (.inl rfl) (resL_cons (resOne_tmp rfl) (resL_nil)) (List.nil_sublist _) (List.Sublist.refl _) ?_)
        exact ⟨rfl, rfl, rfl⟩
      · replace hm := yes_f hg7 hm
        refine p_skip rfl rfl rfl ?_
        refine p_skip rfl rfl rfl ?_
        refine p_skip rfl rfl rfl ?_
        refine p_skip rfl rfl rfl ?_
        refine p_skip rfl rfl rfl ?_
        refine p_skip rfl rfl rfl ?_
        refine p_pickF rfl rfl rfl rfl rfl rfl ?_
        refine p_pure htab rfl rfl rfl rfl ?_
        refine ops_nil ?_
        refine then_normal ?_
        refine wpD_ret ?_
        have er10 := yes_eq hm; subst er10
        refine retX.of (s' := ⟨[(0, .v (.bool false))], [], []⟩) (WkS.perm (WkS.cons rfl (Wk.refl _) (WkS.nil)) (List.Perm.refl _) (List.Perm.refl _)) (retD_mk (hh := []) (.inl rfl) (resL_cons (resOne_tmp rfl) (resL_nil)) (List.nil_sublist _) (List.Sublist.refl _) ?_)
        exact ⟨rfl, rfl, rfl⟩
    · replace hm := yes_f hg5 hm
      refine p_skip rfl rfl rfl ?_
      refine p_skip rfl rfl rfl ?_
      refine p_skip rfl rfl rfl ?_
      refine p_skip rfl rfl rfl ?_
      refine p_skip rfl rfl rfl ?_
      refine p_skip rfl rfl rfl ?_
      refine p_pickF rfl rfl rfl rfl rfl rfl ?_
      refine p_pure htab rfl rfl rfl rfl ?_
      refine p_skip rfl rfl rfl ?_
      refine p_skip rfl rfl rfl ?_
      refine p_skip rfl rfl rfl ?_
      refine p_skip rfl rfl rfl ?_
      refine p_skip rfl rfl rfl ?_
      refine p_skip rfl rfl rfl ?_
      refine p_pickF rfl rfl rfl rfl rfl rfl ?_
      refine p_pure htab rfl rfl rfl rfl ?_
      refine ops_nil ?_
      refine then_normal ?_
      refine wpD_ret ?_
      have er11 := yes_eq hm; subst er11
      refine retX.of (s' := ⟨[(0, .v (.bool false))], [], []⟩) (WkS.perm (WkS.cons rfl (Wk.refl _) (WkS.nil)) (List.Perm.refl _) (List.Perm.refl _)) (retD_mk (hh := []) (.inl rfl) (resL_cons (resOne_tmp rfl) (resL_nil)) (List.nil_sublist _) (List.Sublist.refl _) ?_)
      exact ⟨rfl, rfl, rfl⟩
  · replace hm := yes_f hg4 hm
    refine p_skip rfl rfl rfl ?_
    refine p_skip rfl rfl rfl ?_
    refine p_skip rfl rfl rfl ?_
    refine p_skip rfl rfl rfl ?_
    refine p_pickF rfl rfl rfl rfl rfl rfl ?_
    refine p_pure htab rfl rfl rfl rfl ?_
    refine p_skip rfl rfl rfl ?_
    refine p_skip rfl rfl rfl ?_
    refine p_skip rfl rfl rfl ?_
    refine p_skip rfl rfl rfl ?_
    refine p_skip rfl rfl rfl ?_
    refine p_skip rfl rfl rfl ?_
    refine p_pickF rfl rfl rfl rfl rfl rfl ?_
    refine p_pure htab rfl rfl rfl rfl ?_
    refine p_skip rfl rfl rfl ?_
    refine p_skip rfl rfl rfl ?_
    refine p_skip rfl rfl rfl ?_
    refine p_skip rfl rfl rfl ?_
    refine p_skip rfl rfl rfl ?_
    refine p_skip rfl rfl rfl ?_
    refine p_pickF rfl rfl rfl rfl rfl rfl ?_
    refine p_pure htab rfl rfl rfl rfl ?_
    refine ops_nil ?_
    refine then_normal ?_
    refine wpD_ret ?_
    have er12 := yes_eq hm; subst er12
    refine retX.of (s' := ⟨[(0, .v (.bool false))], [], []⟩) (WkS.perm (WkS.cons rfl (Wk.refl _) (WkS.nil)) (List.Perm.refl _) (List.Perm.refl _)) (retD_mk (hh := []) (.inl rfl) (resL_cons (resOne_tmp rfl) (resL_nil)) (List.nil_sublist _) (List.Sublist.refl _) ?_)
    exact ⟨rfl, rfl, rfl⟩
abbrev nlFl3_10 : List (List Nat) := [[],[0],[],[0,1,2],[0,1,2,3],[0,1,2,3,4],[0,1,2,3,4,5],[0,1,2,3,4],[0,1,2,3,4,5,6,7],[0,1,2,3,4,5,6,7,8],[0,1,2,3,4,5,6,7,8,9],[0,1,2,3,4,5,6,7,8,9,10],[0,1,2,3,4,5,6,7,8,9,10,11],[0,1,2,3,4,5,6,7,8,9,10,11,12]]
noncomputable def l17_FlowGraphs (a0 : TApiFunc) : Option (Bool) :=
  ((r17_Graph a0).bind fun x4 => ((flow_Graph a0).bind fun x7 => ((r17_Same x7 x4.1).bind fun x8 => (bif x8 then ((flow_Places a0).bind fun x12 => ((r11_Ints x12 x4.2).bind fun x15 => (bif x15 then (l17_lives.bind fun x17 => some x17) else some false))) else some false))))
set_option maxRecDepth 100000 in
set_option maxHeartbeats 2000000 in
theorem l17_FlowGraphs_ok (a0 : TApiFunc) (r : Bool) (h0 : l17_FlowGraphs a0 = some r) : CallsD Try.prog 3 [eTApiFunc a0] [] [] (fun d h k => d = .v (.bool r) ∧ h = [] ∧ k = []) := by
  have hm := yes_of h0
  unfold l17_FlowGraphs at hm
  clear h0
  refine enterX htab Try.func3 rfl rfl rfl rfl rfl (fun C => ?_)
  refine wpD_seq ?_
  refine wpD_region ?_
  refine p_box rfl rfl rfl rfl rfl rfl rfl (fun b1 => ?_)
  refine p_pure htab rfl rfl rfl rfl ?_
  refine ops_nil ?_
  refine then_normal ?_
  refine wpD_seq ?_
  refine wpD_region ?_
  refine p_load (d := eTApiFunc a0) 0 htab rfl rfl rfl rfl rfl rfl rfl rfl ?_
  obtain ⟨x4, q4, hm⟩ := yes_bind hm
  refine p_callG (r17_Graph_ok a0 x4 q4) rfl rfl rfl rfl rfl (WkL.refl _) (List.Perm.refl _) (List.Perm.refl _) ?_
  rintro _ _ _ ⟨w2, w3, rfl, rfl, rfl⟩
  refine p_pure htab rfl rfl rfl rfl ?_
  refine p_pure htab rfl rfl rfl rfl ?_
  refine p_pure htab rfl rfl rfl rfl ?_
  refine p_alloc htab rfl rfl rfl rfl rfl rfl rfl (fun b5 => ?_)
  refine p_store (ds' := [.v (.string x4.1.gFunc), .v (.int .i64 x4.1.gNodes), .lst 6 (x4.1.gEdges.map eTApiEdge) (.cur w2), .lst 2 (x4.1.gVars.map eTApiVar) (.cur w3), .v (.int .i64 x4.1.gMany)]) (h' := [(b1, Blk.cells [.v (.string a0.gName), .lst 2 (a0.gParams.map eTApiVar) .no, .lst 2 (a0.gLocals.map eTApiVar) .no, .lst 7 (a0.gBody.map eTApiStmt) .no, .v (.int .i64 a0.gAt)] 25), (b5, Blk.cells [.v (.string x4.1.gFunc), .v (.int .i64 x4.1.gNodes), .lst 6 (x4.1.gEdges.map eTApiEdge) (.cur w2), .lst 2 (x4.1.gVars.map eTApiVar) (.cur w3), .v (.int .i64 x4.1.gMany)] 28)]) 1 htab rfl rfl rfl rfl rfl rfl rfl rfl rfl rfl rfl rfl ?_
  refine p_pure htab rfl rfl rfl rfl ?_
  refine ops_nil ?_
  refine then_normal ?_
  refine wpD_seq ?_
  obtain ⟨x7, q7, hm⟩ := yes_bind hm
  obtain ⟨x8, q8, hm⟩ := yes_bind hm
  refine bycB x8 (fun hs9 => ?_) (fun hs9 => ?_)
  · replace hm := yes_t hs9 hm
    obtain ⟨x12, q12, hm⟩ := yes_bind hm
    refine wpD_draws 8 [] [[],[0],[],[0,1,2],[0,1,2,3],[0,1,2,3],[0,1,2,3,5],[0,1,2,3]] [0,1,2,3,5,6,7] nlFl3_10 (by kernel_rfl) (by kernel_rfl) (by kernel_rfl) (by rfl) (by rfl) (by kernel_rfl) ?_
    apply Exists.intro
    apply Exists.intro
    apply Exists.intro
    apply Exists.intro
    apply Exists.intro
    apply Exists.intro
    apply Exists.intro
    intro bs
    refine z_eM rfl rfl (xm_load (d := eTApiFunc a0) 0 htab rfl rfl rfl rfl rfl) rfl rfl rfl rfl rfl rfl ?_
    refine z_call rfl rfl (flow_Graph_ok0 a0 x7 q7) rfl rfl (WkL.refl _) rfl rfl rfl rfl rfl rfl ?_
    refine z_eM rfl rfl (xm_load (d := .agg [.v (.string x4.1.gFunc), .v (.int .i64 x4.1.gNodes), .lst 6 (x4.1.gEdges.map eTApiEdge) (.cur w2), .lst 2 (x4.1.gVars.map eTApiVar) (.cur w3), .v (.int .i64 x4.1.gMany)]) 1 htab rfl rfl rfl rfl rfl) rfl rfl rfl rfl rfl rfl ?_
    refine z_call rfl rfl (r17_Same_ok x7 x4.1 x8 q8) rfl rfl (WkL.cons (Wk.refl _) (WkL.cons (Wk.agg (WkR.cons (WkC.refl _) rfl (WkR.cons (WkC.refl _) rfl (WkR.cons (WkC.no) rfl (WkR.cons (WkC.no) rfl (WkR.cons (WkC.refl _) rfl (WkR.nil))))))) (WkL.refl _))) rfl rfl rfl rfl rfl rfl ?_
    refine z_q rfl rfl (ex_pure htab rfl) rfl rfl rfl rfl rfl rfl ?_
    refine z_known (j := 14) (b' := true) rfl hs9 ?_
    refine z_eM rfl rfl (xm_load (d := eTApiFunc a0) 0 htab rfl rfl rfl rfl rfl) rfl rfl rfl rfl rfl rfl ?_
    refine z_call rfl rfl (flow_Places_ok0 a0 x12 q12) rfl rfl (WkL.refl _) rfl rfl rfl rfl rfl rfl ?_
    refine z_e rfl rfl (ex_pure htab rfl) rfl rfl rfl rfl rfl rfl ?_
    refine z_nil rfl rfl (fun e he => by simp [isAl] at he) ?_
    obtain ⟨x15, q15, hm⟩ := yes_bind hm
    refine p_call0 (r11_Ints_ok x12 x4.2 x15 q15) rfl rfl rfl rfl rfl (WkL.refl _) ?_
    rintro _ rfl
    refine p_pickT rfl rfl rfl rfl rfl rfl ?_
    refine p_pure htab rfl rfl rfl rfl ?_
    refine p_split (i := 20) rfl (fun hg16 => ?_) (fun hg16 => ?_)
    · replace hm := yes_t hg16 hm
      obtain ⟨x17, q17, hm⟩ := yes_bind hm
      refine p_call0 (l17_lives_ok x17 q17) rfl rfl rfl rfl rfl (WkL.refl _) ?_
      rintro _ rfl
      refine p_pickT rfl rfl rfl rfl rfl rfl ?_
      refine p_pure htab rfl rfl rfl rfl ?_
      refine ops_nil ?_
      refine then_normal ?_
      refine wpD_ret ?_
      have er18 := yes_eq hm; subst er18
      refine retX.of (s' := ⟨[(2, .v (.bool x17))], [], []⟩) (WkS.perm (WkS.cons rfl (Wk.refl _) (WkS.nil)) (List.Perm.refl _) (List.Perm.refl _)) (retD_mk (hh := []) (.inl rfl) (resL_cons (resOne_tmp rfl) (resL_nil)) (List.nil_sublist _) (List.Sublist.refl _) ?_)
      exact ⟨rfl, rfl, rfl⟩
    · replace hm := yes_f hg16 hm
      refine p_skip rfl rfl rfl ?_
      refine p_pickF rfl rfl rfl rfl rfl rfl ?_
      refine p_pure htab rfl rfl rfl rfl ?_
      refine ops_nil ?_
      refine then_normal ?_
      refine wpD_ret ?_
      have er19 := yes_eq hm; subst er19
      refine retX.of (s' := ⟨[(2, .v (.bool false))], [], []⟩) (WkS.perm (WkS.cons rfl (Wk.refl _) (WkS.nil)) (List.Perm.refl _) (List.Perm.refl _)) (retD_mk (hh := []) (.inl rfl) (resL_cons (resOne_tmp rfl) (resL_nil)) (List.nil_sublist _) (List.Sublist.refl _) ?_)
      exact ⟨rfl, rfl, rfl⟩
  · replace hm := yes_f hs9 hm
    refine wpD_draws 8 [] [[],[0],[],[0,1,2],[0,1,2,3],[0,1,2,3],[0,1,2,3],[0,1,2,3]] [0,1,2,3] nlFl3_10 (by kernel_rfl) (by kernel_rfl) (by kernel_rfl) (by rfl) (by rfl) (by kernel_rfl) ?_
    apply Exists.intro
    apply Exists.intro
    apply Exists.intro
    apply Exists.intro
    intro bs
    refine z_eM rfl rfl (xm_load (d := eTApiFunc a0) 0 htab rfl rfl rfl rfl rfl) rfl rfl rfl rfl rfl rfl ?_
    refine z_call rfl rfl (flow_Graph_ok0 a0 x7 q7) rfl rfl (WkL.refl _) rfl rfl rfl rfl rfl rfl ?_
    refine z_eM rfl rfl (xm_load (d := .agg [.v (.string x4.1.gFunc), .v (.int .i64 x4.1.gNodes), .lst 6 (x4.1.gEdges.map eTApiEdge) (.cur w2), .lst 2 (x4.1.gVars.map eTApiVar) (.cur w3), .v (.int .i64 x4.1.gMany)]) 1 htab rfl rfl rfl rfl rfl) rfl rfl rfl rfl rfl rfl ?_
    refine z_call rfl rfl (r17_Same_ok x7 x4.1 x8 q8) rfl rfl (WkL.cons (Wk.refl _) (WkL.cons (Wk.agg (WkR.cons (WkC.refl _) rfl (WkR.cons (WkC.refl _) rfl (WkR.cons (WkC.no) rfl (WkR.cons (WkC.no) rfl (WkR.cons (WkC.refl _) rfl (WkR.nil))))))) (WkL.refl _))) rfl rfl rfl rfl rfl rfl ?_
    refine z_q rfl rfl (ex_pure htab rfl) rfl rfl rfl rfl rfl rfl ?_
    refine z_known (j := 14) (b' := false) rfl hs9 ?_
    refine z_skip rfl rfl rfl rfl ?_
    refine z_skip rfl rfl rfl rfl ?_
    refine z_skip rfl rfl rfl rfl ?_
    refine z_nil rfl rfl (fun e he => by simp [isAl] at he) ?_
    refine p_skip rfl rfl rfl ?_
    refine p_pickF rfl rfl rfl rfl rfl rfl ?_
    refine p_pure htab rfl rfl rfl rfl ?_
    refine p_skip rfl rfl rfl ?_
    refine p_pickF rfl rfl rfl rfl rfl rfl ?_
    refine p_pure htab rfl rfl rfl rfl ?_
    refine ops_nil ?_
    refine then_normal ?_
    refine wpD_ret ?_
    have er22 := yes_eq hm; subst er22
    refine retX.of (s' := ⟨[(2, .v (.bool false))], [], []⟩) (WkS.perm (WkS.cons rfl (Wk.refl _) (WkS.nil)) (List.Perm.refl _) (List.Perm.refl _)) (retD_mk (hh := []) (.inl rfl) (resL_cons (resOne_tmp rfl) (resL_nil)) (List.nil_sublist _) (List.Sublist.refl _) ?_)
    exact ⟨rfl, rfl, rfl⟩
noncomputable def r11_Stmts_b (g0 : (List TApiStmt) → Option (List TApiStmt)) (a0 : List TApiStmt) : Option (List TApiStmt) :=
  (Option.bind (α := List TApiStmt) (loopM (fun (s40 : List TApiStmt × Int) => (bif (decide (s40.2 < (a0.length : Int))) then ((idx a0 s40.2).bind fun x67 => ((app 120 s40.1 ([x67] : List TApiStmt)).bind fun x68 => ((idx a0 s40.2).bind fun x69 => ((g0 x69.gKids).bind fun x71 => ((app 120 x68 x71).bind fun x72 => ((idx a0 s40.2).bind fun x73 => ((g0 x73.gElse).bind fun x75 => ((app 120 x72 x75).bind fun x76 => some (.next (x76, (IntKind.i64.wrap (s40.2 + (1 : Int))))))))))))) else some (.done s40.1))) (([] : List TApiStmt), (0 : Int))) fun y39 => some y39)
set_option maxRecDepth 100000 in
set_option maxHeartbeats 2000000 in
theorem r11_Stmts_b_ok (g0 : (List TApiStmt) → Option (List TApiStmt)) (hg0 : ∀ (a0 : List TApiStmt) (r : List TApiStmt) (h0 : g0 a0 = some r), CallsD Try.prog 11 [.lst 7 (a0.map eTApiStmt) .no] [] [] (fun d h k => ∃ y0, d = .lst 7 (r.map eTApiStmt) (.cur y0) ∧ h = [] ∧ k = [(7, y0)])) (a0 : List TApiStmt) (r : List TApiStmt) (h0 : r11_Stmts_b g0 a0 = some r) : CallsD Try.prog 11 [.lst 7 (a0.map eTApiStmt) .no] [] [] (fun d h k => ∃ y0, d = .lst 7 (r.map eTApiStmt) (.cur y0) ∧ h = [] ∧ k = [(7, y0)]) := by
  have hm := yes_of h0
  unfold r11_Stmts_b at hm
  clear h0
  refine enterX htab Try.func11 rfl rfl rfl rfl rfl (fun C => ?_)
  refine wpD_seq ?_
  refine wpD_region ?_
  refine p_pure htab rfl rfl rfl rfl ?_
  refine ops_nil ?_
  refine then_normal ?_
  refine wpD_seq ?_
  refine wpD_region ?_
  refine p_pure htab rfl rfl rfl rfl ?_
  refine ops_nil ?_
  refine then_normal ?_
  refine wpD_seq ?_
  refine wpD_seq ?_
  refine wpD_region ?_
  refine p_pure htab rfl rfl rfl rfl ?_
  refine ops_nil ?_
  refine then_normal ?_
  obtain ⟨y39, q39, ho39⟩ := yes_bind hm
  refine wpD_mid (Y := Value) (fun z39 => (⟨[(3, .lst 7 (y39.map eTApiStmt) (.cur z39))], [], [(7, z39)]⟩ : S)) ?_ ?_
  · clear hm; have hm := yes_of q39
    refine wpD_block ?_
    obtain ⟨u40, hl40, hq40⟩ := yes_m hm
    refine loop_M (Y := Value) hl40 (fun s40 z40 => (⟨[(0, .lst 7 (a0.map eTApiStmt) .no), (3, .lst 7 (s40.1.map eTApiStmt) (.cur z40)), (4, .v (.int .i64 s40.2))], [], [(7, z40)]⟩ : S)) ?_ ?_
    · skip
      refine WkX.tokN (i := 3) 7 rfl (fun w65 => ?_)
      exact WkX.of w65 (WkS.perm (WkS.cons rfl (Wk.refl _) (WkS.cons rfl (Wk.refl _) (WkS.cons rfl (Wk.refl _) (WkS.nil)))) (List.Perm.refl _) (List.Perm.refl _))
    · intro G40 s40 z40 hm
      refine wpD_seq ?_
      refine wpD_seq ?_
      refine wpD_region ?_
      refine p_pure htab rfl rfl rfl rfl ?_
      refine p_pure htab rfl rfl rfl rfl ?_
      refine p_lenL htab rfl rfl rfl rfl rfl rfl rfl (by first | exact map_len | rfl) ?_
      refine p_pure htab rfl rfl rfl rfl ?_
      refine ops_nil ?_
      refine then_normal ?_
      refine wpD_cond rfl (fun hc66 => ?_) (fun hc66 => ?_)
      · replace hm := yes_t hc66 hm
        refine wpD_skip ?_
        refine then_normal ?_
        refine wpD_seq ?_
        refine wpD_block ?_
        refine wpD_seq ?_
        refine wpD_region ?_
        refine p_pure htab rfl rfl rfl rfl ?_
        refine p_pure htab rfl rfl rfl rfl ?_
        refine p_pure htab rfl rfl rfl rfl ?_
        obtain ⟨x67, q67, hm⟩ := yes_bind hm
        refine p_elem htab rfl rfl rfl rfl rfl rfl rfl rfl rfl rfl (idx_nonneg q67) (idx_map q67) ?_
        refine p_eq (i := 14) rfl (Wk.of_eq (congrArg D.el (eTApiStmt_eq x67))) ?_
        refine p_loadEl (d := .agg [.v (.int .i64 x67.gOp), .v (.string x67.gName), .v (.string x67.gFunc), .lst 5 (x67.gExps.map eTApiExpr) .no, .lst 7 (x67.gKids.map eTApiStmt) .no, .lst 7 (x67.gElse.map eTApiStmt) .no, .v (.int .i64 x67.gAt)]) htab rfl rfl rfl rfl rfl rfl rfl rfl ?_
        refine p_lit htab rfl rfl rfl rfl rfl rfl rfl rfl rfl rfl rfl rfl rfl rfl ?_
        refine p_eq (i := 16) (d' := .lst 7 (([x67] : List TApiStmt).map eTApiStmt) .full) rfl (Wk.lst0 (.cons (WkC.trans (WkC.agg (WkR.refl _)) (WkC.of_eq (eTApiStmt_eq x67).symm)) (.nil))) ?_
        obtain ⟨x68, q68, hm⟩ := yes_bind hm
        refine p_appC 0 htab rfl rfl rfl rfl rfl rfl rfl rfl rfl rfl rfl rfl rfl rfl rfl rfl rfl (app_bound q68) (fun v68 => ?_)
        refine p_mapD (i := 17) q68 rfl ?_
        refine p_pure htab rfl rfl rfl rfl ?_
        refine ops_nil ?_
        refine then_normal ?_
        refine wpD_seq ?_
        refine wpD_region ?_
        refine p_pure htab rfl rfl rfl rfl ?_
        refine p_pure htab rfl rfl rfl rfl ?_
        refine p_pure htab rfl rfl rfl rfl ?_
        obtain ⟨x69, q69, hm⟩ := yes_bind hm
        refine p_elem htab rfl rfl rfl rfl rfl rfl rfl rfl rfl rfl (idx_nonneg q69) (idx_map q69) ?_
        refine p_eq (i := 21) rfl (Wk.of_eq (congrArg D.el (eTApiStmt_eq x69))) ?_
        refine p_pure htab rfl rfl rfl rfl ?_
        refine p_loadEl htab rfl rfl rfl rfl rfl rfl rfl rfl ?_
        obtain ⟨x71, q71, hm⟩ := yes_bind hm
        refine p_callG (hg0 x69.gKids x71 q71) rfl rfl rfl rfl rfl (WkL.refl _) (List.Perm.refl _) (List.Perm.refl _) ?_
        rintro _ _ _ ⟨w70, rfl, rfl, rfl⟩
        obtain ⟨x72, q72, hm⟩ := yes_bind hm
        refine p_appC 1 htab rfl rfl rfl rfl rfl rfl rfl rfl rfl rfl rfl rfl rfl rfl rfl rfl rfl (app_bound q72) (fun v72 => ?_)
        refine p_mapD (i := 25) q72 rfl ?_
        refine p_pure htab rfl rfl rfl rfl ?_
        refine ops_nil ?_
        refine then_normal ?_
        refine wpD_region ?_
        refine p_pure htab rfl rfl rfl rfl ?_
        refine p_pure htab rfl rfl rfl rfl ?_
        refine p_pure htab rfl rfl rfl rfl ?_
        obtain ⟨x73, q73, hm⟩ := yes_bind hm
        refine p_elem htab rfl rfl rfl rfl rfl rfl rfl rfl rfl rfl (idx_nonneg q73) (idx_map q73) ?_
        refine p_eq (i := 29) rfl (Wk.of_eq (congrArg D.el (eTApiStmt_eq x73))) ?_
        refine p_pure htab rfl rfl rfl rfl ?_
        refine p_loadEl htab rfl rfl rfl rfl rfl rfl rfl rfl ?_
        obtain ⟨x75, q75, hm⟩ := yes_bind hm
        refine p_callG (hg0 x73.gElse x75 q75) rfl rfl rfl rfl rfl (WkL.refl _) (List.Perm.refl _) (List.Perm.refl _) ?_
        rintro _ _ _ ⟨w74, rfl, rfl, rfl⟩
        obtain ⟨x76, q76, hm⟩ := yes_bind hm
        refine p_appC 1 htab rfl rfl rfl rfl rfl rfl rfl rfl rfl rfl rfl rfl rfl rfl rfl rfl rfl (app_bound q76) (fun v76 => ?_)
        refine p_mapD (i := 33) q76 rfl ?_
        refine p_pure htab rfl rfl rfl rfl ?_
        refine ops_nil ?_
        refine block_normal ?_
        refine then_normal ?_
        refine wpD_region ?_
        refine p_pure htab rfl rfl rfl rfl ?_
        refine p_pure htab rfl rfl rfl rfl ?_
        refine p_pure htab rfl rfl rfl rfl ?_
        refine ops_nil ?_
        refine then_normal ⟨_, lp_next hm, ?_⟩
        exact WkX.of v76 (WkS.perm (WkS.cons rfl (Wk.refl _) (WkS.cons rfl (Wk.refl _) (WkS.cons rfl (Wk.refl _) (WkS.nil)))) (List.Perm.refl _) (List.Perm.refl _))
      · replace hm := yes_f hc66 hm
        refine wpD_exit ?_
        refine then_exit ?_
        have e40 := lp_done hm; subst e40; clear hm; have hm := hq40
        refine then_exit ?_
        refine block_hit ?_
        have e39 := yes_eq hm; subst e39
        refine ⟨rfl, ?_⟩
        exact WkX.of z40 (WkS.perm (WkS.cons rfl (Wk.refl _) (WkS.nil)) (List.Perm.refl _) (List.Perm.refl _))
  · intro s39 hw39; clear hm; have hm := ho39; clear q39 ho39
    refine then_normal ?_
    refine wpD_wkX hw39 (fun z39 => ?_)
    refine wpD_seq ?_
    refine wpD_region ?_
    refine p_pure htab rfl rfl rfl rfl ?_
    refine p_pure htab rfl rfl rfl rfl ?_
    refine ops_nil ?_
    refine then_normal ?_
    refine wpD_ret ?_
    have er77 := yes_eq hm; subst er77
    refine retX.of (s' := ⟨[(2, .lst 7 (y39.map eTApiStmt) (.cur z39))], [], [(7, z39)]⟩) (WkS.perm (WkS.cons rfl (Wk.refl _) (WkS.nil)) (List.Perm.refl _) (List.Perm.refl _)) (retD_mk (hh := []) (.inl rfl) (resL_cons (resOne_tmp rfl) (resL_nil)) (List.nil_sublist _) (List.Sublist.refl _) ?_)
    exact ⟨z39, rfl, rfl, rfl⟩
noncomputable def r11_Stmts_g : Nat → ((List TApiStmt) → Option (List TApiStmt))
  | 0 => (fun _ => none)
  | n + 1 => (r11_Stmts_b ((r11_Stmts_g n)))
theorem r11_Stmts_g_ok : ∀ n, (∀ (a0 : List TApiStmt) (r : List TApiStmt) (h0 : (r11_Stmts_g n) a0 = some r), CallsD Try.prog 11 [.lst 7 (a0.map eTApiStmt) .no] [] [] (fun d h k => ∃ y0, d = .lst 7 (r.map eTApiStmt) (.cur y0) ∧ h = [] ∧ k = [(7, y0)]))
  | 0 => fun _ _ h0 => by cases h0
  | n + 1 => by
    have ih := r11_Stmts_g_ok n
    exact r11_Stmts_b_ok (r11_Stmts_g n) ih
theorem r11_Stmts_g_le : ∀ n, (∀ (a0 : List TApiStmt), Le ((r11_Stmts_g n) a0) ((r11_Stmts_g (n + 1)) a0))
  | 0 => fun _ => Le.none _
  | n + 1 => by
    have ih := r11_Stmts_g_le n
    exact fun a0 => by show Le (r11_Stmts_b ((r11_Stmts_g n)) a0) (r11_Stmts_b ((r11_Stmts_g (n + 1))) a0); unfold r11_Stmts_b; repeat (first | exact Le.refl _ | exact ih _ | assumption | (refine Le.bind ?_ (fun _ => ?_)) | (refine Le.cond ?_ ?_) | (refine Le.loop (fun _ => ?_)) | (refine Le.elim (fun _ => ?_) (fun _ => ?_)))
noncomputable def r11_Stmts (a0 : List TApiStmt) : Option (List TApiStmt) := anyN fun n => (r11_Stmts_g n) a0
theorem r11_Stmts_of (a0 : List TApiStmt) {r : List TApiStmt} (n : Nat) (h : (r11_Stmts_g n) a0 = some r) : r11_Stmts a0 = some r := anyN_of (fun m => (r11_Stmts_g_le m) a0) h
theorem r11_Stmts_ok (a0 : List TApiStmt) (r : List TApiStmt) (h0 : r11_Stmts a0 = some r) : CallsD Try.prog 11 [.lst 7 (a0.map eTApiStmt) .no] [] [] (fun d h k => ∃ y0, d = .lst 7 (r.map eTApiStmt) (.cur y0) ∧ h = [] ∧ k = [(7, y0)]) :=
  let ⟨n, hn⟩ := anyN_inv h0; (r11_Stmts_g_ok n) a0  r hn
theorem r11_Stmts_ok0 (a0 : List TApiStmt) (r : List TApiStmt) (h0 : r11_Stmts a0 = some r) : CallsD Try.prog 11 [.lst 7 (a0.map eTApiStmt) .no] [] [] (fun d h k => d = .lst 7 (r.map eTApiStmt) .no ∧ h = [] ∧ k = []) :=
  (r11_Stmts_ok a0 r h0).drop fun d h k ⟨y0, e, _, _⟩ => by subst e; exact Wk.no
end Go.Proofs.Ytpapooaaccmnpaa.Ab
